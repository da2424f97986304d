/- Code: what PI says of it holds of the program's run. No conditions. -/
import Derived.Test.YtgpchgakonpcfaaGreatDoorPiRt
import Derived.Deep.LoopGhost
namespace Go.Pi
set_option linter.unusedVariables false
set_option linter.unusedSimpArgs false
set_option linter.constructorNameAsVariable false

def pcOk (P : Program) (N : Nat) : PC → Code → Bool
  | .skip, .skip => true
  | .reg ss, .region _ ops draw => !draw && stepsOk P N ops ss ops.toList
  | .rgd _ ss r, .region _ ops draw => draw && stepsOk P N ops ss ops.toList && Region.noSelect ops && Nat.ble (depth r) ops.size && rtOk ops (pmT ss (takes r)) (fun i => mem i (takes r)) r (Array.replicate ops.size false)
  | .seq a b, .seq c d => pcOk P N a c && pcOk P N b d
  | .cond x a b, .cond y c d => argOk x y && pcOk P N a c && pcOk P N b d
  | .blk i b, .block j d => Nat.beq i j && pcOk P N b d
  | .loop _ b, .loop d => pcOk P N b d
  | .exit i, .exit j => Nat.beq i j
  | .ret, .ret => true
  | _, _ => false

section
variable {P : Program} {E : List Fun} {c : Ctx P}

theorem Post.mono {kk kk' : Ex → St → Prop} (h : ∀ e st, kk e st → kk' e st) : ∀ e a w, Post c kk e a w → Post c kk' e a w := fun e a w hp => by
  cases e <;> first
    | exact hp.elim
    | (obtain ⟨ρ, st, h1, h2⟩ := hp; exact ⟨ρ, st, h1, h _ _ h2⟩)

theorem exec_out (hE : EnvOk P E) (hm : P.follows .mixedOrders = true) (fuel : Nat) : ∀ (pc : PC) {code : Code} {st : St} {kk : Ex → St → Prop} {ρ : Map} {a : Act} {w : World},
    pcOk P c.N pc code = true → Rel c ρ [] [] st a w → execK E fuel pc st kk → code.wp P (Post c kk) a w
  | .skip, code, st, kk, ρ, a, w, hc, h, hk => by
    cases code <;> first
      | (cases hc; done)
      | exact wp_skip ⟨ρ, st, h, hk⟩
  | .reg ss, code, st, kk, ρ, a, w, hc, h, hk => by
    cases code <;> first
      | (cases hc; done)
      | skip
    rename_i id ops draw
    simp only [pcOk, Bool.and_eq_true, Bool.not_eq_true'] at hc
    obtain ⟨hd, hs⟩ := hc
    subst hd
    exact reg_out hE hs h hk fun ρ' st' a' w' h1 h2 => ⟨ρ', st', h1, h2⟩
  | .rgd A ss r, code, st, kk, ρ, a, w, hc, h, hk => by
    cases code <;> first
      | (cases hc; done)
      | skip
    rename_i id ops draw
    simp only [pcOk, Bool.and_eq_true] at hc
    obtain ⟨⟨⟨⟨hd, hs⟩, hsel⟩, hdep⟩, hok⟩ := hc
    subst hd
    exact rgd_out hE hm hs hsel (Nat.le_of_ble_eq_true hdep) hok h hk (fun ρ' st' a' w' h1 _ h2 => ⟨ρ', st', h1, h2⟩) (fun _ _ _ h => h.elim)
  | .seq x y, code, st, kk, ρ, a, w, hc, h, hk => by
    cases code <;> first
      | (cases hc; done)
      | skip
    rename_i cx cy
    simp only [pcOk, Bool.and_eq_true] at hc
    have hk : execK E fuel x st (kseq (fun st => execK E fuel y st kk) kk) := hk
    refine wp_seq (wp_mono (exec_out hE hm fuel x hc.1 h hk) fun e a' w' hp => ?_)
    cases e <;> first
      | exact hp.elim
      | (obtain ⟨ρ', st', h1, h2⟩ := hp
         first
          | exact exec_out hE hm fuel y hc.2 h1 h2
          | exact ⟨ρ', st', h1, h2⟩)
  | .cond x y z, code, st, kk, ρ, a, w, hc, h, hk => by
    cases code <;> first
      | (cases hc; done)
      | skip
    rename_i o cx cy
    simp only [pcOk, Bool.and_eq_true] at hc
    obtain ⟨b, hb, hk⟩ := condK_out (h.ev _ _ hc.1.1) hk
    refine wp_cond hb ?_
    cases b with
    | true => exact exec_out hE hm fuel y hc.1.2 h hk
    | false => exact exec_out hE hm fuel z hc.2 h hk
  | .blk i b, code, st, kk, ρ, a, w, hc, h, hk => by
    cases code <;> first
      | (cases hc; done)
      | skip
    rename_i j d
    simp only [pcOk, Bool.and_eq_true] at hc
    have hij := Nat.eq_of_beq_eq_true hc.1
    subst hij
    have hk : execK E fuel b st (kblk i kk) := hk
    refine wp_block (wp_mono (exec_out hE hm fuel b hc.2 h hk) fun e a' w' hp => ?_)
    cases e <;> first
      | exact hp.elim
      | skip
    · obtain ⟨ρ', st', h1, h2⟩ := hp; exact ⟨ρ', st', h1, h2⟩
    · rename_i id'
      obtain ⟨ρ', st', h1, h2⟩ := hp
      simp only [Exit.inBlock]
      simp only [kblk] at h2
      by_cases e : id' = i
      · subst e
        rw [if_pos rfl]
        have : Nat.beq id' id' = true := by simp
        rw [this] at h2
        exact ⟨ρ', st', h1, h2⟩
      · rw [if_neg e]
        have : Nat.beq id' i = false := by
          cases hb : Nat.beq id' i with
          | false => rfl
          | true => exact absurd (Nat.eq_of_beq_eq_true hb) e
        rw [this] at h2
        exact ⟨ρ', st', h1, h2⟩
    · obtain ⟨ρ', st', h1, h2⟩ := hp; exact ⟨ρ', st', h1, h2⟩
  | .loop L b, code, st, kk, ρ, a, w, hc, h, hk => by
    cases code <;> first
      | (cases hc; done)
      | skip
    rename_i d
    have hc : pcOk P c.N b d = true := hc
    have hk : norm L st (fun st => iterN (execK E fuel b) L fuel st kk) := hk
    obtain ⟨ρ0, st0, h0, hk0, _⟩ := norm_out (n := c.qs) h hk
    refine wp_loop_ghost (fun n a w => ∃ ρ st, Rel c ρ [] [] st a w ∧ iterN (execK E fuel b) L n st kk) fuel ⟨ρ0, st0, h0, hk0⟩ fun n a' w' hI => ?_
    obtain ⟨ρ1, st1, h1, hk1⟩ := hI
    cases n with
    | zero => exact hk1.elim
    | succ n =>
      have hk1 : execK E fuel b st1 (kseq (fun st => norm L st fun st => iterN (execK E fuel b) L n st kk) kk) := hk1
      refine wp_mono (exec_out hE hm fuel b hc h1 hk1) fun e a2 w2 hp => ?_
      cases e <;> first
        | exact hp.elim
        | skip
      · obtain ⟨ρ2, st2, h2, hk2⟩ := hp
        have hk2 : norm L st2 (fun st => iterN (execK E fuel b) L n st kk) := hk2
        obtain ⟨ρ3, st3, h3, hk3, _⟩ := norm_out (n := c.qs) h2 hk2
        exact ⟨n, Nat.lt_succ_self n, ρ3, st3, h3, hk3⟩
      · obtain ⟨ρ2, st2, h2, hk2⟩ := hp; exact ⟨ρ2, st2, h2, hk2⟩
      · obtain ⟨ρ2, st2, h2, hk2⟩ := hp; exact ⟨ρ2, st2, h2, hk2⟩
  | .exit i, code, st, kk, ρ, a, w, hc, h, hk => by
    cases code <;> first
      | (cases hc; done)
      | skip
    rename_i j
    have hij := Nat.eq_of_beq_eq_true (show Nat.beq i j = true from hc)
    subst hij
    exact wp_exit ⟨ρ, st, h, hk⟩
  | .ret, code, st, kk, ρ, a, w, hc, h, hk => by
    cases code <;> first
      | (cases hc; done)
      | exact wp_ret ⟨ρ, st, h, hk⟩
end
end Go.Pi
