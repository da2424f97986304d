/- Contracts of functions, each out of its run by PI. No conditions. -/
import Derived.Test.YtojoiikibimomaaGreatC8
namespace Go.Pi
open Go.Proofs
set_option linter.unusedVariables false
set_option linter.unusedSimpArgs false
set_option maxRecDepth 100000
attribute [local irreducible] iterN
/-! costs grow -/
def LeC (a b : Cost) : Prop := a.pulled ≤ b.pulled ∧ a.done ≤ b.done ∧ a.kept ≤ b.kept ∧ a.back ≤ b.back ∧ a.swept ≤ b.swept
def sumC (k : Cost) : Int := k.pulled + k.done + k.kept + k.swept
abbrev zC : Cost := ⟨0, 0, 0, 0, 0⟩
theorem doC_less {c : Core} {i : Int} (h : coreOk c = true) : (doC c i).1.rob.length ≤ c.rob.length := by
  have hp := putAt_len c i
  unfold doC
  rw [if_neg (by rw [h]; decide)]
  split
  · exact Nat.le_refl _
  · split
    · simp only [List.length_take]; omega
    · split
      · simp only [List.length_take]; omega
      · dsimp only; omega
theorem commitC_less {c : Core} (h : coreOk c = true) (h2 : (commitC c).2 = true) : (commitC c).1.rob.length < c.rob.length := by
  unfold commitC at h2 ⊢
  rw [if_neg (by rw [h]; decide)] at h2 ⊢
  split at h2
  · cases h2
  · rename_i q
    rw [if_neg q]
    have hl : 0 < c.rob.length := Nat.pos_of_ne_zero fun e => q (.inl e)
    split
    · exact hl
    · split
      · exact hl
      · simp only [List.length_drop]; omega
theorem oneC_pos {l : List Inst} {c : Core} {p : Pick} (h : (pickC l c p).2 = true) : LeC zC (oneC p c (pickC l c p).1) ∧ sumC (oneC p c (pickC l c p).1) ≤ 1 := by
  obtain ⟨hc, hk⟩ := pickC_yes h
  rcases hk with hk | hk | hk | hk
  · unfold oneC; rw [if_pos hk]; unfold LeC sumC; dsimp only; omega
  · have hl := doC_less (i := p.n) hc
    rw [pickC_2 hc hk]
    unfold oneC; rw [if_neg (by omega), if_pos hk]; unfold LeC sumC; dsimp only; omega
  · rw [pickC_3 hc hk] at h ⊢
    have hl := commitC_less hc h
    unfold oneC; rw [if_neg (by omega), if_neg (by omega), if_pos hk]
    split <;> (unfold LeC sumC; dsimp only; omega)
  · unfold oneC; rw [if_neg (by omega), if_neg (by omega), if_neg (by omega)]; unfold LeC sumC; dsimp only; omega
theorem costStep_grow (l : List Inst) (c : Core) (p : Pick) (k : Cost) : LeC k (costStep l c p k) ∧ sumC (costStep l c p k) ≤ sumC k + 1 := by
  unfold costStep
  split
  · rename_i h
    obtain ⟨h1, h2⟩ := oneC_pos h
    unfold LeC sumC addC at *; dsimp only at *; omega
  · unfold LeC sumC; omega
theorem costGo_grow (l : List Inst) : ∀ (ps : List Pick) (c : Core) (k : Cost), LeC k (costGo l ps c k) ∧ sumC (costGo l ps c k) ≤ sumC k + ps.length
  | [], c, k => by unfold costGo LeC; simp
  | p :: ps, c, k => by
    obtain ⟨h1, h2⟩ := costStep_grow l c p k
    obtain ⟨h3, h4⟩ := costGo_grow l ps (pickC l c p).1 (costStep l c p k)
    show LeC k (costGo l ps (pickC l c p).1 (costStep l c p k)) ∧ sumC (costGo l ps (pickC l c p).1 (costStep l c p k)) ≤ sumC k + (p :: ps).length
    rw [List.length_cons]
    unfold LeC at *; omega
def coreGo (l : List Inst) : List Pick → Core → Core
  | [], c => c
  | p :: ps, c => coreGo l ps (pickC l c p).1
theorem costGo_app (l : List Inst) : ∀ (a b : List Pick) (c : Core) (k : Cost), costGo l (a ++ b) c k = costGo l b (coreGo l a c) (costGo l a c k)
  | [], b, c, k => rfl
  | p :: a, b, c, k => costGo_app l a b (pickC l c p).1 (costStep l c p k)
theorem costGo_take (l : List Inst) (ps : List Pick) (n : Nat) (c : Core) (k : Cost) : LeC (costGo l (ps.take n) c k) (costGo l ps c k) := by
  have e : costGo l ps c k = costGo l (ps.drop n) (coreGo l (ps.take n) c) (costGo l (ps.take n) c k) := by
    rw [← costGo_app, List.take_append_drop]
  rw [e]
  exact (costGo_grow l _ _ _).1
theorem costOf_grows {l : List Inst} {s : State} {ps : List Pick} {n : Nat} (h : (costOf l s (ps.take n)).2 = true) (h2 : (costOf l s ps).2 = true) : LeC (costOf l s (ps.take n)).1 (costOf l s ps).1 ∧ sumC (costOf l s ps).1 ≤ ps.length := by
  unfold costOf at h h2 ⊢
  split at h2
  · rename_i q2
    split at h
    · rename_i q
      rw [if_pos q, if_pos q2]
      refine ⟨costGo_take _ _ _ _ _, ?_⟩
      have h3 := (costGo_grow l ps (coreNew s) zC).2
      have h4 : sumC zC = 0 := by decide
      rw [h4, Int.zero_add] at h3
      exact h3
    · cases h
  · cases h2
theorem costOf_f {l : List Inst} {s : State} {ps : List Pick} (h : (costOf l s ps).2 = false) : stateOk s = false ∨ 600 < ps.length := by
  unfold costOf at h
  split at h
  · cases h
  · rename_i q
    cases hs : stateOk s with
    | false => exact .inl rfl
    | true => right; exact Nat.lt_of_not_le fun hq => q ⟨hs, hq⟩
theorem costOf_bnd (l : List Inst) (s : State) {ps : List Pick} (h : ps.length ≤ 601) : BndC (costOf l s ps).1 100000 := by
  have go : ∀ (ps : List Pick) (c : Core) (k : Cost) (n : Int), 0 ≤ n → BndC k n → BndC (costGo l ps c k) (n + 8 * ps.length) := by
    intro ps
    induction ps with
    | nil => intro c k n _ hb; unfold costGo; exact bndC_mono hb (by simp)
    | cons p ps ih =>
      intro c k n hn hb
      have := ih (pickC l c p).1 (costStep l c p k) (n + 8) (by omega) (costStep_bnd hb hn)
      exact bndC_mono this (by rw [List.length_cons]; omega)
  unfold costOf
  split
  · exact bndC_mono (go ps (coreNew s) zC 0 (by omega) (by unfold BndC; dsimp only; omega)) (by omega)
  · unfold BndC; dsimp only; omega
end Go.Pi
