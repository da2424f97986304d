/- Contracts of functions, each out of its run by PI. No conditions. -/
import Derived.Test.YtkiokbkbgjomeaaGreatC7
namespace Go.Pi
open Go.Proofs
set_option linter.unusedVariables false
set_option linter.unusedSimpArgs false
set_option maxRecDepth 100000
attribute [local irreducible] iterN
/-! what is kept is read as it was -/
theorem getD_mid {p a r : List Int} {k : Nat} (h : k < a.length) : (p ++ a ++ r).getD (p.length + k) 0 = a.getD k 0 := by
  rw [List.getD_eq_getElem?_getD, List.append_assoc, List.getElem?_append_right (by omega), Nat.add_sub_cancel_left, List.getElem?_append_left h, ← List.getD_eq_getElem?_getD]
theorem wordOk_bare {w : Word} (h : wordOk w = true) (h2 : w.is = false) : w = ⟨w.n, false, ⟨0, 0, 0, 0⟩⟩ := by
  simp only [wordOk, h2, Bool.and_eq_true, Bool.false_eq_true, if_false, decide_eq_true_eq] at h
  obtain ⟨n, is, k⟩ := w
  dsimp only at h h2
  rw [h2, h.2]
theorem wordBytes_0 {w : Word} (h : wordOk w = true) (h2 : w.is = false) : wordBytes w = [w.n / 256, w.n % 256, 0] := by
  unfold wordBytes; rw [if_pos h, if_neg (by rw [h2]; decide)]
theorem wordBytes_1 {w : Word} (h : wordOk w = true) (h2 : w.is = true) : wordBytes w = [w.n / 256, w.n % 256, 1, w.key.base / 256, w.key.base % 256, w.key.top / 256, w.key.top % 256, w.key.perms, w.key.sealed] := by
  unfold wordBytes; rw [if_pos h, if_pos h2]
theorem wordOf_at {p r : List Int} {w : Word} (h : wordOk w = true) : wordOf (p ++ wordBytes w ++ r) (p.length : Int) = some (w, (p.length : Int) + (wordBytes w).length) := by
  have hn := wordOk_n h
  cases h2 : w.is with
  | false =>
    have e := wordBytes_0 h h2
    have hl : (p ++ wordBytes w ++ r).length = p.length + 3 + r.length := by rw [e]; simp; omega
    have g := fun k (hk : k < 3) => getD_mid (p := p) (a := wordBytes w) (r := r) (k := k) (by rw [e]; exact hk)
    have g0 := g 0 (by decide); have g1 := g 1 (by decide); have g2 := g 2 (by decide)
    rw [wordOf_plain (by rw [inR_t]; omega) (by rw [Int.toNat_natCast, g2, e]; rfl), Int.toNat_natCast]
    rw [Nat.add_zero] at g0
    rw [g0, g1, e]
    conv => rhs; rw [wordOk_bare h h2]
    refine congrArg some (Prod.ext ?_ rfl)
    show (⟨w.n / 256 * 256 + w.n % 256, false, ⟨0, 0, 0, 0⟩⟩ : Word) = ⟨w.n, false, ⟨0, 0, 0, 0⟩⟩
    rw [show w.n / 256 * 256 + w.n % 256 = w.n by omega]
  | true =>
    have e := wordBytes_1 h h2
    have hk := wordOk_key h h2
    have hl : (p ++ wordBytes w ++ r).length = p.length + 9 + r.length := by rw [e]; simp; omega
    have g := fun k (hk : k < 9) => getD_mid (p := p) (a := wordBytes w) (r := r) (k := k) (by rw [e]; exact hk)
    have g0 := g 0 (by decide); have g1 := g 1 (by decide); have g2 := g 2 (by decide); have g3 := g 3 (by decide); have g4 := g 4 (by decide)
    have g5 := g 5 (by decide); have g6 := g 6 (by decide); have g7 := g 7 (by decide); have g8 := g 8 (by decide)
    rw [Nat.add_zero] at g0
    have hw : wordAt (p ++ wordBytes w ++ r) p.length = w := by
      unfold wordAt
      rw [g0, g1, g3, g4, g5, g6, g7, g8, e]
      show (⟨w.n / 256 * 256 + w.n % 256, true, ⟨w.key.base / 256 * 256 + w.key.base % 256, w.key.top / 256 * 256 + w.key.top % 256, w.key.perms, w.key.sealed⟩⟩ : Word) = w
      rw [show w.n / 256 * 256 + w.n % 256 = w.n by omega, show w.key.base / 256 * 256 + w.key.base % 256 = w.key.base by omega, show w.key.top / 256 * 256 + w.key.top % 256 = w.key.top by omega, ← h2]
    rw [wordOf_key (by rw [inR_t]; omega) (by rw [Int.toNat_natCast, g2, e]; rfl) (by omega) (by rw [Int.toNat_natCast, hw]; exact h), Int.toNat_natCast, hw, e]
    rfl
theorem stateOfGo_at : ∀ {ws p r acc : List _}, (∀ w ∈ ws, wordOk w = true) → stateOfGo (p ++ wordsBytes ws ++ r) ws.length acc (p.length : Int) = some (acc ++ ws, ((p.length + (wordsBytes ws).length : Nat) : Int))
  | [], p, r, acc, _ => by simp [stateOfGo, wordsBytes]
  | w :: ws, p, r, acc, h => by
    have hw := h w (by simp)
    have e : wordsBytes (w :: ws) = wordBytes w ++ wordsBytes ws := rfl
    have e2 : p ++ wordsBytes (w :: ws) ++ r = p ++ wordBytes w ++ (wordsBytes ws ++ r) := by rw [e]; simp
    rw [e2]
    show (match wordOf (p ++ wordBytes w ++ (wordsBytes ws ++ r)) (p.length : Int) with | some (v, k) => stateOfGo (p ++ wordBytes w ++ (wordsBytes ws ++ r)) ws.length (acc ++ [v]) k | none => none) = _
    rw [wordOf_at hw]
    have ih := stateOfGo_at (ws := ws) (p := p ++ wordBytes w) (r := r) (acc := acc ++ [w]) (fun v hv => h v (by simp [hv]))
    rw [List.length_append] at ih
    have e3 : (p.length : Int) + ((wordBytes w).length : Int) = ((p.length + (wordBytes w).length : Nat) : Int) := by omega
    simp only
    rw [e3, ← List.append_assoc, ih, e, List.length_append, List.append_assoc, Nat.add_assoc]
    rfl
def stateWords (s : State) : List Word := s.regs ++ [s.pc] ++ s.mem.words
theorem stateWords_ok {s : State} (h : stateOk s = true) : ∀ w ∈ stateWords s, wordOk w = true := fun w hw => by
  obtain ⟨r1, r2, r3, r4, r5, r6⟩ := stateOk_iff.1 h
  simp only [stateWords, List.mem_append, List.mem_singleton] at hw
  rcases hw with (hw | hw) | hw
  · exact r2 w hw
  · rw [hw]; exact r3
  · exact (memoryOk_iff.1 r4).2.2 w hw
theorem stateBytes_eq {s : State} (h : stateOk s = true) : stateBytes s = wordsBytes (stateWords s) ++ (goneBytes s.mem.gone ++ [s.trap]) := by
  rw [stateBytes_ok h, stateWords, wordsBytes_app, wordsBytes_app, wordsBytes_one]; simp
theorem stateWords_len {s : State} (h : stateOk s = true) : (stateWords s).length = 33 := by
  obtain ⟨e1, e2, e3⟩ := stateOk_len h
  simp [stateWords]; omega
theorem goneByte_1 (g : List Bool) : (goneBytes g).map (fun v => v == 1) = g := by
  rw [goneBytes, List.map_map]
  conv => rhs; rw [← List.map_id g]
  refine List.map_congr_left fun b _ => ?_
  cases b <;> rfl
theorem stateOf_bytes {s : State} (h : stateOk s = true) : stateOf (stateBytes s) = some s := by
  obtain ⟨e1, e2, e3⟩ := stateOk_len h
  have hw := stateOfGo_at (ws := stateWords s) (p := []) (r := goneBytes s.mem.gone ++ [s.trap]) (acc := []) (stateWords_ok h)
  rw [List.nil_append, ← stateBytes_eq h, stateWords_len h, List.nil_append, List.length_nil, Nat.zero_add] at hw
  have hl : (stateBytes s).length = (wordsBytes (stateWords s)).length + 25 := by rw [stateBytes_eq h]; simp [goneBytes_len]; omega
  have ha : stateAt (stateBytes s) (stateWords s) (wordsBytes (stateWords s)).length = s := by
    have h1 : (stateWords s).take 8 = s.regs := by rw [stateWords, List.append_assoc, List.take_append_of_le_length (by omega), List.take_of_length_le (by omega)]
    have h2 : (stateWords s).getD 8 (FT.zero .word) = s.pc := by
      rw [stateWords, List.getD_eq_getElem?_getD, List.append_assoc, List.getElem?_append_right (by omega), e1]; rfl
    have h3 : (stateWords s).drop 9 = s.mem.words := by
      rw [stateWords, List.drop_append_of_le_length (by simp; omega), List.drop_eq_nil_of_le (by simp; omega), List.nil_append]
    have h4 : win (stateBytes s) (wordsBytes (stateWords s)).length 24 = goneBytes s.mem.gone := by
      unfold win
      rw [stateBytes_eq h, List.drop_append_of_le_length (Nat.le_refl _), List.drop_eq_nil_of_le (Nat.le_refl _), List.nil_append, List.take_append_of_le_length (by rw [goneBytes_len]; omega), List.take_of_length_le (by rw [goneBytes_len]; omega)]
    have h5 : (stateBytes s).getD ((wordsBytes (stateWords s)).length + 24) 0 = s.trap := by
      rw [stateBytes_eq h, List.getD_eq_getElem?_getD, List.getElem?_append_right (by omega), Nat.add_sub_cancel_left, List.getElem?_append_right (by rw [goneBytes_len]; omega), goneBytes_len, e3]; rfl
    unfold stateAt
    rw [h1, h2, h3, h4, h5, goneByte_1]
  rw [stateOf_ok hw (by omega) (by rw [ha]), ha]
theorem stateOf_cut {s : State} (h : stateOk s = true) : stateOf ((stateBytes s).take ((stateBytes s).length - 1)) = none := by
  obtain ⟨e1, e2, e3⟩ := stateOk_len h
  have he : (stateBytes s).take ((stateBytes s).length - 1) = wordsBytes (stateWords s) ++ goneBytes s.mem.gone := by
    have e : stateBytes s = (wordsBytes (stateWords s) ++ goneBytes s.mem.gone) ++ [s.trap] := by rw [stateBytes_eq h]; simp
    rw [e, List.length_append, List.length_singleton, Nat.add_sub_cancel, List.take_append_of_le_length (Nat.le_refl _), List.take_of_length_le (Nat.le_refl _)]
  have hw := stateOfGo_at (ws := stateWords s) (p := []) (r := goneBytes s.mem.gone) (acc := []) (stateWords_ok h)
  rw [List.nil_append, stateWords_len h, List.nil_append, List.length_nil, Nat.zero_add] at hw
  rw [he]
  refine stateOf_len hw ?_
  rw [List.length_append, goneBytes_len]; omega
theorem wordOf_cut {w : Word} : wordOf ((wordBytes w).take ((wordBytes w).length - 1)) 0 = none := by
  by_cases h : wordOk w = true
  · cases h2 : w.is with
    | false => rw [wordBytes_0 h h2]; exact wordOf_out (show inR 0 0 (((2 : Nat) : Int) - 3) = false by decide)
    | true => rw [wordBytes_1 h h2]; exact wordOf_no (show (1 : Int) ≠ 0 by decide) (fun q => by have := q.2.1; simp at this)
  · have : wordBytes w = [] := by unfold wordBytes; rw [if_neg h]
    rw [this]; exact wordOf_out (by decide)
theorem wordOf_bytes {b : List Int} (hb : U8s b) {a e : Int} {w : Word} (h : wordOf b a = some (w, e)) : wordBytes w = win b a.toNat (e - a).toNat := by
  have h0 := wordOf_some h
  obtain ⟨n, rfl⟩ := Int.eq_ofNat_of_zero_le h0.1
  unfold wordOf at h
  split at h
  · rename_i h1
    have h1 := inR_t.1 h1
    rw [Int.toNat_natCast] at h
    split at h
    · rename_i h2
      simp only [Option.some.injEq, Prod.mk.injEq] at h
      obtain ⟨rfl, rfl⟩ := h
      rw [wordBytes_plain hb, Int.toNat_natCast, show ((n : Int) + 3 - n).toNat = 3 by omega, win3 (by omega), h2]
    · split at h
      · rename_i h3
        simp only [Option.some.injEq, Prod.mk.injEq] at h
        obtain ⟨rfl, rfl⟩ := h
        rw [wordBytes_at hb h3.2.2, Int.toNat_natCast, show ((n : Int) + 9 - n).toNat = 9 by omega, win9 (by omega), h3.1]
      · cases h
  · cases h
theorem wordBytes_back {w : Word} (h : wordOk w = true) : wordOf (wordBytes w) 0 = some (w, ((wordBytes w).length : Int)) := by
  have := wordOf_at (p := []) (r := []) h
  simpa using this
/-! ### a run is a part of it, and then the rest -/
theorem inGo_add {l : List Inst} : ∀ {k m : Nat} {s : State}, (inGo l (k + m) s).1 = (inGo l m (inGo l k s).1).1
  | 0, m, s => by rw [Nat.zero_add]; rfl
  | k + 1, m, s => by
    rw [show k + 1 + m = (k + m) + 1 by omega]
    by_cases h : s.trap = 0
    · rw [show inGo l ((k + m) + 1) s = ((inGo l (k + m) (stepS l s)).1, (inGo l (k + m) (stepS l s)).2 + 1) from if_pos h, show inGo l (k + 1) s = ((inGo l k (stepS l s)).1, (inGo l k (stepS l s)).2 + 1) from if_pos h]
      exact inGo_add
    · rw [show inGo l ((k + m) + 1) s = (s, 0) from if_neg h, show inGo l (k + 1) s = (s, 0) from if_neg h]
      cases m with
      | zero => rfl
      | succ m => rw [show inGo l (m + 1) s = (s, 0) from if_neg h]
theorem inOrder_add {l : List Inst} {s : State} (h : stateOk s = true) {k m : Int} (hk : 0 ≤ k) (hm : 0 ≤ m) (hkm : k + m ≤ 600) : (inOrder l s (k + m)).1 = (inOrder l (inOrder l s k).1 m).1 := by
  have h2 := inOrder_ok (l := l) (n := k) h
  have e : ∀ (v : State) (n : Int), stateOk v = true → (inOrder l v n).1 = (inGo l (min n 600).toNat v).1 := fun v n hv => by unfold inOrder; rw [if_neg (by rw [hv]; decide)]
  rw [e _ m h2, e _ k h, e _ (k + m) h, show (min (k + m) 600).toNat = (min k 600).toNat + (min m 600).toNat by omega]
  exact inGo_add

/-! two that are apart -/
theorem twoOk_iff {t : Two} : twoOk t = true ↔ stateOk (sideState t 0) = true ∧ stateOk (sideState t 1) = true := by simp [twoOk]
theorem side0 (t : Two) : sideState t 0 = ⟨t.a.regs, t.a.pc, t.mem, t.a.trap⟩ := sideState_0 rfl
theorem side1 (t : Two) : sideState t 1 = ⟨t.b.regs, t.b.pc, t.mem, t.b.trap⟩ := sideState_1 rfl
theorem hold0 (t : Two) : hold (sideState t 0) = heldW t.a := by rw [side0]; rfl
theorem hold1 (t : Two) : hold (sideState t 1) = heldW t.b := by rw [side1]; rfl
theorem meetI_f {a b : List Int} : meetI a b = false ↔ ∀ c ∈ a, c ∉ b := by
  simp only [meetI, List.any_eq_false]
  constructor
  · intro h c hc hb
    exact h c hc (List.any_eq_true.2 ⟨c, hb, beq_iff_eq.2 rfl⟩)
  · intro h c hc hb
    obtain ⟨x, hx, e⟩ := List.any_eq_true.1 hb
    rw [beq_iff_eq.1 e] at hc
    exact h x hc hx
/-- What C stores to D neither loads nor stores to. -/
def Ap (C D : List Word) : Prop := ∀ j : Nat, j < 24 → coverP C 2 j = true → coverP D 1 j = false ∧ coverP D 2 j = false
theorem ap_of {m : Mem} {a b : List Word} (h : crossesB m a b = false) : Ap (closure m a) (closure m b) := fun j hj hc => by
  have h1 := meetI_f.1 h j (mem_cellsBy.2 ⟨j, hj, hc, rfl⟩)
  simp only [List.mem_append, not_or] at h1
  refine ⟨?_, ?_⟩
  · cases e : coverP (closure m b) 1 j with
    | false => rfl
    | true => exact absurd (mem_cellsBy.2 ⟨j, hj, e, rfl⟩) h1.1
  · cases e : coverP (closure m b) 2 j with
    | false => rfl
    | true => exact absurd (mem_cellsBy.2 ⟨j, hj, e, rfl⟩) h1.2
def NoSeal (C : List Word) : Prop := ∀ c ∈ C, hasP c 32 = false
theorem noSeal_of {m : Mem} {a : List Word} (h : canSeal m a = false) : NoSeal (closure m a) := fun c hc => by
  simp only [canSeal, List.any_eq_false] at h
  simpa using h c hc
/-- The two sides, each under its own closed set. -/
structure Both (A B : List Word) (t : Two) : Prop where
  a : Inv A (sideState t 0)
  b : Inv B (sideState t 1)
  ab : Ap A B
  ba : Ap B A
  na : NoSeal A
  nb : NoSeal B
theorem both_first {t : Two} (h : apartB t = true) : Both (closure t.mem (heldW t.a)) (closure t.mem (heldW t.b)) t := by
  simp only [apartB, Bool.and_eq_true, Bool.not_eq_true'] at h
  obtain ⟨⟨⟨h1, h2⟩, h3⟩, h4, h5⟩ := h
  obtain ⟨o1, o2⟩ := twoOk_iff.1 h1
  have i1 := inv_first o1
  have i2 := inv_first o2
  rw [hold0] at i1
  rw [hold1] at i2
  have m0 : (sideState t 0).mem = t.mem := by rw [side0]
  have m1 : (sideState t 1).mem = t.mem := by rw [side1]
  rw [m0] at i1; rw [m1] at i2
  exact ⟨i1, i2, ap_of h4, ap_of h5, noSeal_of h2, noSeal_of h3⟩
/-- A step of one leaves what the other one has and reaches. -/
theorem other_inv {A B : List Word} {l : List Inst} {s o : State} (hs : Inv A s) (ho : Inv B o) (hm : s.mem = o.mem) (hab : Ap A B) : Inv B ⟨o.regs, o.pc, (stepS l s).mem, o.trap⟩ := by
  obtain ⟨r1, r2, r3, r4, r5, r6⟩ := stateOk_iff.1 ho.ok
  obtain ⟨q1, q2, q3, q4, q5, q6⟩ := stateOk_iff.1 (stepS_ok (l := l) hs.ok)
  refine ⟨stateOk_iff.2 ⟨r1, r2, r3, q4, r5, r6⟩, ho.regs, ho.pc, fun c hc hi hop j h1 h2 h3 => ?_⟩
  have hcov : coverP B 1 j = true := coverP_iff.2 ⟨c, hc, hasP_iff.2 ⟨hi, (opens_iff.1 hop).1⟩, h1, by omega⟩
  have : (stepS l s).mem.words.getD j (FT.zero .word) = o.mem.words.getD j (FT.zero .word) := by
    rw [← hm]
    refine Classical.byContradiction fun hne => ?_
    obtain ⟨k1, k2⟩ := hs.cell hne
    rw [(hab j k1 k2).1] at hcov; cases hcov
  show Und B ((stepS l s).mem.words.getD j (FT.zero .word))
  rw [this]
  exact ho.mem c hc hi hop j h1 h2 h3
theorem setSide_0 (t : Two) (s : State) : sideState (setSide t s 0) 0 = ⟨s.regs, s.pc, s.mem, s.trap⟩ ∧ sideState (setSide t s 0) 1 = ⟨t.b.regs, t.b.pc, s.mem, t.b.trap⟩ := ⟨rfl, rfl⟩
theorem setSide_1 (t : Two) (s : State) : sideState (setSide t s 1) 0 = ⟨t.a.regs, t.a.pc, s.mem, t.a.trap⟩ ∧ sideState (setSide t s 1) 1 = ⟨s.regs, s.pc, s.mem, s.trap⟩ := ⟨rfl, rfl⟩
theorem Both.ok {A B : List Word} {t : Two} (h : Both A B t) : twoOk t = true := twoOk_iff.2 ⟨h.a.ok, h.b.ok⟩
theorem twoStep_who0 {a b : List Inst} {t : Two} (h : twoOk t = true) : twoStep a b t 0 = (setSide t (stepS a (sideState t 0)) 0, true) := by rw [twoStep_ok h (by decide)]; rfl
theorem twoStep_who1 {a b : List Inst} {t : Two} (h : twoOk t = true) : twoStep a b t 1 = (setSide t (stepS b (sideState t 1)) 1, true) := by rw [twoStep_ok h (by decide)]; rfl
theorem Both.step0 {A B : List Word} {a b : List Inst} {t : Two} (h : Both A B t) : Both A B (twoStep a b t 0).1 := by
  rw [twoStep_who0 h.ok]
  obtain ⟨e1, e2⟩ := setSide_0 t (stepS a (sideState t 0))
  refine ⟨?_, ?_, h.ab, h.ba, h.na, h.nb⟩
  · dsimp only; rw [e1]; exact h.a.step
  · dsimp only; rw [e2]
    have := other_inv (l := a) h.a h.b (by rw [side0, side1]) h.ab
    rw [side1] at this
    exact this
theorem Both.step1 {A B : List Word} {a b : List Inst} {t : Two} (h : Both A B t) : Both A B (twoStep a b t 1).1 := by
  rw [twoStep_who1 h.ok]
  obtain ⟨e1, e2⟩ := setSide_1 t (stepS b (sideState t 1))
  refine ⟨?_, ?_, h.ab, h.ba, h.na, h.nb⟩
  · dsimp only; rw [e1]
    have := other_inv (l := b) h.b h.a (by rw [side0, side1]) h.ba
    rw [side0] at this
    exact this
  · dsimp only; rw [e2]; exact h.b.step
theorem Both.apart {A B : List Word} {t : Two} (h : Both A B t) (ha : ∀ x ∈ closure t.mem (heldW t.a), Und A x) (hb : ∀ x ∈ closure t.mem (heldW t.b), Und B x) : apartB t = true := by
  have hs : ∀ {C : List Word} {l : List Word}, (∀ x ∈ closure t.mem l, Und C x) → NoSeal C → canSeal t.mem l = false := fun {C l} hu hn => by
    cases e : canSeal t.mem l with
    | false => rfl
    | true =>
      simp only [canSeal, List.any_eq_true] at e
      obtain ⟨w, h1, h2⟩ := e
      obtain ⟨p1, p2⟩ := hasP_iff.1 h2
      obtain ⟨d, d1, d2, d3⟩ := hu w h1 p1
      obtain ⟨q1, q2, q3, q4, q5⟩ := coversK_iff.1 d3
      have := hn d d1
      rw [hasP_iff.2 ⟨d2, andI_bit q5 p2⟩] at this
      cases this
  have hcov : ∀ {C : List Word} {l : List Word} {p : Int} {j : Nat}, (∀ x ∈ closure t.mem l, Und C x) → coverP (closure t.mem l) p j = true → coverP C p j = true := fun {C l p j} hu hc => by
    obtain ⟨w, w1, w2, w3, w4⟩ := coverP_iff.1 hc
    exact cover_up (hu w w1) w2 w3 w4
  have hx : ∀ {C D : List Word} {l k : List Word}, (∀ x ∈ closure t.mem l, Und C x) → (∀ x ∈ closure t.mem k, Und D x) → Ap C D → crossesB t.mem l k = false := fun {C D l k} hu hv hap => by
    refine meetI_f.2 fun c hc hc2 => ?_
    obtain ⟨j, h1, h2, rfl⟩ := mem_cellsBy.1 hc
    have := hap j h1 (hcov hu h2)
    rcases List.mem_append.1 hc2 with q | q
    · obtain ⟨i, i1, i2, i3⟩ := mem_cellsBy.1 q
      have : i = j := by omega
      subst this
      have := hcov hv i2
      simp_all
    · obtain ⟨i, i1, i2, i3⟩ := mem_cellsBy.1 q
      have : i = j := by omega
      subst this
      have := hcov hv i2
      simp_all
  simp only [apartB, Bool.and_eq_true, Bool.not_eq_true']
  exact ⟨⟨⟨h.ok, hs ha h.na⟩, hs hb h.nb⟩, hx ha hb h.ab, hx hb ha h.ba⟩
theorem Both.apart' {A B : List Word} {t : Two} (h : Both A B t) : apartB t = true := by
  have h1 := h.a.under
  have h2 := h.b.under
  rw [hold0, show (sideState t 0).mem = t.mem by rw [side0]] at h1
  rw [hold1, show (sideState t 1).mem = t.mem by rw [side1]] at h2
  exact h.apart h1 h2
theorem apart_step {a b : List Inst} {t : Two} {who : Int} (h : apartB t = true) (hw : who = 0 ∨ who = 1) : (twoStep a b t who).2 = true ∧ apartB (twoStep a b t who).1 = true := by
  have hb := both_first h
  rcases hw with rfl | rfl
  · exact ⟨by rw [twoStep_who0 hb.ok], (hb.step0 (a := a) (b := b)).apart'⟩
  · exact ⟨by rw [twoStep_who1 hb.ok], (hb.step1 (a := a) (b := b)).apart'⟩
/-! ### a step hangs on what it can load alone -/
/-- Alike but for the memory's words; these alike where C loads. -/
structure SameL (C : List Word) (s u : State) : Prop where
  regs : s.regs = u.regs
  pc : s.pc = u.pc
  trap : s.trap = u.trap
  gone : s.mem.gone = u.mem.gone
  load : ∀ j : Nat, j < 24 → coverP C 1 j = true → s.mem.words.getD j (FT.zero .word) = u.mem.words.getD j (FT.zero .word)
theorem same_eff {C : List Word} {l : List Inst} {s u : State} (hs : Inv C s) (hu : Inv C u) (h : SameL C s u) : effE l s = effE l u := by
  obtain ⟨r1, r2, r3, r4, r5, r6⟩ := stateOk_iff.1 hs.ok
  obtain ⟨m1, m2, m3⟩ := memoryOk_iff.1 r4
  obtain ⟨q1, q2, q3, q4, q5, q6⟩ := stateOk_iff.1 hu.ok
  obtain ⟨n1, n2, n3⟩ := memoryOk_iff.1 q4
  have hm : ∀ (x : Inst) (a b : Word), Und C a → memE s.mem x a b = memE u.mem x a b := fun x a b ha => by
    have hr : readM s.mem a (IntKind.i64.wrap (a.n + x.n)) = readM u.mem a (IntKind.i64.wrap (a.n + x.n)) := by
      have hc : readC s.mem a (IntKind.i64.wrap (a.n + x.n)) = readC u.mem a (IntKind.i64.wrap (a.n + x.n)) := by unfold readC; rw [m1, n1]
      unfold readM
      rw [← hc]
      split
      · rfl
      · rename_i h0
        obtain ⟨t1, t2, t3⟩ := readC_00 (m := s.mem) (y := a) (n := IntKind.i64.wrap (a.n + x.n)) (by simpa using h0)
        obtain ⟨k1, k2, k3, k4, k5, k6⟩ := tryW_0 t1
        generalize IntKind.i64.wrap (a.n + x.n) = n at *
        obtain ⟨j, rfl⟩ := Int.eq_ofNat_of_zero_le t2
        rw [Int.toNat_natCast, h.gone, h.load j (by omega) (cover_up ha (hasP_iff.2 ⟨k2, by rw [k4]; decide⟩) k5 (by omega))]
    have hw : writeC s.mem a (IntKind.i64.wrap (a.n + x.n)) b = writeC u.mem a (IntKind.i64.wrap (a.n + x.n)) b := by unfold writeC; rw [m1, n1]
    unfold memE
    rw [hr, hw]
  unfold effE
  simp only
  rw [h.pc, h.regs, hm _ _ _ (getD_und hu.regs _)]
theorem same_step {C : List Word} {l : List Inst} {s u : State} (hs : Inv C s) (hu : Inv C u) (h : SameL C s u) : SameL C (stepS l s) (stepS l u) ∧
    ∀ j : Nat, s.mem.words.getD j (FT.zero .word) = u.mem.words.getD j (FT.zero .word) → (stepS l s).mem.words.getD j (FT.zero .word) = (stepS l u).mem.words.getD j (FT.zero .word) := by
  have he := same_eff (l := l) hs hu h
  have hl : s.mem.words.length = u.mem.words.length := by rw [(stateOk_len hs.ok).2.1, (stateOk_len hu.ok).2.1]
  have key : ∀ j : Nat, s.mem.words.getD j (FT.zero .word) = u.mem.words.getD j (FT.zero .word) → (stepS l s).mem.words.getD j (FT.zero .word) = (stepS l u).mem.words.getD j (FT.zero .word) := fun j hj => by
    by_cases ht : s.trap = 0
    · by_cases h0 : (effE l s).trap = 0
      · rw [stepS_0 hs.ok ht h0, stepS_0 hu.ok (by rw [← h.trap]; exact ht) (by rw [← he]; exact h0), ← he]
        unfold putE; dsimp only
        split
        · rw [getD_set2, getD_set2, hl, hj]
        · exact hj
      · rw [stepS_e hs.ok ht h0, stepS_e hu.ok (by rw [← h.trap]; exact ht) (by rw [← he]; exact h0)]; exact hj
    · rw [stepS_trap hs.ok ht, stepS_trap hu.ok (by rw [← h.trap]; exact ht)]; exact hj
  refine ⟨?_, key⟩
  have hload : ∀ j : Nat, j < 24 → coverP C 1 j = true → (stepS l s).mem.words.getD j (FT.zero .word) = (stepS l u).mem.words.getD j (FT.zero .word) := fun j h1 h2 => key j (h.load j h1 h2)
  by_cases ht : s.trap = 0
  · by_cases h0 : (effE l s).trap = 0
    · rw [stepS_0 hs.ok ht h0, stepS_0 hu.ok (by rw [← h.trap]; exact ht) (by rw [← he]; exact h0), ← he] at hload ⊢
      exact ⟨by unfold putE; dsimp only; rw [h.regs], rfl, h.trap, by unfold putE; dsimp only; rw [h.gone], hload⟩
    · rw [stepS_e hs.ok ht h0, stepS_e hu.ok (by rw [← h.trap]; exact ht) (by rw [← he]; exact h0)] at hload ⊢
      exact ⟨h.regs, h.pc, by dsimp only; rw [he], h.gone, hload⟩
  · rw [stepS_trap hs.ok ht, stepS_trap hu.ok (by rw [← h.trap]; exact ht)] at hload ⊢
    exact h
/-- One side in company goes as it goes alone: alike, and its cells too. -/
structure Alone (C : List Word) (u s : State) : Prop where
  inv : Inv C s
  same : SameL C s u
  mine : ∀ j : Nat, j < 24 → coverP C 1 j = true ∨ coverP C 2 j = true → s.mem.words.getD j (FT.zero .word) = u.mem.words.getD j (FT.zero .word)
theorem alone_first {C : List Word} {s : State} (h : Inv C s) : Alone C s s := ⟨h, ⟨rfl, rfl, rfl, rfl, fun _ _ _ => rfl⟩, fun _ _ _ => rfl⟩
theorem Alone.step {C : List Word} {l : List Inst} {u s : State} (h : Alone C u s) (hu : Inv C u) : Alone C (stepS l u) (stepS l s) := by
  obtain ⟨k1, k2⟩ := same_step (l := l) h.inv hu h.same
  exact ⟨h.inv.step, k1, fun j h1 h2 => k2 j (h.mine j h1 h2)⟩
/-- .. while the other one steps. -/
theorem Alone.other {C D : List Word} {l : List Inst} {u s o : State} (h : Alone C u s) (ho : Inv D o) (hm : o.mem = u.mem) (hap : Ap D C) (hn : NoSeal D) : Alone C ⟨u.regs, u.pc, (stepS l o).mem, u.trap⟩ s := by
  have hkeep : ∀ j : Nat, j < 24 → coverP C 1 j = true ∨ coverP C 2 j = true → (stepS l o).mem.words.getD j (FT.zero .word) = u.mem.words.getD j (FT.zero .word) := fun j h1 h2 => by
    rw [← hm]
    refine Classical.byContradiction fun hne => ?_
    obtain ⟨k1, k2⟩ := ho.cell hne
    obtain ⟨g1, g2⟩ := hap j k1 k2
    rcases h2 with q | q
    · rw [g1] at q; cases q
    · rw [g2] at q; cases q
  refine ⟨h.inv, ⟨h.same.regs, h.same.pc, h.same.trap, ?_, fun j h1 h2 => ?_⟩, fun j h1 h2 => ?_⟩
  · show s.mem.gone = (stepS l o).mem.gone
    rw [ho.gone hn, hm]; exact h.same.gone
  · show _ = (stepS l o).mem.words.getD j (FT.zero .word)
    rw [hkeep j h1 (.inl h2)]; exact h.mine j h1 (.inl h2)
  · show _ = (stepS l o).mem.words.getD j (FT.zero .word)
    rw [hkeep j h1 h2]; exact h.mine j h1 h2
/-- A side alone, by its turns in an order. -/
def soloGo (l : List Inst) (who : Int) : List Int → State → State
  | [], s => s
  | w :: ws, s => soloGo l who ws (if w = who then stepS l s else s)
theorem solo_run {A B : List Word} {a b : List Inst} : ∀ {o : List Int} {t : Two} {s r : State}, (∀ x ∈ o, x = 0 ∨ x = 1) → Both A B t → Alone A (sideState t 0) s → Alone B (sideState t 1) r →
    Alone A (sideState (twoRunGo a b o t) 0) (soloGo a 0 o s) ∧ Alone B (sideState (twoRunGo a b o t) 1) (soloGo b 1 o r)
  | [], t, s, r, _, _, h1, h2 => ⟨h1, h2⟩
  | w :: ws, t, s, r, ho, hb, h1, h2 => by
    have hw := ho w (by simp)
    have hr := fun x hx => ho x (List.mem_cons_of_mem _ hx)
    rcases hw with rfl | rfl
    · refine solo_run (o := ws) (t := (twoStep a b t 0).1) hr hb.step0 ?_ ?_
      · rw [if_pos rfl, twoStep_who0 hb.ok]; dsimp only; rw [(setSide_0 t _).1]
        exact h1.step hb.a
      · rw [if_neg (by decide), twoStep_who0 hb.ok]; dsimp only; rw [(setSide_0 t _).2]
        have := h2.other (l := a) hb.a (by rw [side0, side1]) hb.ab hb.na
        rw [side1] at this; exact this
    · refine solo_run (o := ws) (t := (twoStep a b t 1).1) hr hb.step1 ?_ ?_
      · rw [if_neg (by decide), twoStep_who1 hb.ok]; dsimp only; rw [(setSide_1 t _).1]
        have := h1.other (l := b) hb.b (by rw [side0, side1]) hb.ba hb.nb
        rw [side0] at this; exact this
      · rw [if_pos rfl, twoStep_who1 hb.ok]; dsimp only; rw [(setSide_1 t _).2]
        exact h2.step hb.b

structure Cur where
  b : List Int
  i : Int
  h : Int
def Cur.tc (c : Cur) (r : List TC) : List TC := tl false (.int .u8) c.b :: .int .i64 c.i :: .int .i64 c.h :: r
def pCurT : Prs Cur := fun l f => pL (.int .u8) l fun a l => pN l fun b l => pN l fun c l => f ⟨a, b, c⟩ l
theorem rd_cur : Rd pCurT Cur.tc := fun l f h0 => by
  obtain ⟨a, _, rfl, h1⟩ := rd_l (.int .u8) _ _ h0
  obtain ⟨b, _, rfl, h2⟩ := rd_int .i64 _ _ h1
  obtain ⟨c, _, rfl, h3⟩ := rd_int .i64 _ _ h2
  exact ⟨⟨a, b, c⟩, _, rfl, h3⟩
def CurOk (c : Cur) : Prop := 0 ≤ c.i ∧ c.b.length ≤ 1048576
abbrev curOut (d : Cur) : Tree := .v (.ptr true 0 (d.tc []))
theorem and255 (n : Int) : 0 ≤ andI n 255 ∧ andI n 255 ≤ 255 := andI_le n (by decide) (by decide)

def pf_laws_big : PF := ⟨[.t 2], .seq (.reg [.s (.mv 2 (.k (.v (.c .ff))))]) (.seq (.reg [.s (.mv 3 (.t 0)), .s (.len 4 false (.t 3)), .s (.bin 5 .gtr (.t 4) (.k (.v (.c (.int .i64 1048576))))), .s (.mv 2 (.t 5))]) (.ret))⟩
def c_laws_big : Fun := ⟨10, [], fun ts K => as1 ts fun t0 => arC (pL (.int .u8)) t0 fun c => K (tB (decide (1048576 < c.length))) []⟩
theorem run_laws_big (c : List (FT.Ty (.int .u8))) : runK [] (0) [] pf_laws_big [tL false (.int .u8) c] fun r o => r = tB (decide (1048576 < c.length)) ∧ o = [] := by
  conv => whnf
  repeat' (first | (refine sel_i (fun h => ?_) (fun h => ?_) <;> conv => whnf) | (refine chk_c ?_ ?_ <;> conv => whnf) | (refine And.intro ?_ rfl) | (refine And.intro ?_ ?_ <;> conv => whnf))
  have e : decide ((c.length : Int) > 1048576) = decide (1048576 < c.length) := decide_eq_decide.2 (by omega)
  rw [e]
theorem ok_laws_big : FunOk Tryz.prog c_laws_big := funOk (E := []) (envOk_nil) mixd Tryz.func10 (pf := pf_laws_big) (by kernel_rfl) fun ts K h => by
  obtain ⟨t0, e0, h⟩ := as1_out h
  subst e0
  obtain ⟨c, e1, hq⟩ := arC_out (rd_l (.int .u8)) h
  clear h
  subst e1
  have h := hq
  clear hq
  exact ⟨_, _, h, Nat.le_of_ble_eq_true (show Nat.ble 1 Tryz.f10.ntmps = true by kernel_rfl), _, run_laws_big c⟩

def pf_laws_at : PF := ⟨[.t 4], .seq (.reg [.s (.mv 4 (.k (.v (.c (.int .i64 0)))))]) (.seq (.seq (.reg [.s (.mv 5 (.t 1)), .s (.mv 6 (.t 0)), .s (.len 7 false (.t 6)), .s (.bin 8 .lss (.t 5) (.t 7))]) (.cond (.t 8) (.seq (.reg [.s (.mv 9 (.t 0)), .s (.mv 10 (.t 1)), .s (.ia 11 (.int .u8) (.t 9) (.t 10)), .s (.load 12 false 1 (.t 11)), .s (.conv 13 .i64 (.t 12)), .s (.mv 4 (.t 13))]) (.ret)) (.skip))) (.seq (.reg [.s (.mv 14 (.t 1)), .s (.bin 15 .mul (.t 14) (.k (.v (.c (.int .i64 7))))), .s (.mv 16 (.t 0)), .s (.len 17 false (.t 16)), .s (.bin 18 .add (.t 15) (.t 17)), .s (.bin 19 .rem (.t 18) (.k (.v (.c (.int .i64 256))))), .s (.mv 4 (.t 19))]) (.ret)))⟩
def c_laws_at : Fun := ⟨30, [], fun ts K => as2 ts fun t0 t1 => arC (pL (.int .u8)) t0 fun c => arC (pI .i64) t1 fun i => chk (c.length ≤ 1048576 ∧ 0 ≤ i ∧ i ≤ 1000 ∧ U8s c) (∀ (x : Int), (0 ≤ x ∧ x ≤ 255) → K (tN x) [])⟩
theorem run_laws_at (c : List (FT.Ty (.int .u8))) (i : Int) (hpre : c.length ≤ 1048576 ∧ 0 ≤ i ∧ i ≤ 1000 ∧ U8s c) {K : Tree → List Tree → Prop} (hK : ∀ (x : Int), (0 ≤ x ∧ x ≤ 255) → K (tN x) []) : runK [] (0) [] pf_laws_at [tL false (.int .u8) c, tI .i64 i] K := by
  obtain ⟨l1, l2, l3, l4⟩ := hpre
  conv => whnf
  repeat' (first | (refine sel_i (fun h => ?_) (fun h => ?_) <;> conv => whnf) | (refine chk_c ?_ ?_ <;> conv => whnf) | (refine And.intro ?_ rfl) | (refine And.intro ?_ ?_ <;> conv => whnf))
  all_goals first
    | (refine ⟨?_⟩; decide)
    | (refine ⟨?_⟩; simp at h; omega)
    | (have hv := l4.at i.toNat; rw [wrap_id (n := c.getD i.toNat (FT.zero (.int .u8))) (by simp only [zu8]; omega) (by simp only [zu8]; omega)]; exact hK _ hv)
    | (rw [wrap_id (n := i * 7) (by omega) (by omega), wrap_id (n := i * 7 + (c.length : Int)) (by omega) (by omega), Int.tmod_eq_emod_of_nonneg (by omega)]; exact hK _ ⟨by omega, by omega⟩)
    | trace_state
theorem ok_laws_at : FunOk Tryz.prog c_laws_at := funOkR (E := []) (envOk_nil) mixd Tryz.func30 (pf := pf_laws_at) (by kernel_rfl) fun ts K h => by
  obtain ⟨t0, t1, e0, h⟩ := as2_out h
  subst e0
  obtain ⟨c, e1, hq⟩ := arC_out (rd_l (.int .u8)) h
  clear h
  subst e1
  have h := hq
  clear hq
  obtain ⟨i, e1, hq⟩ := arC_out (rd_int .i64) h
  clear h
  subst e1
  have h := hq
  clear hq
  obtain ⟨hpre, h⟩ := chk_o h
  exact ⟨Nat.le_of_ble_eq_true (show Nat.ble 2 Tryz.f30.ntmps = true by kernel_rfl), _, run_laws_at c i hpre h⟩

def lb_spec_l1New_0 : PC := .seq (.seq (.reg [.s (.mv 8 (.t 4)), .s (.mv 9 (.t 0)), .s (.len 10 false (.t 9)), .s (.bin 11 .lss (.t 8) (.t 10)), .s (.mv 12 (.t 11)), .g 12 true (some 13) (.mv 13 (.t 4)), .g 12 true (some 14) (.bin 14 .lss (.t 13) (.k (.v (.c (.int .i64 4000))))), .s (.pick 15 (.t 12) (.t 14) (.k (.v (.c .ff))))]) (.cond (.t 15) (.skip) (.exit 0))) (.seq (.blk 1 (.reg [.s (.mv 18 (.t 3)), .s (.bin 19 .mul (.t 18) (.k (.v (.c (.int .i64 131))))), .s (.mv 20 (.t 0)), .s (.mv 21 (.t 4)), .s (.ia 22 (.int .u8) (.t 20) (.t 21)), .s (.load 23 false 1 (.t 22)), .s (.conv 24 .i64 (.t 23)), .s (.bin 25 .add (.t 19) (.t 24)), .s (.bin 26 .add (.t 25) (.k (.v (.c (.int .i64 7))))), .s (.bin 27 .and (.t 26) (.k (.v (.c (.int .i64 1073741823))))), .s (.mv 3 (.t 27))])) (.reg [.s (.mv 16 (.t 4)), .s (.bin 17 .add (.t 16) (.k (.v (.c (.int .i64 1))))), .s (.mv 4 (.t 17))]))
def pf_spec_l1New : PF := ⟨[.t 2], .seq (.reg [.s (.mv 2 (.k (.v (.c .nilp))))]) (.seq (.reg [.s (.mv 5 (.t 0)), .s (.len 6 false (.t 5)), .s (.bin 7 .add (.k (.v (.c (.int .i64 19220)))) (.t 6)), .s (.mv 3 (.t 7))]) (.seq (.seq (.reg [.s (.mv 4 (.k (.v (.c (.int .i64 0)))))]) (.blk 0 (.loop [0, 3, 4] lb_spec_l1New_0))) (.seq (.reg [.s (.mv 28 (.t 0)), .s (.mv 29 (.t 3)), .s (.build 30 [.nils (.int .u8), .int .i64 0, .int .i64 0] [(0, 1, (.t 28)), (2, 1, (.t 29))]), .s (.box 31 (.t 30)), .s (.mv 2 (.t 31))]) (.ret))))⟩
def c_spec_l1New : Fun := ⟨64, [], fun ts K => as1 ts fun t0 => arC (pL (.int .u8)) t0 fun c => chk (c.length ≤ 1048576) (∀ (d : Cur), (CurOk d) → K (.v (.ptr true 0 (d.tc []))) [])⟩
theorem run_spec_l1New (c : List (FT.Ty (.int .u8))) (hpre : c.length ≤ 1048576) {K : Tree → List Tree → Prop} (hK : ∀ (d : Cur), (CurOk d) → K (.v (.ptr true 0 (d.tc []))) []) : runK [] (c.length + 1) [] pf_spec_l1New [tL false (.int .u8) c] K := by
  conv => whnf
  refine loop (α := Nat × Int) (fun q => ⟨[(0, .v (.c (.sl false (.int .u8) 0))), (3, .v (.c (.int .i64 q.2))), (4, .v (.c (.int .i64 (q.1 : Int))))], [(0, some (.flat false (.int .u8) none c))], nums.tail, [], false, []⟩)
    (fun q => q.1 ≤ c.length) (fun q => c.length - q.1) (fun q R hI hR => ?_) (0, IntKind.i64.wrap (19220 + (c.length : Int))) _ (Nat.zero_le _) (by simp)
  obtain ⟨i, n⟩ := q
  dsimp only at hI
  dsimp only
  conv => whnf
  repeat' (first | (refine sel_i (fun h => ?_) (fun h => ?_) <;> conv => whnf) | (refine chk_c ?_ ?_ <;> conv => whnf) | (refine And.intro ?_ rfl) | (refine And.intro ?_ ?_ <;> conv => whnf))
  all_goals first
    | (refine ⟨?_⟩; simp at *; omega)
    | (rw [wrap_id (n := (i : Int) + 1) (by omega) (by omega)]; refine hR (i + 1, _) (by simp at *; omega) (by simp at *; omega))
    | exact hK ⟨_, _, _⟩ ⟨Int.le_refl _, hpre⟩
    | trace_state
theorem ok_spec_l1New : FunOk Tryz.prog c_spec_l1New := funOkR (E := []) (envOk_nil) mixd Tryz.func64 (pf := pf_spec_l1New) (by kernel_rfl) fun ts K h => by
  obtain ⟨t0, e0, h⟩ := as1_out h
  subst e0
  obtain ⟨c, e1, hq⟩ := arC_out (rd_l (.int .u8)) h
  clear h
  subst e1
  have h := hq
  clear hq
  obtain ⟨hpre, h⟩ := chk_o h
  exact ⟨Nat.le_of_ble_eq_true (show Nat.ble 1 Tryz.f64.ntmps = true by kernel_rfl), _, run_spec_l1New c hpre h⟩

def pf_spec_l1Byte : PF := ⟨[.t 2], .seq (.reg [.s (.mv 2 (.k (.v (.c (.int .i64 0)))))]) (.seq (.reg [.s (.mv 4 (.t 0)), .s (.mv 5 (.t 0)), .s (.nchk 6 (.t 5)), .s (.fa 7 (.t 6) 2), .s (.load 8 false 1 (.t 7)), .s (.bin 9 .mul (.t 8) (.k (.v (.c (.int .i64 6364136223846793005))))), .s (.bin 10 .add (.t 9) (.k (.v (.c (.int .i64 1442695040888963407))))), .s (.nchk 11 (.t 4)), .s (.fa 12 (.t 11) 2), .s (.store 1 (.t 12) (.t 10))]) (.seq (.rgd [] [.s (.mv 13 (.t 0)), .s (.nchk 14 (.t 13)), .s (.fa 15 (.t 14) 2), .s (.load 16 false 1 (.t 15)), .s (.bin 17 .shr (.t 16) (.k (.v (.c (.int .u64 33))))), .s (.mv 18 (.t 0)), .s (.nchk 19 (.t 18)), .s (.fa 20 (.t 19) 2), .s (.load 21 false 1 (.t 20)), .s (.bin 22 .shr (.t 21) (.k (.v (.c (.int .u64 45))))), .s (.bin 23 .xor (.t 17) (.t 22)), .s (.bin 24 .and (.t 23) (.k (.v (.c (.int .i64 255))))), .s (.mv 3 (.t 24))] (.tk 0 (.tk 1 (.tk 2 (.tk 3 (.tk 4 (.tk 5 (.tk 6 (.tk 7 (.tk 8 (.tk 9 (.tk 10 (.tk 11 (.tk 12 (.done none))))))))))))))) (.seq (.seq (.rgd [] [.s (.mv 25 (.t 0)), .s (.nchk 26 (.t 25)), .s (.fa 27 (.t 26) 1), .s (.load 28 false 1 (.t 27)), .s (.mv 29 (.t 0)), .s (.nchk 30 (.t 29)), .s (.fa 31 (.t 30) 0), .s (.load 32 false 1 (.t 31)), .s (.len 33 false (.t 32)), .s (.bin 34 .lss (.t 28) (.t 33))] (.tk 0 (.tk 1 (.tk 2 (.tk 3 (.tk 4 (.tk 5 (.tk 6 (.tk 7 (.tk 8 (.tk 9 (.done none)))))))))))) (.cond (.t 34) (.seq (.rgd [] [.s (.mv 35 (.t 3)), .s (.mv 36 (.t 0)), .s (.nchk 37 (.t 36)), .s (.fa 38 (.t 37) 0), .s (.load 39 false 1 (.t 38)), .s (.mv 40 (.t 0)), .s (.nchk 41 (.t 40)), .s (.fa 42 (.t 41) 1), .s (.load 43 false 1 (.t 42)), .s (.ia 44 (.int .u8) (.t 39) (.t 43)), .s (.load 45 false 1 (.t 44)), .s (.conv 46 .i64 (.t 45)), .s (.bin 47 .add (.t 35) (.t 46)), .s (.bin 48 .and (.t 47) (.k (.v (.c (.int .i64 255))))), .s (.mv 3 (.t 48))] (.tk 0 (.tk 1 (.tk 2 (.tk 3 (.tk 4 (.tk 5 (.tk 6 (.tk 7 (.tk 8 (.tk 9 (.tk 10 (.tk 11 (.tk 12 (.tk 13 (.tk 14 (.done none))))))))))))))))) (.reg [.s (.mv 49 (.t 0)), .s (.mv 50 (.t 0)), .s (.nchk 51 (.t 50)), .s (.fa 52 (.t 51) 1), .s (.load 53 false 1 (.t 52)), .s (.bin 54 .add (.t 53) (.k (.v (.c (.int .i64 1))))), .s (.nchk 55 (.t 49)), .s (.fa 56 (.t 55) 1), .s (.store 1 (.t 56) (.t 54))])) (.skip))) (.seq (.reg [.s (.mv 57 (.t 3)), .s (.mv 2 (.t 57))]) (.ret)))))⟩
def c_spec_l1Byte : Fun := ⟨171, [true], fun ts K => as1 ts fun t0 => arQ pCurT t0 fun c => chk (CurOk c) (∀ (x : Int) (d : Cur), ((0 ≤ x ∧ x ≤ 255) ∧ CurOk d) → K (tN x) ([curOut d]))⟩
theorem run_spec_l1Byte (c : Cur) (hpre : CurOk c) {K : Tree → List Tree → Prop} (hK : ∀ (x : Int) (d : Cur), ((0 ≤ x ∧ x ≤ 255) ∧ CurOk d) → K (tN x) ([curOut d])) : runK [] (0) [true] pf_spec_l1Byte [.v (.ptr true 0 (c.tc []))] K := by
  obtain ⟨c1, c2⟩ := hpre
  conv => whnf
  repeat' (first | (refine sel_i (fun h => ?_) (fun h => ?_) <;> conv => whnf) | (refine chk_c ?_ ?_ <;> conv => whnf) | (refine And.intro ?_ rfl) | (refine And.intro ?_ ?_ <;> conv => whnf))
  all_goals (try simp only [andI_eq])
  all_goals first
    | (refine ⟨?_⟩; decide)
    | (refine ⟨?_⟩; simp at h; omega)
    | (have hc : c.i < c.b.length := by simpa using h
       rw [wrap_id (n := c.i + 1) (by omega) (by omega)]
       generalize hy : andI _ 255 = y
       exact hK y ⟨c.b, c.i + 1, _⟩ ⟨hy ▸ and255 _, by dsimp only; omega, c2⟩)
    | (generalize hy : andI _ 255 = y; generalize IntKind.i64.wrap (IntKind.i64.wrap (c.h * 6364136223846793005) + 1442695040888963407) = z; exact hK y ⟨c.b, c.i, z⟩ ⟨hy ▸ and255 _, c1, c2⟩)
    | trace_state
theorem ok_spec_l1Byte : FunOk Tryz.prog c_spec_l1Byte := funOkR (E := []) (envOk_nil) mixd Tryz.func171 (pf := pf_spec_l1Byte) (by kernel_rfl) fun ts K h => by
  obtain ⟨t0, e0, h⟩ := as1_out h
  subst e0
  obtain ⟨c, e1, hq⟩ := arQ_out rd_cur h
  clear h
  subst e1
  have h := hq
  clear hq
  obtain ⟨hpre, h⟩ := chk_o h
  exact ⟨Nat.le_of_ble_eq_true (show Nat.ble 1 Tryz.f171.ntmps = true by kernel_rfl), _, run_spec_l1Byte c hpre h⟩

theorem tmod_in {x n : Int} (hx : 0 ≤ x) (hn : 0 < n) : 0 ≤ x.tmod n ∧ x.tmod n < n := by
  rw [Int.tmod_eq_emod_of_nonneg hx]; exact ⟨Int.emod_nonneg _ (by omega), Int.emod_lt_of_pos _ hn⟩

def pf_spec_l1Below : PF := ⟨[.t 4], .seq (.reg [.s (.mv 4 (.k (.v (.c (.int .i64 0)))))]) (.seq (.seq (.reg [.s (.mv 9 (.t 1)), .s (.bin 10 .leq (.t 9) (.k (.v (.c (.int .i64 0)))))]) (.cond (.t 10) (.seq (.reg [.s (.mv 4 (.k (.v (.c (.int .i64 0)))))]) (.ret)) (.skip))) (.seq (.seq (.reg [.s (.mv 11 (.t 1)), .s (.bin 12 .leq (.t 11) (.k (.v (.c (.int .i64 256)))))]) (.cond (.t 12) (.seq (.reg [.s (.mv 13 (.t 0)), .s (.call (some 14) 171 [(.t 13)]), .s (.mv 15 (.t 1)), .s (.bin 16 .rem (.t 14) (.t 15)), .s (.mv 4 (.t 16))]) (.ret)) (.skip))) (.seq (.reg [.s (.mv 17 (.t 0)), .s (.call (some 18) 171 [(.t 17)]), .s (.mv 5 (.t 18))]) (.seq (.reg [.s (.mv 19 (.t 0)), .s (.call (some 20) 171 [(.t 19)]), .s (.mv 6 (.t 20))]) (.seq (.reg [.s (.mv 21 (.t 0)), .s (.call (some 22) 171 [(.t 21)]), .s (.mv 7 (.t 22))]) (.seq (.reg [.s (.mv 23 (.t 0)), .s (.call (some 24) 171 [(.t 23)]), .s (.mv 8 (.t 24))]) (.seq (.reg [.s (.mv 25 (.t 5)), .s (.bin 26 .mul (.t 25) (.k (.v (.c (.int .i64 16777216))))), .s (.mv 27 (.t 6)), .s (.bin 28 .mul (.t 27) (.k (.v (.c (.int .i64 65536))))), .s (.bin 29 .add (.t 26) (.t 28)), .s (.mv 30 (.t 7)), .s (.bin 31 .mul (.t 30) (.k (.v (.c (.int .i64 256))))), .s (.bin 32 .add (.t 29) (.t 31)), .s (.mv 33 (.t 8)), .s (.bin 34 .add (.t 32) (.t 33)), .s (.mv 35 (.t 1)), .s (.bin 36 .rem (.t 34) (.t 35)), .s (.mv 4 (.t 36))]) (.ret))))))))⟩
def c_spec_l1Below : Fun := ⟨99, [true, false], fun ts K => as2 ts fun t0 t1 => arQ pCurT t0 fun c => arC (pI .i64) t1 fun n => chk (CurOk c) (∀ (x : Int) (d : Cur), ((0 ≤ x ∧ (n ≤ 0 → x = 0) ∧ (0 < n → x < n)) ∧ CurOk d) → K (tN x) ([curOut d]))⟩
theorem run_spec_l1Below (c : Cur) (n : Int) (hpre : CurOk c) {K : Tree → List Tree → Prop} (hK : ∀ (x : Int) (d : Cur), ((0 ≤ x ∧ (n ≤ 0 → x = 0) ∧ (0 < n → x < n)) ∧ CurOk d) → K (tN x) ([curOut d])) : runK [c_spec_l1Byte] (0) [true, false] pf_spec_l1Below [.v (.ptr true 0 (c.tc [])), tI .i64 n] K := by
  conv => whnf
  repeat' (first | (refine sel_i (fun h => ?_) (fun h => ?_) <;> conv => whnf) | (refine chk_c ?_ ?_ <;> conv => whnf) | (refine And.intro ?_ rfl) | (refine And.intro ?_ ?_ <;> conv => whnf) | (intro x y z d hd; (try have g1 := And.left hd); (try have g2 := And.right hd); (try have g3 := And.left (And.right hd)); (try have g4 := And.right (And.right hd)); conv => whnf) | (intro x y d hd; (try have g1 := And.left hd); (try have g2 := And.right hd); (try have g3 := And.left (And.right hd)); (try have g4 := And.right (And.right hd)); conv => whnf) | (intro x d hd; (try have g1 := And.left hd); (try have g2 := And.right hd); (try have g3 := And.left (And.right hd)); (try have g4 := And.right (And.right hd)); conv => whnf) | (intro d hd; (try have g1 := And.left hd); (try have g2 := And.right hd); (try have g3 := And.left (And.right hd)); (try have g4 := And.right (And.right hd)); conv => whnf))
  all_goals first
    | (refine ⟨?_⟩; exact hd.2)
    | (refine ⟨?_⟩; exact hpre)
    | (refine ⟨?_⟩; simp at *; omega)
    | exact hK _ ⟨_, _, _⟩ ⟨⟨Int.le_refl _, fun _ => rfl, fun _ => by simp at h; omega⟩, hpre⟩
    | (have hn : 0 < n := by simp at *; omega
       have ht := tmod_in (n := n) hd.1.1 hn
       exact hK _ ⟨_, _, _⟩ ⟨⟨ht.1, fun _ => by omega, fun _ => ht.2⟩, hd.2⟩)
    | (have hn : 0 < n := by simp at *; omega
       rename_i x1 d1 hd1 _ _ _ _ x2 d2 hd2 _ _ _ _ x3 d3 hd3 _ _ _ _
       have q1 := hd1.1; have q2 := hd2.1; have q3 := hd3.1; have q4 := hd.1
       rw [wrap_id (n := x1 * 16777216) (by omega) (by omega), wrap_id (n := x2 * 65536) (by omega) (by omega), wrap_id (n := x1 * 16777216 + x2 * 65536) (by omega) (by omega), wrap_id (n := x3 * 256) (by omega) (by omega), wrap_id (n := x1 * 16777216 + x2 * 65536 + x3 * 256) (by omega) (by omega), wrap_id (n := x1 * 16777216 + x2 * 65536 + x3 * 256 + x) (by omega) (by omega)]
       have ht := tmod_in (x := x1 * 16777216 + x2 * 65536 + x3 * 256 + x) (n := n) (by omega) hn
       exact hK _ ⟨_, _, _⟩ ⟨⟨ht.1, fun _ => by omega, fun _ => ht.2⟩, hd.2⟩)
    | trace_state
theorem ok_spec_l1Below : FunOk Tryz.prog c_spec_l1Below := funOkR (E := [c_spec_l1Byte]) (envOk_cons ok_spec_l1Byte (envOk_nil)) mixd Tryz.func99 (pf := pf_spec_l1Below) (by kernel_rfl) fun ts K h => by
  obtain ⟨t0, t1, e0, h⟩ := as2_out h
  subst e0
  obtain ⟨c, e1, hq⟩ := arQ_out rd_cur h
  clear h
  subst e1
  have h := hq
  clear hq
  obtain ⟨n, e1, hq⟩ := arC_out (rd_int .i64) h
  clear h
  subst e1
  have h := hq
  clear hq
  obtain ⟨hpre, h⟩ := chk_o h
  exact ⟨Nat.le_of_ble_eq_true (show Nat.ble 2 Tryz.f99.ntmps = true by kernel_rfl), _, run_spec_l1Below c n hpre h⟩

def pf_spec_l1Once : PF := ⟨[.t 4], .seq (.reg [.s (.mv 4 (.k (.v (.c .ff))))]) (.seq (.reg [.s (.mv 5 (.t 0)), .s (.mv 6 (.t 1)), .s (.call (some 7) 99 [(.t 5), (.t 6)]), .s (.bin 8 .eql (.t 7) (.k (.v (.c (.int .i64 0))))), .s (.mv 4 (.t 8))]) (.ret))⟩
def c_spec_l1Once : Fun := ⟨66, [true, false], fun ts K => as2 ts fun t0 t1 => arQ pCurT t0 fun c => arC (pI .i64) t1 fun n => chk (CurOk c) (∀ (x : Bool) (d : Cur), (CurOk d) → K (tB x) ([curOut d]))⟩
theorem run_spec_l1Once (c : Cur) (n : Int) (hpre : CurOk c) {K : Tree → List Tree → Prop} (hK : ∀ (x : Bool) (d : Cur), (CurOk d) → K (tB x) ([curOut d])) : runK [c_spec_l1Below] (0) [true, false] pf_spec_l1Once [.v (.ptr true 0 (c.tc [])), tI .i64 n] K := by
  conv => whnf
  repeat' (first | (refine sel_i (fun h => ?_) (fun h => ?_) <;> conv => whnf) | (refine chk_c ?_ ?_ <;> conv => whnf) | (refine And.intro ?_ rfl) | (refine And.intro ?_ ?_ <;> conv => whnf) | (intro x y z d hd; (try have g1 := And.left hd); (try have g2 := And.right hd); (try have g3 := And.left (And.right hd)); (try have g4 := And.right (And.right hd)); conv => whnf) | (intro x y d hd; (try have g1 := And.left hd); (try have g2 := And.right hd); (try have g3 := And.left (And.right hd)); (try have g4 := And.right (And.right hd)); conv => whnf) | (intro x d hd; (try have g1 := And.left hd); (try have g2 := And.right hd); (try have g3 := And.left (And.right hd)); (try have g4 := And.right (And.right hd)); conv => whnf) | (intro d hd; (try have g1 := And.left hd); (try have g2 := And.right hd); (try have g3 := And.left (And.right hd)); (try have g4 := And.right (And.right hd)); conv => whnf))
  all_goals first
    | (refine ⟨?_⟩; exact hpre)
    | exact hK _ ⟨_, _, _⟩ hd.2
    | trace_state
theorem ok_spec_l1Once : FunOk Tryz.prog c_spec_l1Once := funOkR (E := [c_spec_l1Below]) (envOk_cons ok_spec_l1Below (envOk_nil)) mixd Tryz.func66 (pf := pf_spec_l1Once) (by kernel_rfl) fun ts K h => by
  obtain ⟨t0, t1, e0, h⟩ := as2_out h
  subst e0
  obtain ⟨c, e1, hq⟩ := arQ_out rd_cur h
  clear h
  subst e1
  have h := hq
  clear hq
  obtain ⟨n, e1, hq⟩ := arC_out (rd_int .i64) h
  clear h
  subst e1
  have h := hq
  clear hq
  obtain ⟨hpre, h⟩ := chk_o h
  exact ⟨Nat.le_of_ble_eq_true (show Nat.ble 2 Tryz.f66.ntmps = true by kernel_rfl), _, run_spec_l1Once c n hpre h⟩

theorem getD_memI {l : List Int} {i : Nat} (h : i < l.length) : l.getD i 0 ∈ l := by
  rw [List.getD_eq_getElem?_getD, List.getElem?_eq_getElem h]; exact List.getElem_mem h

def pf_spec_l1PickInt : PF := ⟨[.t 4], .seq (.reg [.s (.mv 4 (.k (.v (.c (.int .i64 0)))))]) (.seq (.reg [.s (.mv 5 (.t 1)), .s (.mv 6 (.t 0)), .s (.mv 7 (.t 1)), .s (.len 8 false (.t 7)), .s (.call (some 9) 99 [(.t 6), (.t 8)]), .s (.ia 10 (.int .i64) (.t 5) (.t 9)), .s (.load 11 false 1 (.t 10)), .s (.mv 4 (.t 11))]) (.ret))⟩
def c_spec_l1PickInt : Fun := ⟨93, [true, true], fun ts K => as2 ts fun t0 t1 => arQ pCurT t0 fun c => arC (pO (.int .i64)) t1 fun l => chk (CurOk c ∧ 0 < l.length ∧ l.length ≤ 1048576) (∀ (x : Int) (d : Cur), (x ∈ l ∧ CurOk d) → K (tN x) ([curOut d, tL true (.int .i64) l]))⟩
theorem run_spec_l1PickInt (c : Cur) (l : List (FT.Ty (.int .i64))) (hpre : CurOk c ∧ 0 < l.length ∧ l.length ≤ 1048576) {K : Tree → List Tree → Prop} (hK : ∀ (x : Int) (d : Cur), (x ∈ l ∧ CurOk d) → K (tN x) ([curOut d, tL true (.int .i64) l])) : runK [c_spec_l1Below] (0) [true, true] pf_spec_l1PickInt [.v (.ptr true 0 (c.tc [])), tL true (.int .i64) l] K := by
  obtain ⟨c1, c2⟩ := hpre
  conv => whnf
  repeat' (first | (refine sel_i (fun h => ?_) (fun h => ?_) <;> conv => whnf) | (refine chk_c ?_ ?_ <;> conv => whnf) | (refine And.intro ?_ rfl) | (refine And.intro ?_ ?_ <;> conv => whnf) | (intro x y z d hd; (try have g1 := And.left hd); (try have g2 := And.right hd); (try have g3 := And.left (And.right hd)); (try have g4 := And.right (And.right hd)); conv => whnf) | (intro x y d hd; (try have g1 := And.left hd); (try have g2 := And.right hd); (try have g3 := And.left (And.right hd)); (try have g4 := And.right (And.right hd)); conv => whnf) | (intro x d hd; (try have g1 := And.left hd); (try have g2 := And.right hd); (try have g3 := And.left (And.right hd)); (try have g4 := And.right (And.right hd)); conv => whnf) | (intro d hd; (try have g1 := And.left hd); (try have g2 := And.right hd); (try have g3 := And.left (And.right hd)); (try have g4 := And.right (And.right hd)); conv => whnf))
  all_goals first
    | (refine ⟨?_⟩; exact c1)
    | (refine ⟨?_⟩; have := hd.1; omega)
    | (exact hK _ ⟨_, _, _⟩ ⟨getD_memI (by have := hd.1; omega), hd.2⟩)
    | trace_state
theorem ok_spec_l1PickInt : FunOk Tryz.prog c_spec_l1PickInt := funOkR (E := [c_spec_l1Below]) (envOk_cons ok_spec_l1Below (envOk_nil)) mixd Tryz.func93 (pf := pf_spec_l1PickInt) (by kernel_rfl) fun ts K h => by
  obtain ⟨t0, t1, e0, h⟩ := as2_out h
  subst e0
  obtain ⟨c, e1, hq⟩ := arQ_out rd_cur h
  clear h
  subst e1
  have h := hq
  clear hq
  obtain ⟨l, e1, hq⟩ := arC_out (rd_o (.int .i64)) h
  clear h
  subst e1
  have h := hq
  clear hq
  obtain ⟨hpre, h⟩ := chk_o h
  exact ⟨Nat.le_of_ble_eq_true (show Nat.ble 2 Tryz.f93.ntmps = true by kernel_rfl), _, run_spec_l1PickInt c l hpre h⟩

def pf_spec_l1Long : PF := ⟨[.t 6], .seq (.reg [.s (.mv 6 (.k (.v (.c (.int .i64 0)))))]) (.seq (.reg [.s (.mv 8 (.t 1)), .s (.mv 9 (.t 0)), .s (.len 10 false (.t 9)), .s (.bin 11 .quo (.t 10) (.k (.v (.c (.int .i64 4))))), .s (.bin 12 .add (.t 8) (.t 11)), .s (.mv 7 (.t 12))]) (.seq (.seq (.reg [.s (.mv 13 (.t 7)), .s (.mv 14 (.t 2)), .s (.bin 15 .gtr (.t 13) (.t 14))]) (.cond (.t 15) (.seq (.reg [.s (.mv 16 (.t 2)), .s (.mv 6 (.t 16))]) (.ret)) (.skip))) (.seq (.reg [.s (.mv 17 (.t 7)), .s (.mv 6 (.t 17))]) (.ret))))⟩
def c_spec_l1Long : Fun := ⟨109, [], fun ts K => as3 ts fun t0 t1 t2 => arC (pL (.int .u8)) t0 fun c => arC (pI .i64) t1 fun a => arC (pI .i64) t2 fun b => ∀ (x : Int), (x ≤ b) → K (tN x) []⟩
theorem run_spec_l1Long (c : List (FT.Ty (.int .u8))) (a : Int) (b : Int) {K : Tree → List Tree → Prop} (hK : ∀ (x : Int), (x ≤ b) → K (tN x) []) : runK [] (0) [] pf_spec_l1Long [tL false (.int .u8) c, tI .i64 a, tI .i64 b] K := by
  conv => whnf
  repeat' (first | (refine sel_i (fun h => ?_) (fun h => ?_) <;> conv => whnf) | (refine chk_c ?_ ?_ <;> conv => whnf) | (refine And.intro ?_ rfl) | (refine And.intro ?_ ?_ <;> conv => whnf))
  all_goals first
    | (refine ⟨?_⟩; decide)
    | exact hK _ (Int.le_refl _)
    | exact hK _ (by have := of_decide_eq_false h; omega)
    | trace_state
theorem ok_spec_l1Long : FunOk Tryz.prog c_spec_l1Long := funOkR (E := []) (envOk_nil) mixd Tryz.func109 (pf := pf_spec_l1Long) (by kernel_rfl) fun ts K h => by
  obtain ⟨t0, t1, t2, e0, h⟩ := as3_out h
  subst e0
  obtain ⟨c, e1, hq⟩ := arC_out (rd_l (.int .u8)) h
  clear h
  subst e1
  have h := hq
  clear hq
  obtain ⟨a, e1, hq⟩ := arC_out (rd_int .i64) h
  clear h
  subst e1
  have h := hq
  clear hq
  obtain ⟨b, e1, hq⟩ := arC_out (rd_int .i64) h
  clear h
  subst e1
  have h := hq
  clear hq
  exact ⟨Nat.le_of_ble_eq_true (show Nat.ble 3 Tryz.f109.ntmps = true by kernel_rfl), _, run_spec_l1Long c a b h⟩

theorem kKey {K : Tree → List Tree → Prop} {o : List Tree} {P : Prop} (hK : ∀ w : Key, P → K (tG (w.tc [])) o) (a b c d : Int) (h : P) : K (.v (.g [.int .i64 a, .int .i64 b, .int .i64 c, .int .i64 d])) o := hK ⟨a, b, c, d⟩ h
theorem kWord {K : Tree → List Tree → Prop} {o : List Tree} {P : Prop} (hK : ∀ w : Word, P → K (tG (w.tc [])) o) (n : Int) (is : Bool) (a b c d : Int) (h : P) : K (.v (.g [.int .i64 n, .bool is, .int .i64 a, .int .i64 b, .int .i64 c, .int .i64 d])) o := hK ⟨n, is, ⟨a, b, c, d⟩⟩ h
theorem kInst {K : Tree → List Tree → Prop} {o : List Tree} {P : Prop} (hK : ∀ w : Inst, P → K (tG (w.tc [])) o) (e a b c d : Int) (h : P) : K (.v (.g [.int .i64 e, .int .i64 a, .int .i64 b, .int .i64 c, .int .i64 d])) o := hK ⟨e, a, b, c, d⟩ h

def pf_spec_Root : PF := ⟨[.c 0 true 4], .seq (.reg [.s (.alloc 0 [.int .i64 0, .int .i64 0, .int .i64 0, .int .i64 0])]) (.seq (.reg [.s (.build 1 [.int .i64 0, .int .i64 0, .int .i64 0, .int .i64 0] [(1, 1, (.k (.v (.c (.int .i64 4096))))), (2, 1, (.k (.v (.c (.int .i64 63)))))]), .s (.store 4 (.t 0) (.t 1))]) (.ret))⟩
def c_spec_Root : Fun := ⟨201, [], fun ts K => as0 ts (K (tG ((⟨0, 4096, 63, 0⟩ : Key).tc [])) [])⟩
theorem run_spec_Root  : runK [] (0) [] pf_spec_Root [] fun r o => r = tG ((⟨0, 4096, 63, 0⟩ : Key).tc []) ∧ o = [] := by
  conv => whnf
  repeat' (first | (refine sel_i (fun h => ?_) (fun h => ?_) <;> conv => whnf) | (refine chk_c ?_ ?_ <;> conv => whnf) | (refine And.intro ?_ rfl) | (refine And.intro ?_ ?_ <;> conv => whnf))
  rfl
theorem ok_spec_Root : FunOk Tryz.prog c_spec_Root := funOk (E := []) (envOk_nil) mixd Tryz.func201 (pf := pf_spec_Root) (by kernel_rfl) fun ts K h => by
  obtain ⟨e0, h⟩ := as0_out h
  subst e0
  exact ⟨_, _, h, Nat.le_of_ble_eq_true (show Nat.ble 0 Tryz.f201.ntmps = true by kernel_rfl), _, run_spec_Root ⟩

def pf_spec_l2DrawRight : PF := ⟨[.c 2 true 4], .seq (.reg [.s (.alloc 2 [.int .i64 0, .int .i64 0, .int .i64 0, .int .i64 0])]) (.seq (.reg [.s (.call (some 4) 201 []), .s (.alloc 3 [.int .i64 0, .int .i64 0, .int .i64 0, .int .i64 0]), .s (.store 4 (.t 3) (.t 4))]) (.seq (.seq (.reg [.s (.mv 5 (.t 0)), .s (.call (some 6) 99 [(.t 5), (.k (.v (.c (.int .i64 4))))])]) (.blk 0 (.seq (.reg [.s (.bin 8 .eql (.t 6) (.k (.v (.c (.int .i64 0))))), .s (.mv 7 (.t 8))]) (.cond (.t 7) (.seq (.reg [.s (.mv 9 (.t 0)), .s (.call (some 10) 99 [(.t 9), (.k (.v (.c (.int .i64 30))))]), .s (.fa 11 (.t 3) 0), .s (.store 1 (.t 11) (.t 10))]) (.rgd [0] [.s (.fa 12 (.t 3) 0), .s (.load 13 false 1 (.t 12)), .s (.mv 14 (.t 0)), .s (.call (some 15) 99 [(.t 14), (.k (.v (.c (.int .i64 33))))]), .s (.bin 16 .add (.t 13) (.t 15)), .s (.fa 17 (.t 3) 1), .s (.store 1 (.t 17) (.t 16))] (.tk 0 (.tk 1 (.tk 2 (.one 3 false (.tk 4 (.tk 5 (.one 6 true (.done none)))))))))) (.seq (.reg [.s (.bin 19 .eql (.t 6) (.k (.v (.c (.int .i64 1))))), .s (.mv 18 (.t 19))]) (.cond (.t 18) (.seq (.reg [.s (.mv 20 (.t 0)), .s (.call (some 21) 99 [(.t 20), (.k (.v (.c (.int .i64 20))))]), .s (.bin 22 .mul (.k (.v (.c (.int .i64 64)))) (.t 21)), .s (.fa 23 (.t 3) 0), .s (.store 1 (.t 23) (.t 22))]) (.rgd [0] [.s (.fa 24 (.t 3) 0), .s (.load 25 false 1 (.t 24)), .s (.mv 26 (.t 0)), .s (.call (some 27) 99 [(.t 26), (.k (.v (.c (.int .i64 9))))]), .s (.bin 28 .mul (.k (.v (.c (.int .i64 64)))) (.t 27)), .s (.bin 29 .add (.t 25) (.t 28)), .s (.fa 30 (.t 3) 1), .s (.store 1 (.t 30) (.t 29))] (.tk 0 (.tk 1 (.tk 2 (.one 3 false (.tk 4 (.tk 5 (.tk 6 (.one 7 true (.done none))))))))))) (.seq (.reg [.s (.bin 32 .eql (.t 6) (.k (.v (.c (.int .i64 2))))), .s (.mv 31 (.t 32))]) (.cond (.t 31) (.reg [.s (.fa 33 (.t 3) 1), .s (.store 1 (.t 33) (.k (.v (.c (.int .i64 32)))))]) (.skip))))))))) (.seq (.seq (.reg [.s (.mv 34 (.t 0)), .s (.call (some 35) 66 [(.t 34), (.k (.v (.c (.int .i64 2))))])]) (.cond (.t 35) (.reg [.s (.mv 36 (.t 0)), .s (.call (some 37) 99 [(.t 36), (.k (.v (.c (.int .i64 64))))]), .s (.fa 38 (.t 3) 2), .s (.store 1 (.t 38) (.t 37))]) (.skip))) (.seq (.seq (.reg [.s (.mv 39 (.t 0)), .s (.call (some 40) 66 [(.t 39), (.k (.v (.c (.int .i64 5))))])]) (.cond (.t 40) (.reg [.s (.mv 41 (.t 0)), .s (.call (some 42) 99 [(.t 41), (.k (.v (.c (.int .i64 7))))]), .s (.bin 43 .add (.k (.v (.c (.int .i64 1)))) (.t 42)), .s (.fa 44 (.t 3) 3), .s (.store 1 (.t 44) (.t 43))]) (.skip))) (.seq (.reg [.s (.load 45 true 4 (.t 3)), .s (.store 4 (.t 2) (.t 45))]) (.ret))))))⟩
def c_spec_l2DrawRight : Fun := ⟨142, [true], fun ts K => as1 ts fun t0 => arQ pCurT t0 fun c => chk (CurOk c) (∀ (k : Key) (d : Cur), (CurOk d) → K (tG (k.tc [])) ([curOut d]))⟩
theorem run_spec_l2DrawRight (c : Cur) (hpre : CurOk c) {K : Tree → List Tree → Prop} (hK : ∀ (k : Key) (d : Cur), (CurOk d) → K (tG (k.tc [])) ([curOut d])) : runK [c_spec_l1Once, c_spec_l1Below, c_spec_Root] (0) [true] pf_spec_l2DrawRight [.v (.ptr true 0 (c.tc []))] K := by
  conv => whnf
  repeat' (first | (refine sel_i (fun h => ?_) (fun h => ?_) <;> conv => whnf) | (refine chk_c ?_ ?_ <;> conv => whnf) | (refine And.intro ?_ rfl) | (refine And.intro ?_ ?_ <;> conv => whnf) | (intro x y z d hd; (try have g1 := And.left hd); (try have g2 := And.right hd); (try have g3 := And.left (And.right hd)); (try have g4 := And.right (And.right hd)); conv => whnf) | (intro x y d hd; (try have g1 := And.left hd); (try have g2 := And.right hd); (try have g3 := And.left (And.right hd)); (try have g4 := And.right (And.right hd)); conv => whnf) | (intro x d hd; (try have g1 := And.left hd); (try have g2 := And.right hd); (try have g3 := And.left (And.right hd)); (try have g4 := And.right (And.right hd)); conv => whnf) | (intro d hd; (try have g1 := And.left hd); (try have g2 := And.right hd); (try have g3 := And.left (And.right hd)); (try have g4 := And.right (And.right hd)); conv => whnf))
  all_goals first
    | (refine ⟨?_⟩; exact hd)
    | (refine ⟨?_⟩; exact hd.2)
    | (refine ⟨?_⟩; exact hpre)
    | (refine ⟨?_⟩; exact ⟨hd, by decide⟩)
    | (refine ⟨?_⟩; exact ⟨hd.2, by decide⟩)
    | (refine ⟨?_⟩; exact ⟨hd, by simp⟩)
    | (refine ⟨?_⟩; exact ⟨hd.2, by simp⟩)
    | (refine ⟨?_⟩; exact ⟨hpre, by simp⟩)
    | (refine ⟨?_⟩; decide)
    | (refine ⟨?_⟩; rfl)
    | ((try dsimp only); exact kKey (fun w hw => hK w _ hw) _ _ _ _  hd)
    | ((try dsimp only); exact kKey (fun w hw => hK w _ hw) _ _ _ _  hd.2)
    | trace_state
theorem ok_spec_l2DrawRight : FunOk Tryz.prog c_spec_l2DrawRight := funOkR (E := [c_spec_l1Once, c_spec_l1Below, c_spec_Root]) (envOk_cons ok_spec_l1Once (envOk_cons ok_spec_l1Below (envOk_cons ok_spec_Root (envOk_nil)))) mixd Tryz.func142 (pf := pf_spec_l2DrawRight) (by kernel_rfl) fun ts K h => by
  obtain ⟨t0, e0, h⟩ := as1_out h
  subst e0
  obtain ⟨c, e1, hq⟩ := arQ_out rd_cur h
  clear h
  subst e1
  have h := hq
  clear hq
  obtain ⟨hpre, h⟩ := chk_o h
  exact ⟨Nat.le_of_ble_eq_true (show Nat.ble 1 Tryz.f142.ntmps = true by kernel_rfl), _, run_spec_l2DrawRight c hpre h⟩

def pf_spec_l2Draw : PF := ⟨[.c 2 true 4], .seq (.reg [.s (.alloc 2 [.int .i64 0, .int .i64 0, .int .i64 0, .int .i64 0])]) (.seq (.reg [.s (.mv 4 (.t 0)), .s (.call (some 5) 142 [(.t 4)]), .s (.alloc 3 [.int .i64 0, .int .i64 0, .int .i64 0, .int .i64 0]), .s (.store 4 (.t 3) (.t 5))]) (.seq (.seq (.reg [.s (.mv 6 (.t 0)), .s (.call (some 7) 99 [(.t 6), (.k (.v (.c (.int .i64 12))))])]) (.blk 0 (.seq (.reg [.s (.bin 9 .eql (.t 7) (.k (.v (.c (.int .i64 0))))), .s (.mv 8 (.t 9))]) (.cond (.t 8) (.rgd [0] [.s (.fa 10 (.t 3) 0), .s (.load 11 false 1 (.t 10)), .s (.mv 12 (.t 0)), .s (.bs 13 (.int .i64) [(.k (.v (.c (.int .i64 (-1))))), (.k (.v (.c (.int .i64 65)))), (.k (.v (.c (.int .i64 97)))), (.k (.v (.c (.int .i64 5000))))]), .s (.call (some 14) 93 [(.t 12), (.t 13)]), .s (.bin 15 .add (.t 11) (.t 14)), .s (.fa 16 (.t 3) 1), .s (.store 1 (.t 16) (.t 15))] (.tk 0 (.tk 1 (.tk 2 (.one 3 false (.one 4 false (.tk 5 (.tk 6 (.one 7 true (.done none)))))))))) (.seq (.reg [.s (.bin 18 .eql (.t 7) (.k (.v (.c (.int .i64 1))))), .s (.mv 17 (.t 18))]) (.cond (.t 17) (.reg [.s (.mv 19 (.t 0)), .s (.bs 20 (.int .i64) [(.k (.v (.c (.int .i64 (-1))))), (.k (.v (.c (.int .i64 64))))]), .s (.call (some 21) 93 [(.t 19), (.t 20)]), .s (.fa 22 (.t 3) 2), .s (.store 1 (.t 22) (.t 21))]) (.seq (.reg [.s (.bin 24 .eql (.t 7) (.k (.v (.c (.int .i64 2))))), .s (.mv 23 (.t 24))]) (.cond (.t 23) (.reg [.s (.mv 25 (.t 0)), .s (.bs 26 (.int .i64) [(.k (.v (.c (.int .i64 (-1))))), (.k (.v (.c (.int .i64 8))))]), .s (.call (some 27) 93 [(.t 25), (.t 26)]), .s (.fa 28 (.t 3) 3), .s (.store 1 (.t 28) (.t 27))]) (.skip))))))))) (.seq (.reg [.s (.load 29 true 4 (.t 3)), .s (.store 4 (.t 2) (.t 29))]) (.ret))))⟩
def c_spec_l2Draw : Fun := ⟨217, [true], fun ts K => as1 ts fun t0 => arQ pCurT t0 fun c => chk (CurOk c) (∀ (k : Key) (d : Cur), (CurOk d) → K (tG (k.tc [])) ([curOut d]))⟩
theorem run_spec_l2Draw (c : Cur) (hpre : CurOk c) {K : Tree → List Tree → Prop} (hK : ∀ (k : Key) (d : Cur), (CurOk d) → K (tG (k.tc [])) ([curOut d])) : runK [c_spec_l1PickInt, c_spec_l1Below, c_spec_l2DrawRight] (0) [true] pf_spec_l2Draw [.v (.ptr true 0 (c.tc []))] K := by
  conv => whnf
  repeat' (first | (refine sel_i (fun h => ?_) (fun h => ?_) <;> conv => whnf) | (refine chk_c ?_ ?_ <;> conv => whnf) | (refine And.intro ?_ rfl) | (refine And.intro ?_ ?_ <;> conv => whnf) | (intro x y z d hd; (try have g1 := And.left hd); (try have g2 := And.right hd); (try have g3 := And.left (And.right hd)); (try have g4 := And.right (And.right hd)); conv => whnf) | (intro x y d hd; (try have g1 := And.left hd); (try have g2 := And.right hd); (try have g3 := And.left (And.right hd)); (try have g4 := And.right (And.right hd)); conv => whnf) | (intro x d hd; (try have g1 := And.left hd); (try have g2 := And.right hd); (try have g3 := And.left (And.right hd)); (try have g4 := And.right (And.right hd)); conv => whnf) | (intro d hd; (try have g1 := And.left hd); (try have g2 := And.right hd); (try have g3 := And.left (And.right hd)); (try have g4 := And.right (And.right hd)); conv => whnf))
  all_goals first
    | (refine ⟨?_⟩; exact hd)
    | (refine ⟨?_⟩; exact hd.2)
    | (refine ⟨?_⟩; exact hpre)
    | (refine ⟨?_⟩; exact ⟨hd, by decide⟩)
    | (refine ⟨?_⟩; exact ⟨hd.2, by decide⟩)
    | (refine ⟨?_⟩; exact ⟨hd, by simp⟩)
    | (refine ⟨?_⟩; exact ⟨hd.2, by simp⟩)
    | (refine ⟨?_⟩; exact ⟨hpre, by simp⟩)
    | (refine ⟨?_⟩; decide)
    | (refine ⟨?_⟩; rfl)
    | ((try dsimp only); exact kKey (fun w hw => hK w _ hw) _ _ _ _  hd)
    | ((try dsimp only); exact kKey (fun w hw => hK w _ hw) _ _ _ _  hd.2)
    | trace_state
theorem ok_spec_l2Draw : FunOk Tryz.prog c_spec_l2Draw := funOkR (E := [c_spec_l1PickInt, c_spec_l1Below, c_spec_l2DrawRight]) (envOk_cons ok_spec_l1PickInt (envOk_cons ok_spec_l1Below (envOk_cons ok_spec_l2DrawRight (envOk_nil)))) mixd Tryz.func217 (pf := pf_spec_l2Draw) (by kernel_rfl) fun ts K h => by
  obtain ⟨t0, e0, h⟩ := as1_out h
  subst e0
  obtain ⟨c, e1, hq⟩ := arQ_out rd_cur h
  clear h
  subst e1
  have h := hq
  clear hq
  obtain ⟨hpre, h⟩ := chk_o h
  exact ⟨Nat.le_of_ble_eq_true (show Nat.ble 1 Tryz.f217.ntmps = true by kernel_rfl), _, run_spec_l2Draw c hpre h⟩

def pf_spec_l3DrawRight : PF := ⟨[.c 2 true 6], .seq (.reg [.s (.alloc 2 [.int .i64 0, .ff, .int .i64 0, .int .i64 0, .int .i64 0, .int .i64 0])]) (.seq (.seq (.reg [.s (.mv 4 (.t 0)), .s (.call (some 5) 66 [(.t 4), (.k (.v (.c (.int .i64 3))))])]) (.cond (.t 5) (.seq (.reg [.s (.mv 6 (.t 0)), .s (.bs 7 (.int .i64) [(.k (.v (.c (.int .i64 0)))), (.k (.v (.c (.int .i64 1)))), (.k (.v (.c (.int .i64 2)))), (.k (.v (.c (.int .i64 5)))), (.k (.v (.c (.int .i64 31)))), (.k (.v (.c (.int .i64 65535))))]), .s (.call (some 8) 93 [(.t 6), (.t 7)]), .s (.call (some 9) 141 [(.t 8)]), .s (.store 6 (.t 2) (.t 9))]) (.ret)) (.skip))) (.seq (.reg [.s (.mv 10 (.t 0)), .s (.call (some 11) 142 [(.t 10)]), .s (.alloc 3 [.int .i64 0, .int .i64 0, .int .i64 0, .int .i64 0]), .s (.store 4 (.t 3) (.t 11))]) (.seq (.rgd [0] [.s (.load 12 true 4 (.t 3)), .s (.mv 13 (.t 0)), .s (.fa 14 (.t 3) 0), .s (.load 15 false 1 (.t 14)), .s (.fa 16 (.t 3) 0), .s (.load 17 false 1 (.t 16)), .s (.fa 18 (.t 3) 0), .s (.load 19 false 1 (.t 18)), .s (.bin 20 .add (.t 19) (.k (.v (.c (.int .i64 1))))), .s (.fa 21 (.t 3) 1), .s (.load 22 false 1 (.t 21)), .s (.bs 23 (.int .i64) [(.t 15), (.t 17), (.t 20), (.t 22), (.k (.v (.c (.int .i64 3)))), (.k (.v (.c (.int .i64 1))))]), .s (.call (some 24) 93 [(.t 13), (.t 23)]), .s (.call (some 25) 143 [(.t 12), (.t 24)]), .s (.store 6 (.t 2) (.t 25))] (.tk 0 (.tk 1 (.tk 2 (.tk 3 (.tk 4 (.tk 5 (.tk 6 (.tk 7 (.tk 8 (.tk 9 (.tk 10 (.one 11 false (.one 12 false (.one 13 true (.one 14 true (.done none))))))))))))))))) (.ret))))⟩
def c_spec_l3DrawRight : Fun := ⟨67, [true], fun ts K => as1 ts fun t0 => arQ pCurT t0 fun c => chk (CurOk c) (∀ (w : Word) (d : Cur), (wordOk w = true ∧ CurOk d) → K (tG (w.tc [])) ([curOut d]))⟩
theorem run_spec_l3DrawRight (c : Cur) (hpre : CurOk c) {K : Tree → List Tree → Prop} (hK : ∀ (w : Word) (d : Cur), (wordOk w = true ∧ CurOk d) → K (tG (w.tc [])) ([curOut d])) : runK [c_spec_l1Once, c_spec_l1PickInt, c_spec_Plain, c_spec_l2DrawRight, c_spec_KeyWord] (0) [true] pf_spec_l3DrawRight [.v (.ptr true 0 (c.tc []))] K := by
  conv => whnf
  repeat' (first | (refine sel_i (fun h => ?_) (fun h => ?_) <;> conv => whnf) | (refine chk_c ?_ ?_ <;> conv => whnf) | (refine And.intro ?_ rfl) | (refine And.intro ?_ ?_ <;> conv => whnf) | (intro x y z d hd; (try have g1 := And.left hd); (try have g2 := And.right hd); (try have g3 := And.left (And.right hd)); (try have g4 := And.right (And.right hd)); conv => whnf) | (intro x y d hd; (try have g1 := And.left hd); (try have g2 := And.right hd); (try have g3 := And.left (And.right hd)); (try have g4 := And.right (And.right hd)); conv => whnf) | (intro x d hd; (try have g1 := And.left hd); (try have g2 := And.right hd); (try have g3 := And.left (And.right hd)); (try have g4 := And.right (And.right hd)); conv => whnf) | (intro d hd; (try have g1 := And.left hd); (try have g2 := And.right hd); (try have g3 := And.left (And.right hd)); (try have g4 := And.right (And.right hd)); conv => whnf))
  all_goals first
    | (refine ⟨?_⟩; exact hd)
    | (refine ⟨?_⟩; exact hd.2)
    | (refine ⟨?_⟩; exact hpre)
    | (refine ⟨?_⟩; exact ⟨hd, by decide⟩)
    | (refine ⟨?_⟩; exact ⟨hd.2, by decide⟩)
    | (refine ⟨?_⟩; exact ⟨hd, by simp⟩)
    | (refine ⟨?_⟩; exact ⟨hd.2, by simp⟩)
    | (refine ⟨?_⟩; exact ⟨hpre, by simp⟩)
    | (refine ⟨?_⟩; decide)
    | (refine ⟨?_⟩; rfl)
    | exact hK (plainW _) _ ⟨plainW_ok _, hd.2⟩
    | exact hK (keyWord _ _) _ ⟨keyWord_ok _ _, hd.2⟩
    | trace_state
theorem ok_spec_l3DrawRight : FunOk Tryz.prog c_spec_l3DrawRight := funOkR (E := [c_spec_l1Once, c_spec_l1PickInt, c_spec_Plain, c_spec_l2DrawRight, c_spec_KeyWord]) (envOk_cons ok_spec_l1Once (envOk_cons ok_spec_l1PickInt (envOk_cons ok_spec_Plain (envOk_cons ok_spec_l2DrawRight (envOk_cons ok_spec_KeyWord (envOk_nil)))))) mixd Tryz.func67 (pf := pf_spec_l3DrawRight) (by kernel_rfl) fun ts K h => by
  obtain ⟨t0, e0, h⟩ := as1_out h
  subst e0
  obtain ⟨c, e1, hq⟩ := arQ_out rd_cur h
  clear h
  subst e1
  have h := hq
  clear hq
  obtain ⟨hpre, h⟩ := chk_o h
  exact ⟨Nat.le_of_ble_eq_true (show Nat.ble 1 Tryz.f67.ntmps = true by kernel_rfl), _, run_spec_l3DrawRight c hpre h⟩

def pf_spec_l3Draw : PF := ⟨[.c 2 true 6], .seq (.reg [.s (.alloc 2 [.int .i64 0, .ff, .int .i64 0, .int .i64 0, .int .i64 0, .int .i64 0])]) (.seq (.reg [.s (.mv 4 (.t 0)), .s (.call (some 5) 67 [(.t 4)]), .s (.alloc 3 [.int .i64 0, .ff, .int .i64 0, .int .i64 0, .int .i64 0, .int .i64 0]), .s (.store 6 (.t 3) (.t 5))]) (.seq (.seq (.reg [.s (.mv 6 (.t 0)), .s (.call (some 7) 99 [(.t 6), (.k (.v (.c (.int .i64 12))))])]) (.blk 0 (.seq (.reg [.s (.bin 9 .eql (.t 7) (.k (.v (.c (.int .i64 0))))), .s (.mv 8 (.t 9))]) (.cond (.t 8) (.reg [.s (.mv 10 (.t 0)), .s (.bs 11 (.int .i64) [(.k (.v (.c (.int .i64 (-1))))), (.k (.v (.c (.int .i64 65536)))), (.k (.v (.c (.int .i64 9223372036854775807))))]), .s (.call (some 12) 93 [(.t 10), (.t 11)]), .s (.fa 13 (.t 3) 0), .s (.store 1 (.t 13) (.t 12))]) (.seq (.reg [.s (.bin 15 .eql (.t 7) (.k (.v (.c (.int .i64 1))))), .s (.mv 14 (.t 15))]) (.cond (.t 14) (.reg [.s (.fa 16 (.t 3) 1), .s (.load 17 false 1 (.t 16)), .s (.bnot 18 (.t 17)), .s (.fa 19 (.t 3) 1), .s (.store 1 (.t 19) (.t 18))]) (.seq (.reg [.s (.bin 21 .eql (.t 7) (.k (.v (.c (.int .i64 2))))), .s (.mv 20 (.t 21))]) (.cond (.t 20) (.reg [.s (.mv 22 (.t 0)), .s (.call (some 23) 217 [(.t 22)]), .s (.fa 24 (.t 3) 2), .s (.store 4 (.t 24) (.t 23))]) (.skip))))))))) (.seq (.reg [.s (.load 25 true 6 (.t 3)), .s (.store 6 (.t 2) (.t 25))]) (.ret))))⟩
def c_spec_l3Draw : Fun := ⟨159, [true], fun ts K => as1 ts fun t0 => arQ pCurT t0 fun c => chk (CurOk c) (∀ (w : Word) (d : Cur), (CurOk d) → K (tG (w.tc [])) ([curOut d]))⟩
theorem run_spec_l3Draw (c : Cur) (hpre : CurOk c) {K : Tree → List Tree → Prop} (hK : ∀ (w : Word) (d : Cur), (CurOk d) → K (tG (w.tc [])) ([curOut d])) : runK [c_spec_l3DrawRight, c_spec_l1PickInt, c_spec_l1Below, c_spec_l2Draw] (0) [true] pf_spec_l3Draw [.v (.ptr true 0 (c.tc []))] K := by
  conv => whnf
  repeat' (first | (refine sel_i (fun h => ?_) (fun h => ?_) <;> conv => whnf) | (refine chk_c ?_ ?_ <;> conv => whnf) | (refine And.intro ?_ rfl) | (refine And.intro ?_ ?_ <;> conv => whnf) | (intro x y z d hd; (try have g1 := And.left hd); (try have g2 := And.right hd); (try have g3 := And.left (And.right hd)); (try have g4 := And.right (And.right hd)); conv => whnf) | (intro x y d hd; (try have g1 := And.left hd); (try have g2 := And.right hd); (try have g3 := And.left (And.right hd)); (try have g4 := And.right (And.right hd)); conv => whnf) | (intro x d hd; (try have g1 := And.left hd); (try have g2 := And.right hd); (try have g3 := And.left (And.right hd)); (try have g4 := And.right (And.right hd)); conv => whnf) | (intro d hd; (try have g1 := And.left hd); (try have g2 := And.right hd); (try have g3 := And.left (And.right hd)); (try have g4 := And.right (And.right hd)); conv => whnf))
  all_goals first
    | (refine ⟨?_⟩; exact hd)
    | (refine ⟨?_⟩; exact hd.2)
    | (refine ⟨?_⟩; exact hpre)
    | (refine ⟨?_⟩; exact ⟨hd, by decide⟩)
    | (refine ⟨?_⟩; exact ⟨hd.2, by decide⟩)
    | (refine ⟨?_⟩; exact ⟨hd, by simp⟩)
    | (refine ⟨?_⟩; exact ⟨hd.2, by simp⟩)
    | (refine ⟨?_⟩; exact ⟨hpre, by simp⟩)
    | (refine ⟨?_⟩; decide)
    | (refine ⟨?_⟩; rfl)
    | ((try dsimp only); exact kWord (fun w hw => hK w _ hw) _ _ _ _ _ _  hd)
    | ((try dsimp only); exact kWord (fun w hw => hK w _ hw) _ _ _ _ _ _  hd.2)
    | trace_state
theorem ok_spec_l3Draw : FunOk Tryz.prog c_spec_l3Draw := funOkR (E := [c_spec_l3DrawRight, c_spec_l1PickInt, c_spec_l1Below, c_spec_l2Draw]) (envOk_cons ok_spec_l3DrawRight (envOk_cons ok_spec_l1PickInt (envOk_cons ok_spec_l1Below (envOk_cons ok_spec_l2Draw (envOk_nil))))) mixd Tryz.func159 (pf := pf_spec_l3Draw) (by kernel_rfl) fun ts K h => by
  obtain ⟨t0, e0, h⟩ := as1_out h
  subst e0
  obtain ⟨c, e1, hq⟩ := arQ_out rd_cur h
  clear h
  subst e1
  have h := hq
  clear hq
  obtain ⟨hpre, h⟩ := chk_o h
  exact ⟨Nat.le_of_ble_eq_true (show Nat.ble 1 Tryz.f159.ntmps = true by kernel_rfl), _, run_spec_l3Draw c hpre h⟩

def pf_spec_l6DrawIns : PF := ⟨[.c 2 true 5], .seq (.reg [.s (.alloc 2 [.int .i64 0, .int .i64 0, .int .i64 0, .int .i64 0, .int .i64 0])]) (.seq (.reg [.s (.mv 9 (.t 0)), .s (.call (some 10) 99 [(.t 9), (.k (.v (.c (.int .i64 4))))]), .s (.bin 11 .add (.k (.v (.c (.int .i64 1)))) (.t 10)), .s (.mv 12 (.t 0)), .s (.call (some 13) 99 [(.t 12), (.k (.v (.c (.int .i64 4))))]), .s (.mv 14 (.t 0)), .s (.call (some 15) 99 [(.t 14), (.k (.v (.c (.int .i64 4))))]), .s (.mv 16 (.t 0)), .s (.bs 17 (.int .i64) [(.k (.v (.c (.int .i64 0)))), (.k (.v (.c (.int .i64 0)))), (.k (.v (.c (.int .i64 1)))), (.k (.v (.c (.int .i64 2)))), (.k (.v (.c (.int .i64 3)))), (.k (.v (.c (.int .i64 (-1))))), (.k (.v (.c (.int .i64 20))))]), .s (.call (some 18) 93 [(.t 16), (.t 17)]), .s (.mv 3 (.t 11)), .s (.mv 4 (.t 13)), .s (.mv 5 (.t 15)), .s (.mv 6 (.t 18))]) (.seq (.reg [.s (.mv 19 (.t 0)), .s (.bs 20 (.int .i64) [(.k (.v (.c (.int .i64 1)))), (.k (.v (.c (.int .i64 1)))), (.k (.v (.c (.int .i64 1)))), (.k (.v (.c (.int .i64 2)))), (.k (.v (.c (.int .i64 3)))), (.k (.v (.c (.int .i64 4)))), (.k (.v (.c (.int .i64 5)))), (.k (.v (.c (.int .i64 5)))), (.k (.v (.c (.int .i64 6)))), (.k (.v (.c (.int .i64 6)))), (.k (.v (.c (.int .i64 7)))), (.k (.v (.c (.int .i64 8)))), (.k (.v (.c (.int .i64 9)))), (.k (.v (.c (.int .i64 10)))), (.k (.v (.c (.int .i64 10)))), (.k (.v (.c (.int .i64 10)))), (.k (.v (.c (.int .i64 11)))), (.k (.v (.c (.int .i64 11)))), (.k (.v (.c (.int .i64 11)))), (.k (.v (.c (.int .i64 12)))), (.k (.v (.c (.int .i64 13)))), (.k (.v (.c (.int .i64 13)))), (.k (.v (.c (.int .i64 14)))), (.k (.v (.c (.int .i64 15))))]), .s (.call (some 21) 93 [(.t 19), (.t 20)]), .s (.build 22 [.int .i64 0, .int .i64 0, .int .i64 0, .int .i64 0, .int .i64 0] [(0, 1, (.t 21))]), .s (.alloc 7 [.int .i64 0, .int .i64 0, .int .i64 0, .int .i64 0, .int .i64 0]), .s (.store 5 (.t 7) (.t 22))]) (.seq (.reg [.s (.fa 23 (.t 7) 0), .s (.load 24 false 1 (.t 23)), .s (.call (some 25) 164 [(.t 24)]), .s (.mv 8 (.t 25))]) (.seq (.seq (.reg [.s (.mv 26 (.t 8)), .s (.bin 27 .and (.t 26) (.k (.v (.c (.int .i64 1))))), .s (.bin 28 .neq (.t 27) (.k (.v (.c (.int .i64 0)))))]) (.cond (.t 28) (.reg [.s (.mv 29 (.t 3)), .s (.fa 30 (.t 7) 1), .s (.store 1 (.t 30) (.t 29))]) (.skip))) (.seq (.seq (.reg [.s (.mv 31 (.t 8)), .s (.bin 32 .and (.t 31) (.k (.v (.c (.int .i64 2))))), .s (.bin 33 .neq (.t 32) (.k (.v (.c (.int .i64 0)))))]) (.cond (.t 33) (.reg [.s (.mv 34 (.t 4)), .s (.fa 35 (.t 7) 2), .s (.store 1 (.t 35) (.t 34))]) (.skip))) (.seq (.seq (.reg [.s (.mv 36 (.t 8)), .s (.bin 37 .and (.t 36) (.k (.v (.c (.int .i64 4))))), .s (.bin 38 .neq (.t 37) (.k (.v (.c (.int .i64 0)))))]) (.cond (.t 38) (.reg [.s (.mv 39 (.t 5)), .s (.fa 40 (.t 7) 3), .s (.store 1 (.t 40) (.t 39))]) (.skip))) (.seq (.seq (.reg [.s (.mv 41 (.t 8)), .s (.bin 42 .and (.t 41) (.k (.v (.c (.int .i64 8))))), .s (.bin 43 .neq (.t 42) (.k (.v (.c (.int .i64 0)))))]) (.cond (.t 43) (.reg [.s (.mv 44 (.t 6)), .s (.fa 45 (.t 7) 4), .s (.store 1 (.t 45) (.t 44))]) (.skip))) (.seq (.reg [.s (.load 46 true 5 (.t 7)), .s (.store 5 (.t 2) (.t 46))]) (.ret)))))))))⟩
def c_spec_l6DrawIns : Fun := ⟨200, [true], fun ts K => as1 ts fun t0 => arQ pCurT t0 fun c => chk (CurOk c) (∀ (x : Inst) (d : Cur), (CurOk d) → K (tG (x.tc [])) ([curOut d]))⟩
theorem run_spec_l6DrawIns (c : Cur) (hpre : CurOk c) {K : Tree → List Tree → Prop} (hK : ∀ (x : Inst) (d : Cur), (CurOk d) → K (tG (x.tc [])) ([curOut d])) : runK [c_spec_l1PickInt, c_spec_l1Below, c_spec_l6Has] (0) [true] pf_spec_l6DrawIns [.v (.ptr true 0 (c.tc []))] K := by
  conv => whnf
  repeat' (first | (refine sel_i (fun h => ?_) (fun h => ?_) <;> conv => whnf) | (refine chk_c ?_ ?_ <;> conv => whnf) | (refine And.intro ?_ rfl) | (refine And.intro ?_ ?_ <;> conv => whnf) | (intro x y z d hd; (try have g1 := And.left hd); (try have g2 := And.right hd); (try have g3 := And.left (And.right hd)); (try have g4 := And.right (And.right hd)); conv => whnf) | (intro x y d hd; (try have g1 := And.left hd); (try have g2 := And.right hd); (try have g3 := And.left (And.right hd)); (try have g4 := And.right (And.right hd)); conv => whnf) | (intro x d hd; (try have g1 := And.left hd); (try have g2 := And.right hd); (try have g3 := And.left (And.right hd)); (try have g4 := And.right (And.right hd)); conv => whnf) | (intro d hd; (try have g1 := And.left hd); (try have g2 := And.right hd); (try have g3 := And.left (And.right hd)); (try have g4 := And.right (And.right hd)); conv => whnf))
  all_goals first
    | (refine ⟨?_⟩; exact hd)
    | (refine ⟨?_⟩; exact hd.2)
    | (refine ⟨?_⟩; exact hpre)
    | (refine ⟨?_⟩; exact ⟨hd, by decide⟩)
    | (refine ⟨?_⟩; exact ⟨hd.2, by decide⟩)
    | (refine ⟨?_⟩; exact ⟨hd, by simp⟩)
    | (refine ⟨?_⟩; exact ⟨hd.2, by simp⟩)
    | (refine ⟨?_⟩; exact ⟨hpre, by simp⟩)
    | (refine ⟨?_⟩; decide)
    | (refine ⟨?_⟩; rfl)
    | ((try dsimp only); exact kInst (fun w hw => hK w _ hw) _ _ _ _ _  hd)
    | ((try dsimp only); exact kInst (fun w hw => hK w _ hw) _ _ _ _ _  hd.2)
    | trace_state
theorem ok_spec_l6DrawIns : FunOk Tryz.prog c_spec_l6DrawIns := funOkR (E := [c_spec_l1PickInt, c_spec_l1Below, c_spec_l6Has]) (envOk_cons ok_spec_l1PickInt (envOk_cons ok_spec_l1Below (envOk_cons ok_spec_l6Has (envOk_nil)))) mixd Tryz.func200 (pf := pf_spec_l6DrawIns) (by kernel_rfl) fun ts K h => by
  obtain ⟨t0, e0, h⟩ := as1_out h
  subst e0
  obtain ⟨c, e1, hq⟩ := arQ_out rd_cur h
  clear h
  subst e1
  have h := hq
  clear hq
  obtain ⟨hpre, h⟩ := chk_o h
  exact ⟨Nat.le_of_ble_eq_true (show Nat.ble 1 Tryz.f200.ntmps = true by kernel_rfl), _, run_spec_l6DrawIns c hpre h⟩

def pf_spec_l6Spoil : PF := ⟨[.c 4 true 5], .seq (.reg [.s (.box 3 (.t 1)), .s (.alloc 4 [.int .i64 0, .int .i64 0, .int .i64 0, .int .i64 0, .int .i64 0])]) (.seq (.seq (.reg [.s (.mv 5 (.t 0)), .s (.call (some 6) 99 [(.t 5), (.k (.v (.c (.int .i64 7))))])]) (.blk 0 (.seq (.reg [.s (.bin 8 .eql (.t 6) (.k (.v (.c (.int .i64 0))))), .s (.mv 7 (.t 8))]) (.cond (.t 7) (.reg [.s (.mv 9 (.t 0)), .s (.call (some 10) 99 [(.t 9), (.k (.v (.c (.int .i64 18))))]), .s (.bin 11 .sub (.t 10) (.k (.v (.c (.int .i64 1))))), .s (.fa 12 (.t 3) 0), .s (.store 1 (.t 12) (.t 11))]) (.seq (.reg [.s (.bin 14 .eql (.t 6) (.k (.v (.c (.int .i64 1))))), .s (.mv 13 (.t 14))]) (.cond (.t 13) (.reg [.s (.mv 15 (.t 0)), .s (.bs 16 (.int .i64) [(.k (.v (.c (.int .i64 (-1))))), (.k (.v (.c (.int .i64 7)))), (.k (.v (.c (.int .i64 8))))]), .s (.call (some 17) 93 [(.t 15), (.t 16)]), .s (.fa 18 (.t 3) 1), .s (.store 1 (.t 18) (.t 17))]) (.seq (.reg [.s (.bin 20 .eql (.t 6) (.k (.v (.c (.int .i64 2))))), .s (.mv 19 (.t 20))]) (.cond (.t 19) (.reg [.s (.mv 21 (.t 0)), .s (.bs 22 (.int .i64) [(.k (.v (.c (.int .i64 (-1))))), (.k (.v (.c (.int .i64 7)))), (.k (.v (.c (.int .i64 8))))]), .s (.call (some 23) 93 [(.t 21), (.t 22)]), .s (.fa 24 (.t 3) 2), .s (.store 1 (.t 24) (.t 23))]) (.seq (.reg [.s (.bin 26 .eql (.t 6) (.k (.v (.c (.int .i64 3))))), .s (.mv 25 (.t 26))]) (.cond (.t 25) (.reg [.s (.mv 27 (.t 0)), .s (.bs 28 (.int .i64) [(.k (.v (.c (.int .i64 (-128))))), (.k (.v (.c (.int .i64 (-129))))), (.k (.v (.c (.int .i64 127)))), (.k (.v (.c (.int .i64 128))))]), .s (.call (some 29) 93 [(.t 27), (.t 28)]), .s (.fa 30 (.t 3) 4), .s (.store 1 (.t 30) (.t 29))]) (.skip))))))))))) (.seq (.reg [.s (.load 31 true 5 (.t 3)), .s (.store 5 (.t 4) (.t 31))]) (.ret)))⟩
def c_spec_l6Spoil : Fun := ⟨161, [true, false], fun ts K => as2 ts fun t0 t1 => arQ pCurT t0 fun c => arG pInstT t1 fun x => chk (CurOk c) (∀ (y : Inst) (d : Cur), (CurOk d) → K (tG (y.tc [])) ([curOut d]))⟩
theorem run_spec_l6Spoil (c : Cur) (x : Inst) (hpre : CurOk c) {K : Tree → List Tree → Prop} (hK : ∀ (y : Inst) (d : Cur), (CurOk d) → K (tG (y.tc [])) ([curOut d])) : runK [c_spec_l1PickInt, c_spec_l1Below] (0) [true, false] pf_spec_l6Spoil [.v (.ptr true 0 (c.tc [])), tG (x.tc [])] K := by
  conv => whnf
  repeat' (first | (refine sel_i (fun h => ?_) (fun h => ?_) <;> conv => whnf) | (refine chk_c ?_ ?_ <;> conv => whnf) | (refine And.intro ?_ rfl) | (refine And.intro ?_ ?_ <;> conv => whnf) | (intro x y z d hd; (try have g1 := And.left hd); (try have g2 := And.right hd); (try have g3 := And.left (And.right hd)); (try have g4 := And.right (And.right hd)); conv => whnf) | (intro x y d hd; (try have g1 := And.left hd); (try have g2 := And.right hd); (try have g3 := And.left (And.right hd)); (try have g4 := And.right (And.right hd)); conv => whnf) | (intro x d hd; (try have g1 := And.left hd); (try have g2 := And.right hd); (try have g3 := And.left (And.right hd)); (try have g4 := And.right (And.right hd)); conv => whnf) | (intro d hd; (try have g1 := And.left hd); (try have g2 := And.right hd); (try have g3 := And.left (And.right hd)); (try have g4 := And.right (And.right hd)); conv => whnf))
  all_goals first
    | (refine ⟨?_⟩; exact hd)
    | (refine ⟨?_⟩; exact hd.2)
    | (refine ⟨?_⟩; exact hpre)
    | (refine ⟨?_⟩; exact ⟨hd, by decide⟩)
    | (refine ⟨?_⟩; exact ⟨hd.2, by decide⟩)
    | (refine ⟨?_⟩; exact ⟨hd, by simp⟩)
    | (refine ⟨?_⟩; exact ⟨hd.2, by simp⟩)
    | (refine ⟨?_⟩; exact ⟨hpre, by simp⟩)
    | (refine ⟨?_⟩; decide)
    | (refine ⟨?_⟩; rfl)
    | ((try dsimp only); exact kInst (fun w hw => hK w _ hw) _ _ _ _ _  hd)
    | ((try dsimp only); exact kInst (fun w hw => hK w _ hw) _ _ _ _ _  hd.2)
    | trace_state
theorem ok_spec_l6Spoil : FunOk Tryz.prog c_spec_l6Spoil := funOkR (E := [c_spec_l1PickInt, c_spec_l1Below]) (envOk_cons ok_spec_l1PickInt (envOk_cons ok_spec_l1Below (envOk_nil))) mixd Tryz.func161 (pf := pf_spec_l6Spoil) (by kernel_rfl) fun ts K h => by
  obtain ⟨t0, t1, e0, h⟩ := as2_out h
  subst e0
  obtain ⟨c, e1, hq⟩ := arQ_out rd_cur h
  clear h
  subst e1
  have h := hq
  clear hq
  obtain ⟨x, e1, hq⟩ := arG_out rd_inst h
  clear h
  subst e1
  have h := hq
  clear hq
  obtain ⟨hpre, h⟩ := chk_o h
  exact ⟨Nat.le_of_ble_eq_true (show Nat.ble 2 Tryz.f161.ntmps = true by kernel_rfl), _, run_spec_l6Spoil c x hpre h⟩

def lb_spec_l6DrawCode_0 : PC := .seq (.seq (.reg [.s (.mv 39 (.t 5)), .s (.mv 40 (.t 4)), .s (.bin 41 .lss (.t 39) (.t 40))]) (.cond (.t 41) (.skip) (.exit 1))) (.seq (.blk 2 (.reg [.s (.mv 44 (.t 3)), .s (.mv 45 (.t 0)), .s (.call (some 46) 200 [(.t 45)]), .s (.bs 47 .inst [(.t 46)]), .s (.app 48 .inst (.t 44) (.t 47)), .s (.mv 3 (.t 48))])) (.reg [.s (.mv 42 (.t 5)), .s (.bin 43 .add (.t 42) (.k (.v (.c (.int .i64 1))))), .s (.mv 5 (.t 43))]))
def pf_spec_l6DrawCode : PF := ⟨[.t 2], .seq (.reg [.s (.mv 2 (.k (.v (.c (.nils .inst)))))]) (.seq (.reg [.s (.bs 6 .inst []), .s (.mv 3 (.t 6))]) (.seq (.seq (.reg [.s (.mv 7 (.t 0)), .s (.call (some 8) 99 [(.t 7), (.k (.v (.c (.int .i64 4))))])]) (.blk 0 (.seq (.reg [.s (.bin 10 .eql (.t 8) (.k (.v (.c (.int .i64 0))))), .s (.mv 9 (.t 10))]) (.cond (.t 9) (.reg [.s (.mv 11 (.t 3)), .s (.build 12 [.int .i64 0, .int .i64 0, .int .i64 0, .int .i64 0, .int .i64 0] [(0, 1, (.k (.v (.c (.int .i64 1))))), (1, 1, (.k (.v (.c (.int .i64 1))))), (4, 1, (.k (.v (.c (.int .i64 3)))))]), .s (.build 13 [.int .i64 0, .int .i64 0, .int .i64 0, .int .i64 0, .int .i64 0] [(0, 1, (.k (.v (.c (.int .i64 5))))), (1, 1, (.k (.v (.c (.int .i64 2))))), (2, 1, (.k (.v (.c (.int .i64 0))))), (3, 1, (.k (.v (.c (.int .i64 1)))))]), .s (.build 14 [.int .i64 0, .int .i64 0, .int .i64 0, .int .i64 0, .int .i64 0] [(0, 1, (.k (.v (.c (.int .i64 11))))), (2, 1, (.k (.v (.c (.int .i64 0))))), (3, 1, (.k (.v (.c (.int .i64 2))))), (4, 1, (.k (.v (.c (.int .i64 1)))))]), .s (.build 15 [.int .i64 0, .int .i64 0, .int .i64 0, .int .i64 0, .int .i64 0] [(0, 1, (.k (.v (.c (.int .i64 10))))), (1, 1, (.k (.v (.c (.int .i64 3))))), (2, 1, (.k (.v (.c (.int .i64 0))))), (4, 1, (.k (.v (.c (.int .i64 1)))))]), .s (.bs 16 .inst [(.t 12), (.t 13), (.t 14), (.t 15)]), .s (.app 17 .inst (.t 11) (.t 16)), .s (.mv 3 (.t 17))]) (.seq (.reg [.s (.bin 19 .eql (.t 8) (.k (.v (.c (.int .i64 1))))), .s (.mv 18 (.t 19))]) (.cond (.t 18) (.reg [.s (.mv 20 (.t 3)), .s (.build 21 [.int .i64 0, .int .i64 0, .int .i64 0, .int .i64 0, .int .i64 0] [(0, 1, (.k (.v (.c (.int .i64 1))))), (1, 1, (.k (.v (.c (.int .i64 1))))), (4, 1, (.k (.v (.c (.int .i64 2)))))]), .s (.build 22 [.int .i64 0, .int .i64 0, .int .i64 0, .int .i64 0, .int .i64 0] [(0, 1, (.k (.v (.c (.int .i64 6))))), (1, 1, (.k (.v (.c (.int .i64 4))))), (2, 1, (.k (.v (.c (.int .i64 0))))), (3, 1, (.k (.v (.c (.int .i64 1)))))]), .s (.build 23 [.int .i64 0, .int .i64 0, .int .i64 0, .int .i64 0, .int .i64 0] [(0, 1, (.k (.v (.c (.int .i64 7))))), (1, 1, (.k (.v (.c (.int .i64 2))))), (2, 1, (.k (.v (.c (.int .i64 0))))), (3, 1, (.k (.v (.c (.int .i64 4)))))]), .s (.build 24 [.int .i64 0, .int .i64 0, .int .i64 0, .int .i64 0, .int .i64 0] [(0, 1, (.k (.v (.c (.int .i64 8))))), (1, 1, (.k (.v (.c (.int .i64 3))))), (2, 1, (.k (.v (.c (.int .i64 2))))), (3, 1, (.k (.v (.c (.int .i64 4)))))]), .s (.bs 25 .inst [(.t 21), (.t 22), (.t 23), (.t 24)]), .s (.app 26 .inst (.t 20) (.t 25)), .s (.mv 3 (.t 26))]) (.seq (.reg [.s (.bin 28 .eql (.t 8) (.k (.v (.c (.int .i64 2))))), .s (.mv 27 (.t 28))]) (.cond (.t 27) (.reg [.s (.mv 29 (.t 3)), .s (.build 30 [.int .i64 0, .int .i64 0, .int .i64 0, .int .i64 0, .int .i64 0] [(0, 1, (.k (.v (.c (.int .i64 1))))), (1, 1, (.k (.v (.c (.int .i64 1))))), (4, 1, (.k (.v (.c (.int .i64 5)))))]), .s (.build 31 [.int .i64 0, .int .i64 0, .int .i64 0, .int .i64 0, .int .i64 0] [(0, 1, (.k (.v (.c (.int .i64 1))))), (1, 1, (.k (.v (.c (.int .i64 2))))), (4, 1, (.k (.v (.c (.int .i64 (-1))))))]), .s (.build 32 [.int .i64 0, .int .i64 0, .int .i64 0, .int .i64 0, .int .i64 0] [(0, 1, (.k (.v (.c (.int .i64 2))))), (1, 1, (.k (.v (.c (.int .i64 1))))), (2, 1, (.k (.v (.c (.int .i64 1))))), (3, 1, (.k (.v (.c (.int .i64 2)))))]), .s (.build 33 [.int .i64 0, .int .i64 0, .int .i64 0, .int .i64 0, .int .i64 0] [(0, 1, (.k (.v (.c (.int .i64 13))))), (2, 1, (.k (.v (.c (.int .i64 1))))), (4, 1, (.k (.v (.c (.int .i64 2)))))]), .s (.build 34 [.int .i64 0, .int .i64 0, .int .i64 0, .int .i64 0, .int .i64 0] [(0, 1, (.k (.v (.c (.int .i64 13))))), (2, 1, (.k (.v (.c (.int .i64 5))))), (4, 1, (.k (.v (.c (.int .i64 (-2))))))]), .s (.bs 35 .inst [(.t 30), (.t 31), (.t 32), (.t 33), (.t 34)]), .s (.app 36 .inst (.t 29) (.t 35)), .s (.mv 3 (.t 36))]) (.skip))))))))) (.seq (.reg [.s (.mv 37 (.t 0)), .s (.call (some 38) 99 [(.t 37), (.k (.v (.c (.int .i64 14))))]), .s (.mv 4 (.t 38))]) (.seq (.seq (.reg [.s (.mv 5 (.k (.v (.c (.int .i64 0)))))]) (.blk 1 (.loop [0, 3, 4, 5] lb_spec_l6DrawCode_0))) (.seq (.reg [.s (.mv 49 (.t 3)), .s (.build 50 [.int .i64 0, .int .i64 0, .int .i64 0, .int .i64 0, .int .i64 0] [(0, 1, (.k (.v (.c (.int .i64 15)))))]), .s (.bs 51 .inst [(.t 50)]), .s (.app 52 .inst (.t 49) (.t 51)), .s (.mv 2 (.t 52))]) (.ret))))))⟩
def c_spec_l6DrawCode : Fun := ⟨138, [true], fun ts K => as1 ts fun t0 => arQ pCurT t0 fun c => chk (CurOk c) (∀ (l : List Inst) (d : Cur), (1 ≤ l.length ∧ l.length ≤ 20 ∧ CurOk d) → K (tL true .inst l) ([curOut d]))⟩
theorem run_spec_l6DrawCode (c : Cur) (hpre : CurOk c) {K : Tree → List Tree → Prop} (hK : ∀ (l : List Inst) (d : Cur), (1 ≤ l.length ∧ l.length ≤ 20 ∧ CurOk d) → K (tL true .inst l) ([curOut d])) : runK [c_spec_l1Below, c_spec_l6DrawIns] (20) [true] pf_spec_l6DrawCode [.v (.ptr true 0 (c.tc []))] K := by
  conv => whnf
  repeat' (first | (refine sel_i (fun h => ?_) (fun h => ?_) <;> conv => whnf) | (refine chk_c ?_ ?_ <;> conv => whnf) | (refine And.intro ?_ rfl) | (refine And.intro ?_ ?_ <;> conv => whnf) | (intro x y z d hd; (try have g1 := And.left hd); (try have g2 := And.right hd); (try have g3 := And.left (And.right hd)); (try have g4 := And.right (And.right hd)); conv => whnf) | (intro x y d hd; (try have g1 := And.left hd); (try have g2 := And.right hd); (try have g3 := And.left (And.right hd)); (try have g4 := And.right (And.right hd)); conv => whnf) | (intro x d hd; (try have g1 := And.left hd); (try have g2 := And.right hd); (try have g3 := And.left (And.right hd)); (try have g4 := And.right (And.right hd)); conv => whnf) | (intro d hd; (try have g1 := And.left hd); (try have g2 := And.right hd); (try have g3 := And.left (And.right hd)); (try have g4 := And.right (And.right hd)); conv => whnf))
  all_goals first
    | (refine ⟨?_⟩; exact hd)
    | (refine ⟨?_⟩; exact hd.2)
    | (refine ⟨?_⟩; exact hpre)
    | (refine ⟨?_⟩; exact ⟨hd, by decide⟩)
    | (refine ⟨?_⟩; exact ⟨hd.2, by decide⟩)
    | (refine ⟨?_⟩; exact ⟨hd, by simp⟩)
    | (refine ⟨?_⟩; exact ⟨hd.2, by simp⟩)
    | (refine ⟨?_⟩; exact ⟨hpre, by simp⟩)
    | (refine ⟨?_⟩; decide)
    | (refine ⟨?_⟩; rfl)
    | skip
  all_goals (
    have hx := hd.1
    refine loop (α := Nat × Cur × List Inst) (fun q => ⟨[(0, .v (.c (.ptr 0 0))), (3, .v (.c (.sl true .inst 2))), (4, .v (.c (.int .i64 x))), (5, .v (.c (.int .i64 (q.1 : Int))))],
        [(2, some (.flat true .inst none q.2.2)), (1, some (.flat false (.int .u8) none q.2.1.b)), (0, some (.box true [.sl false (.int .u8) 1, .int .i64 q.2.1.i, .int .i64 q.2.1.h]))], nums.tail.tail.tail, [.v (.c (.ptr 0 0))], false, []⟩)
      (fun q => (q.1 : Int) ≤ x ∧ CurOk q.2.1 ∧ q.2.2.length ≤ 5 + q.1) (fun q => 14 - q.1) (fun q R hI hR => ?_) (0, d, _) _ ⟨by simp; omega, hd.2, by simp⟩ (by simp)
    obtain ⟨i, e, l⟩ := q
    obtain ⟨hi, he, hl⟩ := hI
    dsimp only at hi he hl
    dsimp only
    conv => whnf
    repeat' (first | (refine sel_i (fun h => ?_) (fun h => ?_) <;> conv => whnf) | (refine chk_c ?_ ?_ <;> conv => whnf) | (refine And.intro ?_ rfl) | (refine And.intro ?_ ?_ <;> conv => whnf) | (intro x y z d hd; (try have g1 := And.left hd); (try have g2 := And.right hd); (try have g3 := And.left (And.right hd)); (try have g4 := And.right (And.right hd)); conv => whnf) | (intro x y d hd; (try have g1 := And.left hd); (try have g2 := And.right hd); (try have g3 := And.left (And.right hd)); (try have g4 := And.right (And.right hd)); conv => whnf) | (intro x d hd; (try have g1 := And.left hd); (try have g2 := And.right hd); (try have g3 := And.left (And.right hd)); (try have g4 := And.right (And.right hd)); conv => whnf) | (intro d hd; (try have g1 := And.left hd); (try have g2 := And.right hd); (try have g3 := And.left (And.right hd)); (try have g4 := And.right (And.right hd)); conv => whnf))
    all_goals first
      | (refine ⟨?_⟩; exact he)
      | (refine ⟨?_⟩; simp; omega)
      | (rw [wrap_id (n := (i : Int) + 1) (by omega) (by omega)]; exact hR (i + 1, _, _) ⟨by simp at h ⊢; omega, by exact hd, by simp; omega⟩ (by simp at h ⊢; omega))
      | exact hK _ ⟨_, _, _⟩ ⟨by simp, by simp; omega, he⟩
      | trace_state)
theorem ok_spec_l6DrawCode : FunOk Tryz.prog c_spec_l6DrawCode := funOkR (E := [c_spec_l1Below, c_spec_l6DrawIns]) (envOk_cons ok_spec_l1Below (envOk_cons ok_spec_l6DrawIns (envOk_nil))) mixd Tryz.func138 (pf := pf_spec_l6DrawCode) (by kernel_rfl) fun ts K h => by
  obtain ⟨t0, e0, h⟩ := as1_out h
  subst e0
  obtain ⟨c, e1, hq⟩ := arQ_out rd_cur h
  clear h
  subst e1
  have h := hq
  clear hq
  obtain ⟨hpre, h⟩ := chk_o h
  exact ⟨Nat.le_of_ble_eq_true (show Nat.ble 1 Tryz.f138.ntmps = true by kernel_rfl), _, run_spec_l6DrawCode c hpre h⟩

theorem kMem {K : Tree → List Tree → Prop} {o : List Tree} {P : Mem → Prop} (hK : ∀ w : Mem, P w → K (tG (w.tc true [])) o) (a : List Word) (b : List Bool) (h : P ⟨a, b⟩) : K (.v (.g [.ow .word a, .ow .bool b])) o := hK ⟨a, b⟩ h
def cuC (d : Cur) (k : Nat) : List Cell := [.sl false (.int .u8) k, .int .i64 d.i, .int .i64 d.h]
theorem memoryOk_setW {m : Mem} (h : memoryOk m = true) {i : Nat} {w : Word} (hw : wordOk w = true) : memoryOk ⟨m.words.set i w, m.gone⟩ = true := by
  obtain ⟨h1, h2, h3⟩ := memoryOk_iff.1 h
  refine memoryOk_iff.2 ⟨by simp [h1], h2, fun v hv => ?_⟩
  rcases mem_set hv with q | q
  · exact h3 v q
  · rw [q]; exact hw
theorem memoryOk_setG {m : Mem} (h : memoryOk m = true) {i : Nat} {b : Bool} : memoryOk ⟨m.words, m.gone.set i b⟩ = true := by
  obtain ⟨h1, h2, h3⟩ := memoryOk_iff.1 h
  exact memoryOk_iff.2 ⟨h1, by simp [h2], h3⟩
theorem memNew_ok : memoryOk memNew = true := by decide +kernel
theorem stateNew_ok : stateOk stateNew = true := by decide +kernel
theorem lMem_of {m : Mem} (h : memoryOk m = true) : LMem m 24 := by
  obtain ⟨h1, h2, h3⟩ := memoryOk_iff.1 h
  exact ⟨by omega, by omega⟩

def lb_spec_l8DrawRight_0 : PC := .seq (.seq (.reg [.s (.mv 7 (.t 4)), .s (.mv 8 (.t 0)), .s (.call (some 9) 99 [(.t 8), (.k (.v (.c (.int .i64 12))))]), .s (.bin 10 .lss (.t 7) (.t 9))]) (.cond (.t 10) (.skip) (.exit 0))) (.seq (.blk 1 (.rgd [0] [.s (.fa 13 (.t 3) 0), .s (.load 14 false 1 (.t 13)), .s (.mv 15 (.t 0)), .s (.call (some 16) 99 [(.t 15), (.k (.v (.c (.int .i64 24))))]), .s (.mv 17 (.t 0)), .s (.call (some 18) 67 [(.t 17)]), .s (.ia 19 .word (.t 14) (.t 16)), .s (.store 6 (.t 19) (.t 18))] (.tk 0 (.tk 1 (.tk 2 (.tk 4 (.one 3 false (.one 5 false (.tk 6 (.one 7 true (.done none))))))))))) (.reg [.s (.mv 11 (.t 4)), .s (.bin 12 .add (.t 11) (.k (.v (.c (.int .i64 1))))), .s (.mv 4 (.t 12))]))
def lb_spec_l8DrawRight_1 : PC := .seq (.seq (.reg [.s (.mv 20 (.t 5)), .s (.mv 21 (.t 0)), .s (.call (some 22) 99 [(.t 21), (.k (.v (.c (.int .i64 4))))]), .s (.bin 23 .lss (.t 20) (.t 22))]) (.cond (.t 23) (.skip) (.exit 2))) (.seq (.blk 3 (.rgd [0] [.s (.fa 26 (.t 3) 1), .s (.load 27 false 1 (.t 26)), .s (.mv 28 (.t 0)), .s (.call (some 29) 99 [(.t 28), (.k (.v (.c (.int .i64 24))))]), .s (.ia 30 .bool (.t 27) (.t 29)), .s (.store 1 (.t 30) (.k (.v (.c .tt))))] (.tk 0 (.tk 1 (.tk 2 (.one 3 false (.tk 4 (.one 5 true (.done none))))))))) (.reg [.s (.mv 24 (.t 5)), .s (.bin 25 .add (.t 24) (.k (.v (.c (.int .i64 1))))), .s (.mv 5 (.t 25))]))
def pf_spec_l8DrawRight : PF := ⟨[.c 2 true 2], .seq (.reg [.s (.alloc 2 [.nils .word, .nils .bool])]) (.seq (.reg [.s (.call (some 6) 166 []), .s (.alloc 3 [.nils .word, .nils .bool]), .s (.store 2 (.t 3) (.t 6))]) (.seq (.seq (.reg [.s (.mv 4 (.k (.v (.c (.int .i64 0)))))]) (.blk 0 (.loop [0, 2, 3, 4] lb_spec_l8DrawRight_0))) (.seq (.seq (.reg [.s (.mv 5 (.k (.v (.c (.int .i64 0)))))]) (.blk 2 (.loop [0, 2, 3, 5] lb_spec_l8DrawRight_1))) (.seq (.reg [.s (.load 31 true 2 (.t 3)), .s (.store 2 (.t 2) (.t 31))]) (.ret)))))⟩
def c_spec_l8DrawRight : Fun := ⟨140, [true], fun ts K => as1 ts fun t0 => arQ pCurT t0 fun c => chk (CurOk c) (∀ (m : Mem) (d : Cur), (memoryOk m = true ∧ CurOk d) → K (tG (m.tc true [])) ([curOut d]))⟩
theorem run_spec_l8DrawRight (c : Cur) (hpre : CurOk c) {K : Tree → List Tree → Prop} (hK : ∀ (m : Mem) (d : Cur), (memoryOk m = true ∧ CurOk d) → K (tG (m.tc true [])) ([curOut d])) : runK [c_spec_l3DrawRight, c_spec_l1Below, c_spec_MemoryNew] (20) [true] pf_spec_l8DrawRight [.v (.ptr true 0 (c.tc []))] K := by
  conv => whnf
  refine loop (α := Nat × Cur × Mem) (fun q => ⟨[(0, .v (.c (.ptr 0 0))), (2, .v (.c (.ptr 2 0))), (3, .v (.c (.ptr 3 0))), (4, .v (.c (.int .i64 (q.1 : Int))))],
        [(5, some (.flat true .bool none q.2.2.gone)), (4, some (.flat true .word none q.2.2.words)), (3, some (.box true [.sl false .word 4, .sl false .bool 5])), (2, some (.box true [.nils .word, .nils .bool])), (1, some (.flat false (.int .u8) none q.2.1.b)), (0, some (.box true (cuC q.2.1 1)))], nums.tail.tail.tail.tail.tail.tail, [.v (.c (.ptr 0 0))], false, []⟩)
    (fun q => q.1 ≤ 12 ∧ CurOk q.2.1 ∧ memoryOk q.2.2 = true) (fun q => 12 - q.1) (fun q R hI hR => ?_) (0, c, memNew) _ ⟨by simp, hpre, memNew_ok⟩ (by simp)
  obtain ⟨i, e, m⟩ := q
  obtain ⟨hi, he, hm⟩ := hI
  dsimp only at hi he hm
  dsimp only
  have hl := memoryOk_iff.1 hm
  conv => whnf
  repeat' (first | (refine sel_i (fun h => ?_) (fun h => ?_) <;> conv => whnf) | (refine chk_c ?_ ?_ <;> conv => whnf) | (refine And.intro ?_ rfl) | (refine And.intro ?_ ?_ <;> conv => whnf) | (intro x y z d hd; (try have g1 := And.left hd); (try have g2 := And.right hd); (try have g3 := And.left (And.right hd)); (try have g4 := And.right (And.right hd)); conv => whnf) | (intro x y d hd; (try have g1 := And.left hd); (try have g2 := And.right hd); (try have g3 := And.left (And.right hd)); (try have g4 := And.right (And.right hd)); conv => whnf) | (intro x d hd; (try have g1 := And.left hd); (try have g2 := And.right hd); (try have g3 := And.left (And.right hd)); (try have g4 := And.right (And.right hd)); conv => whnf) | (intro d hd; (try have g1 := And.left hd); (try have g2 := And.right hd); (try have g3 := And.left (And.right hd)); (try have g4 := And.right (And.right hd)); conv => whnf))
  all_goals first
    | (refine ⟨?_⟩; exact he)
    | (refine ⟨?_⟩; exact hd.2)
    | (refine ⟨?_⟩; simp at *; omega)
    | (rw [wrap_id (n := (i : Int) + 1) (by omega) (by omega)]; exact hR (i + 1, _, ⟨_, _⟩) ⟨by simp at h ⊢; omega, by exact hd.2, memoryOk_setW hm hd.1⟩ (by simp at h ⊢; omega))
    | skip
  clear hR he hl hi
  refine loop (α := Nat × Cur × Mem) (fun q => ⟨[(0, .v (.c (.ptr 0 0))), (2, .v (.c (.ptr 2 0))), (3, .v (.c (.ptr 3 0))), (5, .v (.c (.int .i64 (q.1 : Int))))],
        [(5, some (.flat true .bool none q.2.2.gone)), (4, some (.flat true .word none q.2.2.words)), (3, some (.box true [.sl false .word 4, .sl false .bool 5])), (2, some (.box true [.nils .word, .nils .bool])), (1, some (.flat false (.int .u8) none q.2.1.b)), (0, some (.box true (cuC q.2.1 1)))], nums.tail.tail.tail.tail.tail.tail, [.v (.c (.ptr 0 0))], false, []⟩)
    (fun q => q.1 ≤ 12 ∧ CurOk q.2.1 ∧ memoryOk q.2.2 = true) (fun q => 12 - q.1) (fun q R hI hR => ?_) (0, d, m) _ ⟨by simp, hd.2, hm⟩ (by simp)
  obtain ⟨i, e, m⟩ := q
  obtain ⟨hi, he, hm⟩ := hI
  dsimp only at hi he hm
  dsimp only
  have hl := memoryOk_iff.1 hm
  conv => whnf
  repeat' (first | (refine sel_i (fun h => ?_) (fun h => ?_) <;> conv => whnf) | (refine chk_c ?_ ?_ <;> conv => whnf) | (refine And.intro ?_ rfl) | (refine And.intro ?_ ?_ <;> conv => whnf) | (intro x y z d hd; (try have g1 := And.left hd); (try have g2 := And.right hd); (try have g3 := And.left (And.right hd)); (try have g4 := And.right (And.right hd)); conv => whnf) | (intro x y d hd; (try have g1 := And.left hd); (try have g2 := And.right hd); (try have g3 := And.left (And.right hd)); (try have g4 := And.right (And.right hd)); conv => whnf) | (intro x d hd; (try have g1 := And.left hd); (try have g2 := And.right hd); (try have g3 := And.left (And.right hd)); (try have g4 := And.right (And.right hd)); conv => whnf) | (intro d hd; (try have g1 := And.left hd); (try have g2 := And.right hd); (try have g3 := And.left (And.right hd)); (try have g4 := And.right (And.right hd)); conv => whnf))
  all_goals first
    | (refine ⟨?_⟩; exact he)
    | (refine ⟨?_⟩; exact hd.2)
    | (refine ⟨?_⟩; simp at *; omega)
    | (rw [wrap_id (n := (i : Int) + 1) (by omega) (by omega)]; have h := of_decide_eq_true h; exact hR (i + 1, d, ⟨m.words, m.gone.set x.toNat true⟩) ⟨by dsimp only; omega, hd.2, memoryOk_setG hm⟩ (by dsimp only; omega))
    | (exact kMem (fun m hm => hK m _ hm) _ _ ⟨hm, hd.2⟩)
    | trace_state
theorem ok_spec_l8DrawRight : FunOk Tryz.prog c_spec_l8DrawRight := funOkR (E := [c_spec_l3DrawRight, c_spec_l1Below, c_spec_MemoryNew]) (envOk_cons ok_spec_l3DrawRight (envOk_cons ok_spec_l1Below (envOk_cons ok_spec_MemoryNew (envOk_nil)))) mixd Tryz.func140 (pf := pf_spec_l8DrawRight) (by kernel_rfl) fun ts K h => by
  obtain ⟨t0, e0, h⟩ := as1_out h
  subst e0
  obtain ⟨c, e1, hq⟩ := arQ_out rd_cur h
  clear h
  subst e1
  have h := hq
  clear hq
  obtain ⟨hpre, h⟩ := chk_o h
  exact ⟨Nat.le_of_ble_eq_true (show Nat.ble 1 Tryz.f140.ntmps = true by kernel_rfl), _, run_spec_l8DrawRight c hpre h⟩

def pf_spec_l8Draw : PF := ⟨[.c 2 true 2], .seq (.reg [.s (.alloc 2 [.nils .word, .nils .bool])]) (.seq (.reg [.s (.mv 4 (.t 0)), .s (.call (some 5) 140 [(.t 4)]), .s (.alloc 3 [.nils .word, .nils .bool]), .s (.store 2 (.t 3) (.t 5))]) (.seq (.seq (.reg [.s (.mv 6 (.t 0)), .s (.call (some 7) 99 [(.t 6), (.k (.v (.c (.int .i64 15))))])]) (.blk 0 (.seq (.reg [.s (.bin 9 .eql (.t 7) (.k (.v (.c (.int .i64 0))))), .s (.mv 8 (.t 9))]) (.cond (.t 8) (.reg [.s (.fa 10 (.t 3) 0), .s (.load 11 false 1 (.t 10)), .s (.slc 12 .word (.t 11) (some (.k (.v (.c (.int .i64 1))))) none), .s (.fa 13 (.t 3) 0), .s (.store 1 (.t 13) (.t 12))]) (.seq (.reg [.s (.bin 15 .eql (.t 7) (.k (.v (.c (.int .i64 1))))), .s (.mv 14 (.t 15))]) (.cond (.t 14) (.rgd [0] [.s (.fa 16 (.t 3) 0), .s (.load 17 false 1 (.t 16)), .s (.mv 18 (.t 0)), .s (.call (some 19) 99 [(.t 18), (.k (.v (.c (.int .i64 24))))]), .s (.mv 20 (.t 0)), .s (.call (some 21) 159 [(.t 20)]), .s (.ia 22 .word (.t 17) (.t 19)), .s (.store 6 (.t 22) (.t 21))] (.tk 0 (.tk 1 (.tk 2 (.tk 4 (.one 3 false (.one 5 false (.tk 6 (.one 7 true (.done none)))))))))) (.seq (.reg [.s (.bin 24 .eql (.t 7) (.k (.v (.c (.int .i64 2))))), .s (.mv 23 (.t 24))]) (.cond (.t 23) (.reg [.s (.fa 25 (.t 3) 1), .s (.store 1 (.t 25) (.k (.v (.c (.nils .bool)))))]) (.skip))))))))) (.seq (.reg [.s (.load 26 true 2 (.t 3)), .s (.store 2 (.t 2) (.t 26))]) (.ret))))⟩
def c_spec_l8Draw : Fun := ⟨160, [true], fun ts K => as1 ts fun t0 => arQ pCurT t0 fun c => chk (CurOk c) (∀ (m : Mem) (d : Cur), (LMem m 24 ∧ CurOk d) → K (tG (m.tc true [])) ([curOut d]))⟩
theorem run_spec_l8Draw (c : Cur) (hpre : CurOk c) {K : Tree → List Tree → Prop} (hK : ∀ (m : Mem) (d : Cur), (LMem m 24 ∧ CurOk d) → K (tG (m.tc true [])) ([curOut d])) : runK [c_spec_l1Below, c_spec_l8DrawRight, c_spec_l3Draw] (0) [true] pf_spec_l8Draw [.v (.ptr true 0 (c.tc []))] K := by
  conv => whnf
  repeat' (first | (refine sel_i (fun h => ?_) (fun h => ?_) <;> conv => whnf) | (refine chk_c ?_ ?_ <;> conv => whnf) | (refine And.intro ?_ rfl) | (refine And.intro ?_ ?_ <;> conv => whnf) | (intro x y z d hd; (try have g1 := And.left hd); (try have g2 := And.right hd); (try have g3 := And.left (And.right hd)); (try have g4 := And.right (And.right hd)); conv => whnf) | (intro x y d hd; (try have g1 := And.left hd); (try have g2 := And.right hd); (try have g3 := And.left (And.right hd)); (try have g4 := And.right (And.right hd)); conv => whnf) | (intro x d hd; (try have g1 := And.left hd); (try have g2 := And.right hd); (try have g3 := And.left (And.right hd)); (try have g4 := And.right (And.right hd)); conv => whnf) | (intro d hd; (try have g1 := And.left hd); (try have g2 := And.right hd); (try have g3 := And.left (And.right hd)); (try have g4 := And.right (And.right hd)); conv => whnf))
  all_goals first
    | (refine ⟨?_⟩; exact hd)
    | (refine ⟨?_⟩; exact hd.2)
    | (refine ⟨?_⟩; exact hd.2.2)
    | (refine ⟨?_⟩; exact hpre)
    | (refine ⟨?_⟩; exact ⟨hd, by simp⟩)
    | (refine ⟨?_⟩; exact ⟨hd.2, by simp⟩)
    | (refine ⟨?_⟩; decide)
    | (refine ⟨?_⟩; rfl)
    | (refine ⟨?_⟩; have := memoryOk_iff.1 (by assumption); simp at *; omega)
    | (exact kMem (fun m hm => hK m _ hm) _ _ ⟨lMem_of (by assumption), hd.2⟩)
    | (have hl := lMem_of (by assumption); exact kMem (fun m hm => hK m _ hm) _ _ ⟨⟨hl.1, Nat.zero_le _⟩, hd.2⟩)
    | (have hl := memoryOk_iff.1 (by assumption); exact kMem (fun m hm => hK m _ hm) _ _ ⟨⟨by simp [win]; omega, by dsimp only; omega⟩, hd.2⟩)
    | (have hl := memoryOk_iff.1 (by assumption); exact kMem (fun m hm => hK m _ hm) _ _ ⟨⟨by simp; omega, by dsimp only; omega⟩, hd⟩)
    | trace_state
theorem ok_spec_l8Draw : FunOk Tryz.prog c_spec_l8Draw := funOkR (E := [c_spec_l1Below, c_spec_l8DrawRight, c_spec_l3Draw]) (envOk_cons ok_spec_l1Below (envOk_cons ok_spec_l8DrawRight (envOk_cons ok_spec_l3Draw (envOk_nil)))) mixd Tryz.func160 (pf := pf_spec_l8Draw) (by kernel_rfl) fun ts K h => by
  obtain ⟨t0, e0, h⟩ := as1_out h
  subst e0
  obtain ⟨c, e1, hq⟩ := arQ_out rd_cur h
  clear h
  subst e1
  have h := hq
  clear hq
  obtain ⟨hpre, h⟩ := chk_o h
  exact ⟨Nat.le_of_ble_eq_true (show Nat.ble 1 Tryz.f160.ntmps = true by kernel_rfl), _, run_spec_l8Draw c hpre h⟩

theorem stateOk_setR {s : State} (h : stateOk s = true) {i : Nat} {w : Word} (hw : wordOk w = true) {m : Mem} (hm : memoryOk m = true) : stateOk ⟨s.regs.set i w, s.pc, m, s.trap⟩ = true := by
  obtain ⟨r1, r2, r3, r4, r5, r6⟩ := stateOk_iff.1 h
  refine stateOk_iff.2 ⟨by simp [r1], fun v hv => ?_, r3, hm, r5, r6⟩
  rcases mem_set hv with q | q
  · exact r2 v q
  · rw [q]; exact hw
theorem etaS {s : State} : (⟨s.regs, s.pc, s.mem, s.trap⟩ : State) = s := rfl
theorem snN : stateNew.regs.length = 8 := rfl

def lb_spec_l9DrawState_0 : PC := .seq (.seq (.reg [.s (.mv 27 (.t 7)), .s (.mv 28 (.t 6)), .s (.bin 29 .lss (.t 27) (.t 28))]) (.cond (.t 29) (.skip) (.exit 0))) (.seq (.blk 1 (.seq (.reg [.s (.mv 32 (.t 4)), .s (.load 33 true 10 (.t 5)), .s (.call (some 34) 85 [(.t 32), (.t 33)]), .s (.alloc 8 [.nils .word, .int .i64 0, .ff, .int .i64 0, .int .i64 0, .int .i64 0, .int .i64 0, .nils .word, .nils .bool, .int .i64 0]), .s (.store 10 (.t 8) (.t 34))]) (.seq (.reg [.s (.fa 35 (.t 8) 9), .s (.load 36 false 1 (.t 35)), .s (.bin 37 .eql (.t 36) (.k (.v (.c (.int .i64 0)))))]) (.cond (.t 37) (.reg [.s (.load 38 true 10 (.t 8)), .s (.store 10 (.t 5) (.t 38))]) (.skip))))) (.reg [.s (.mv 30 (.t 7)), .s (.bin 31 .add (.t 30) (.k (.v (.c (.int .i64 1))))), .s (.mv 7 (.t 31))]))
def pf_spec_l9DrawState : PF := ⟨[.t 2, .c 3 true 10], .seq (.reg [.s (.mv 2 (.k (.v (.c (.nils .inst))))), .s (.alloc 3 [.nils .word, .int .i64 0, .ff, .int .i64 0, .int .i64 0, .int .i64 0, .int .i64 0, .nils .word, .nils .bool, .int .i64 0])]) (.seq (.reg [.s (.mv 9 (.t 0)), .s (.call (some 10) 138 [(.t 9)]), .s (.mv 4 (.t 10))]) (.seq (.reg [.s (.call (some 11) 139 []), .s (.alloc 5 [.nils .word, .int .i64 0, .ff, .int .i64 0, .int .i64 0, .int .i64 0, .int .i64 0, .nils .word, .nils .bool, .int .i64 0]), .s (.store 10 (.t 5) (.t 11))]) (.seq (.seq (.reg [.s (.mv 12 (.t 0)), .s (.call (some 13) 66 [(.t 12), (.k (.v (.c (.int .i64 2))))])]) (.cond (.t 13) (.seq (.reg [.s (.mv 14 (.t 0)), .s (.call (some 15) 140 [(.t 14)]), .s (.fa 16 (.t 5) 7), .s (.store 2 (.t 16) (.t 15))]) (.rgd [0] [.s (.fa 17 (.t 5) 0), .s (.load 18 false 1 (.t 17)), .s (.mv 19 (.t 0)), .s (.call (some 20) 99 [(.t 19), (.k (.v (.c (.int .i64 4))))]), .s (.bin 21 .add (.k (.v (.c (.int .i64 1)))) (.t 20)), .s (.mv 22 (.t 0)), .s (.call (some 23) 67 [(.t 22)]), .s (.ia 24 .word (.t 18) (.t 21)), .s (.store 6 (.t 24) (.t 23))] (.tk 0 (.tk 1 (.tk 2 (.tk 5 (.one 3 false (.tk 4 (.one 6 false (.tk 7 (.one 8 true (.done none)))))))))))) (.skip))) (.seq (.reg [.s (.mv 25 (.t 0)), .s (.call (some 26) 99 [(.t 25), (.k (.v (.c (.int .i64 10))))]), .s (.mv 6 (.t 26))]) (.seq (.seq (.reg [.s (.mv 7 (.k (.v (.c (.int .i64 0)))))]) (.blk 0 (.loop [3, 4, 5, 6, 7] lb_spec_l9DrawState_0))) (.seq (.rgd [] [.s (.mv 39 (.t 4)), .s (.load 40 true 10 (.t 5)), .s (.mv 2 (.t 39)), .s (.store 10 (.t 3) (.t 40))] (.tk 0 (.tk 1 (.tk 2 (.one 3 true (.done none)))))) (.ret)))))))⟩
def c_spec_l9DrawState : Fun := ⟨65, [true], fun ts K => as1 ts fun t0 => arQ pCurT t0 fun c => chk (CurOk c) (∀ (l : List Inst) (s : State) (d : Cur), ((l.length ≤ 20 ∧ 1 ≤ l.length) ∧ stateOk s = true ∧ CurOk d) → K (.tup [.c (tl true .inst l), .g (s.tc true [])]) ([curOut d]))⟩
theorem run_spec_l9DrawState (c : Cur) (hpre : CurOk c) {K : Tree → List Tree → Prop} (hK : ∀ (l : List Inst) (s : State) (d : Cur), ((l.length ≤ 20 ∧ 1 ≤ l.length) ∧ stateOk s = true ∧ CurOk d) → K (.tup [.c (tl true .inst l), .g (s.tc true [])]) ([curOut d])) : runK [c_spec_l1Once, c_spec_l3DrawRight, c_spec_Step, c_spec_l1Below, c_spec_l6DrawCode, c_spec_StateNew, c_spec_l8DrawRight] (12) [true] pf_spec_l9DrawState [.v (.ptr true 0 (c.tc []))] K := by
  conv => whnf
  repeat' (first | (refine sel_i (fun h => ?_) (fun h => ?_) <;> conv => whnf) | (refine chk_c ?_ ?_ <;> conv => whnf) | (refine And.intro ?_ rfl) | (refine And.intro ?_ ?_ <;> conv => whnf) | (intro x y z d hd; (try have g1 := And.left hd); (try have g2 := And.right hd); (try have g3 := And.left (And.right hd)); (try have g4 := And.right (And.right hd)); conv => whnf) | (intro x y d hd; (try have g1 := And.left hd); (try have g2 := And.right hd); (try have g3 := And.left (And.right hd)); (try have g4 := And.right (And.right hd)); conv => whnf) | (intro x d hd; (try have g1 := And.left hd); (try have g2 := And.right hd); (try have g3 := And.left (And.right hd)); (try have g4 := And.right (And.right hd)); conv => whnf) | (intro d hd; (try have g1 := And.left hd); (try have g2 := And.right hd); (try have g3 := And.left (And.right hd)); (try have g4 := And.right (And.right hd)); conv => whnf))
  all_goals first
    | (refine ⟨?_⟩; exact hd)
    | (refine ⟨?_⟩; exact hd.2)
    | (refine ⟨?_⟩; exact hpre)
    | (refine ⟨?_⟩; decide)
    | (refine ⟨?_⟩; rfl)
    | (refine ⟨?_⟩; exact hd.2.2)
    | (refine ⟨?_⟩; rw [snN, wrap_id (by omega) (by omega)]; omega)
    | skip
  all_goals (
    have hx := hd.1
    refine loop (α := Nat × State) (fun q => ⟨[(3, .v (.c (.ptr 2 0))), (4, .v (.c (.sl false .inst 3))), (5, .v (.c (.ptr 4 0))), (6, .v (.c (.int .i64 x))), (7, .v (.c (.int .i64 (q.1 : Int))))],
        [(7, some (.flat true .bool none q.2.mem.gone)), (6, some (.flat true .word none q.2.mem.words)), (5, some (.flat true .word none q.2.regs)), (4, some (.box true (stC q.2 5 6 7 []))), (3, some (.flat true .inst none _)), (2, some (.box true zSC)), (1, some (.flat false (.int .u8) none d.b)), (0, some (.box true (cuC d 1)))], nums.tail.tail.tail.tail.tail.tail.tail.tail, [.v (.c (.ptr 0 0))], false, []⟩)
      (fun q => (q.1 : Int) ≤ x ∧ stateOk q.2 = true) (fun q => 10 - q.1) (fun q R hI hR => ?_) (0, ⟨_, _, ⟨_, _⟩, _⟩) _ ⟨by simp; omega, by first | exact stateNew_ok | exact stateOk_setR stateNew_ok (by assumption) (by assumption)⟩ (by simp)
    obtain ⟨i, v⟩ := q
    obtain ⟨hi, hv⟩ := hI
    dsimp only at hi hv
    dsimp only
    have hlen := (stateOk_len hv).l
    conv => whnf
    repeat' (first | (refine sel_i (fun h => ?_) (fun h => ?_) <;> conv => whnf) | (refine chk_c ?_ ?_ <;> conv => whnf) | (refine And.intro ?_ rfl) | (refine And.intro ?_ ?_ <;> conv => whnf) | (intro x y z d hd; (try have g1 := And.left hd); (try have g2 := And.right hd); (try have g3 := And.left (And.right hd)); (try have g4 := And.right (And.right hd)); conv => whnf) | (intro x y d hd; (try have g1 := And.left hd); (try have g2 := And.right hd); (try have g3 := And.left (And.right hd)); (try have g4 := And.right (And.right hd)); conv => whnf) | (intro x d hd; (try have g1 := And.left hd); (try have g2 := And.right hd); (try have g3 := And.left (And.right hd)); (try have g4 := And.right (And.right hd)); conv => whnf) | (intro d hd; (try have g1 := And.left hd); (try have g2 := And.right hd); (try have g3 := And.left (And.right hd)); (try have g4 := And.right (And.right hd)); conv => whnf))
    all_goals (try simp only [etaKey, etaWord, etaMemory, etaState, decide_eq_true_eq, decide_eq_false_iff_not, beq_iff_eq] at *)
    all_goals first
      | (refine ⟨?_⟩; exact ⟨by omega, hlen⟩)
      | (rw [wrap_id (n := (i : Int) + 1) (by omega) (by omega)]; exact hR (i + 1, stepS _ v) ⟨by dsimp only; omega, stepS_ok hv⟩ (by dsimp only; omega))
      | (rw [wrap_id (n := (i : Int) + 1) (by omega) (by omega)]; exact hR (i + 1, v) ⟨by dsimp only; omega, hv⟩ (by dsimp only; omega))
      | (exact hK _ v d ⟨⟨by omega, by omega⟩, hv, hd.2⟩)
      | trace_state)
theorem ok_spec_l9DrawState : FunOk Tryz.prog c_spec_l9DrawState := funOkR (E := [c_spec_l1Once, c_spec_l3DrawRight, c_spec_Step, c_spec_l1Below, c_spec_l6DrawCode, c_spec_StateNew, c_spec_l8DrawRight]) (envOk_cons ok_spec_l1Once (envOk_cons ok_spec_l3DrawRight (envOk_cons ok_spec_Step (envOk_cons ok_spec_l1Below (envOk_cons ok_spec_l6DrawCode (envOk_cons ok_spec_StateNew (envOk_cons ok_spec_l8DrawRight (envOk_nil)))))))) mixd Tryz.func65 (pf := pf_spec_l9DrawState) (by kernel_rfl) fun ts K h => by
  obtain ⟨t0, e0, h⟩ := as1_out h
  subst e0
  obtain ⟨c, e1, hq⟩ := arQ_out rd_cur h
  clear h
  subst e1
  have h := hq
  clear hq
  obtain ⟨hpre, h⟩ := chk_o h
  exact ⟨Nat.le_of_ble_eq_true (show Nat.ble 1 Tryz.f65.ntmps = true by kernel_rfl), _, run_spec_l9DrawState c hpre h⟩
end Go.Pi
