/- Contracts of functions, each out of its run by PI. No conditions. -/
import Derived.Test.YtojoiikibimomaaGreatC3
namespace Go.Pi
open Go.Proofs
set_option linter.unusedVariables false
set_option linter.unusedSimpArgs false
set_option maxRecDepth 100000
attribute [local irreducible] iterN
/-! words that are right, and what they are under -/
theorem wrap_bv (n : Int) : BitVec.ofInt IntKind.i64.bits (IntKind.i64.wrap n) = BitVec.ofInt IntKind.i64.bits n := by
  apply BitVec.eq_of_toNat_eq
  simp only [BitVec.toNat_ofInt, IntKind.wrap_i64]
  show (_ % (18446744073709551616 : Int)).toNat = (n % (18446744073709551616 : Int)).toNat
  omega
theorem andI_bv (a b : Int) : BitVec.ofInt IntKind.i64.bits (andI a b) = BitVec.ofInt IntKind.i64.bits a &&& BitVec.ofInt IntKind.i64.bits b := by
  unfold andI
  rw [wrap_bv, BitVec.ofInt_natCast, BitVec.ofNat_toNat, BitVec.setWidth_eq]
theorem andI_comm (a b : Int) : andI a b = andI b a := by unfold andI; rw [BitVec.and_comm]
theorem andI_assoc (a b c : Int) : andI (andI a b) c = andI a (andI b c) := by
  have h1 : andI (andI a b) c = IntKind.i64.wrap ((BitVec.ofInt IntKind.i64.bits a &&& BitVec.ofInt IntKind.i64.bits b) &&& BitVec.ofInt IntKind.i64.bits c).toNat := by rw [← andI_bv]; rfl
  have h2 : andI a (andI b c) = IntKind.i64.wrap (BitVec.ofInt IntKind.i64.bits a &&& (BitVec.ofInt IntKind.i64.bits b &&& BitVec.ofInt IntKind.i64.bits c)).toNat := by rw [← andI_bv]; rfl
  rw [h1, h2, BitVec.and_assoc]
theorem andI_zero (a : Int) : andI a 0 = 0 := by
  unfold andI
  rw [show BitVec.ofInt IntKind.i64.bits 0 = 0#_ from rfl, BitVec.and_zero]; rfl
theorem andI_nat {m n : Nat} (h : n < 9223372036854775808) : andI (m : Int) (n : Int) = ((m % 18446744073709551616 &&& n : Nat) : Int) := by
  unfold andI
  rw [BitVec.ofInt_natCast, BitVec.ofInt_natCast, BitVec.toNat_and, BitVec.toNat_ofNat, BitVec.toNat_ofNat]
  show IntKind.i64.wrap ((m % 18446744073709551616 &&& n % 18446744073709551616 : Nat) : Int) = _
  rw [Nat.mod_eq_of_lt (a := n) (by omega)]
  have : m % 18446744073709551616 &&& n ≤ n := Nat.and_le_right
  exact wrap_id (by omega) (by omega)
theorem andI_le (a : Int) {p : Int} (h : 0 ≤ p) (h2 : p < 9223372036854775808) : 0 ≤ andI a p ∧ andI a p ≤ p := by
  obtain ⟨n, rfl⟩ := Int.eq_ofNat_of_zero_le h
  unfold andI
  have h1 : (BitVec.ofInt IntKind.i64.bits a &&& BitVec.ofInt IntKind.i64.bits (n : Int)).toNat ≤ n := by
    rw [BitVec.toNat_and, BitVec.ofInt_natCast, BitVec.toNat_ofNat]
    refine Nat.le_trans Nat.and_le_right (Nat.mod_le _ _)
  rw [wrap_id (by omega) (by omega)]; omega
theorem andI_le' {p : Int} (a : Int) (h : 0 ≤ p) (h2 : p < 9223372036854775808) : 0 ≤ andI p a ∧ andI p a ≤ p := by rw [andI_comm]; exact andI_le a h h2
theorem andI_same (a b : Int) : andI a (andI a b) = andI a b := by
  rw [← andI_assoc]
  have h1 : andI (andI a a) b = IntKind.i64.wrap ((BitVec.ofInt IntKind.i64.bits a &&& BitVec.ofInt IntKind.i64.bits a) &&& BitVec.ofInt IntKind.i64.bits b).toNat := by rw [← andI_bv]; rfl
  rw [h1, BitVec.and_self]; rfl
theorem andI_self {a : Int} (h : 0 ≤ a) (h2 : a < 9223372036854775808) : andI a a = a := by
  obtain ⟨n, rfl⟩ := Int.eq_ofNat_of_zero_le h
  rw [andI_nat (by omega), Nat.mod_eq_of_lt (by omega), Nat.and_self]
theorem andI_bit {a b p : Int} (h : andI a b = b) (hp : ¬ andI b p = 0) : ¬ andI a p = 0 := fun h0 => hp (by
  rw [← h, andI_comm a b, andI_assoc, h0, andI_zero])

/-! ### bounds -/
theorem packGo_some {b t : Int} {p : Packed} : ∀ {n e0 : Nat}, packGo b t n e0 = some p → ∃ e : Nat, e0 ≤ e ∧ e < e0 + n ∧ p = ⟨e, packB b e, packL b t e⟩ ∧ packOk b t e = true
  | 0, e0, h => by cases h
  | n + 1, e0, h => by
    unfold packGo at h
    split at h
    · rename_i h1; cases h; exact ⟨e0, by omega, by omega, rfl, h1⟩
    · obtain ⟨e, h1, h2, h3, h4⟩ := packGo_some h; exact ⟨e, by omega, by omega, h3, h4⟩
theorem packGo_find {b t : Int} {e : Nat} (hp : packOk b t e = true) : ∀ {n e0 : Nat}, e0 ≤ e → e < e0 + n → ∃ f : Nat, e0 ≤ f ∧ f ≤ e ∧ packGo b t n e0 = some ⟨f, packB b f, packL b t f⟩ ∧ packOk b t f = true
  | 0, e0, h1, h2 => by omega
  | n + 1, e0, h1, h2 => by
    by_cases h : packOk b t e0 = true
    · exact ⟨e0, by omega, h1, packGo_t h, h⟩
    · have hne : e0 ≠ e := fun q => h (q ▸ hp)
      obtain ⟨f, g1, g2, g3, g4⟩ := packGo_find hp (n := n) (e0 := e0 + 1) (by omega) (by omega)
      exact ⟨f, by omega, g2, by rw [packGo_f (by simpa using h)]; exact g3, g4⟩
theorem packOk_n {b t : Int} {e : Nat} (h : packOk b t e = true) : packB b e ≤ 63 ∧ packL b t e ≤ 63 := by simpa [packOk] using h
theorem wide_e {b t : Int} (h : boundsOk b t = true) {e : Nat} (he : e ≤ 6) (hp : pack b t = some ⟨e, packB b e, packL b t e⟩) (ho : packOk b t e = true) :
    wide b t = (packB b e * 2 ^ e, min 4096 ((packB b e + packL b t e) * 2 ^ e)) := by
  obtain ⟨h0, h1, h2⟩ := bounds_n h
  obtain ⟨o1, o2⟩ := packOk_n ho
  have hu : unpackOk ⟨e, packB b e, packL b t e⟩ = true := by
    simp only [unpackOk, Bool.and_eq_true, inR_t]
    unfold packB packL at *
    rcases e_cases he with rfl | rfl | rfl | rfl | rfl | rfl | rfl <;> simp only [Int.reducePow, Int.pow_zero] at * <;> omega
  unfold wide
  rw [if_pos h, hp]
  simp only [Option.isSome_some, if_true, Option.getD_some]
  rw [unpack_yes hu]
  simp only [Int.toNat_natCast]
theorem wide_cases {b t : Int} (h : boundsOk b t = true) : wide b t = (0, 4096) ∨ ∃ e : Nat, e ≤ 6 ∧ packOk b t e = true ∧ wide b t = (packB b e * 2 ^ e, min 4096 ((packB b e + packL b t e) * 2 ^ e)) := by
  cases hp : pack b t with
  | none => left; unfold wide; rw [if_pos h, hp]; rfl
  | some p =>
    have hp2 := hp
    rw [pack_yes h] at hp2
    obtain ⟨e, h1, h2, rfl, h4⟩ := packGo_some hp2
    exact .inr ⟨e, by omega, h4, wide_e h (by omega) hp h4⟩
theorem wide_parts {e : Nat} (he : e ≤ 6) {lo hi B L : Int} (hB : 0 ≤ B ∧ B ≤ 63) (hL : 0 ≤ L ∧ L ≤ 63) (h1 : lo = B * 2 ^ e) (h2 : hi = min 4096 ((B + L) * 2 ^ e)) : boundsOk lo hi = true ∧ wide lo hi = (lo, hi) := by
  have hb : boundsOk lo hi = true := by
    simp only [boundsOk, Bool.and_eq_true, decide_eq_true_eq]
    rcases e_cases he with rfl | rfl | rfl | rfl | rfl | rfl | rfl <;> simp only [Int.reducePow, Int.pow_zero] at * <;> omega
  refine ⟨hb, ?_⟩
  have ho : packOk lo hi e = true := by
    simp only [packOk, Bool.and_eq_true, decide_eq_true_eq]
    unfold packB packL
    rcases e_cases he with rfl | rfl | rfl | rfl | rfl | rfl | rfl <;> simp only [Int.reducePow, Int.pow_zero] at * <;> omega
  obtain ⟨f, f1, f2, f3, f4⟩ := packGo_find ho (n := 7) (e0 := 0) (by omega) (by omega)
  rw [wide_e hb (e := f) (by omega) (by rw [pack_yes hb]; exact f3) f4]
  unfold packB packL
  rcases e_cases he with rfl | rfl | rfl | rfl | rfl | rfl | rfl <;> rcases e_cases (e := f) (by omega) with rfl | rfl | rfl | rfl | rfl | rfl | rfl <;>
    first
      | (exfalso; omega)
      | (simp only [Int.reducePow, Int.pow_zero, Prod.mk.injEq] at *; omega)
theorem wide_ok {b t : Int} (h : boundsOk b t = true) : 0 ≤ (wide b t).1 ∧ (wide b t).1 ≤ b ∧ t ≤ (wide b t).2 ∧ (wide b t).2 ≤ 4096 ∧ exact_ (wide b t).1 (wide b t).2 = true := by
  obtain ⟨h0, h1, h2⟩ := bounds_n h
  rcases wide_cases h with e | ⟨e, he, ho, hw⟩
  · rw [e]; exact ⟨by decide, by omega, by omega, by decide, by decide +kernel⟩
  · obtain ⟨o1, o2⟩ := packOk_n ho
    have hB : 0 ≤ packB b e ∧ packB b e ≤ 63 := ⟨by
      unfold packB
      rcases e_cases he with rfl | rfl | rfl | rfl | rfl | rfl | rfl <;> simp only [Int.reducePow, Int.pow_zero] <;> omega, o1⟩
    have hL : 0 ≤ packL b t e ∧ packL b t e ≤ 63 := ⟨by
      unfold packL
      rcases e_cases he with rfl | rfl | rfl | rfl | rfl | rfl | rfl <;> simp only [Int.reducePow, Int.pow_zero] <;> omega, o2⟩
    obtain ⟨g1, g2⟩ := wide_parts he hB hL rfl rfl
    rw [hw]
    refine ⟨?_, ?_, ?_, by dsimp only; omega, by simp only [exact_, g1, g2, decide_true, Bool.and_self]⟩
    all_goals
      dsimp only
      unfold packB packL at *
      rcases e_cases he with rfl | rfl | rfl | rfl | rfl | rfl | rfl <;> simp only [Int.reducePow, Int.pow_zero] at * <;> omega
/-! ### keys and words -/
theorem keyOk_n {k : Key} (h : keyOk k = true) : 0 ≤ k.base ∧ k.base ≤ k.top ∧ k.top ≤ 4096 ∧ 0 ≤ k.perms ∧ k.perms ≤ 63 ∧ 0 ≤ k.sealed ∧ k.sealed ≤ 7 := by
  simp only [keyOk, Bool.and_eq_true, exact_, inR_t] at h
  have := bounds_n h.1.1.1.1
  omega
theorem keyOk_mk {k : Key} (h : exact_ k.base k.top = true) (h1 : 0 ≤ k.perms ∧ k.perms ≤ 63) (h2 : 0 ≤ k.sealed ∧ k.sealed ≤ 7) : keyOk k = true := by
  simp only [keyOk, Bool.and_eq_true, inR_t]; exact ⟨⟨h, h1⟩, h2⟩
theorem keyOk_exact {k : Key} (h : keyOk k = true) : exact_ k.base k.top = true := by simp only [keyOk, Bool.and_eq_true] at h; exact h.1.1
theorem wordOk_is {w : Word} (h : wordOk w = true) (h2 : w.is = true) : keyOk w.key = true := by
  simp only [wordOk, h2, if_true, Bool.and_eq_true] at h; exact h.2
theorem wordOk_mk {n : Int} {k : Key} (h : 0 ≤ n ∧ n ≤ 65535) (h2 : keyOk k = true) : wordOk ⟨n, true, k⟩ = true := by
  simp only [wordOk, if_true, Bool.and_eq_true, inR_t]; exact ⟨h, h2⟩
theorem and65 (n : Int) : 0 ≤ andI n 65535 ∧ andI n 65535 ≤ 65535 := andI_le n (by decide) (by decide)
theorem plainW_ok (n : Int) : wordOk (plainW n) = true := by
  simp only [wordOk, plainW, Bool.and_eq_true, inR_t, Bool.false_eq_true, if_false, decide_true, and_true]
  exact and65 n
def coversK (a b : Key) : Bool := keyOk a && keyOk b && decide (a.base ≤ b.base) && decide (b.top ≤ a.top) && decide (andI a.perms b.perms = b.perms)
theorem coversK_iff {a b : Key} : coversK a b = true ↔ keyOk a = true ∧ keyOk b = true ∧ a.base ≤ b.base ∧ b.top ≤ a.top ∧ andI a.perms b.perms = b.perms := by
  simp only [coversK, Bool.and_eq_true, decide_eq_true_eq, and_assoc]
theorem coversK_refl {a : Key} (h : keyOk a = true) : coversK a a = true :=
  coversK_iff.2 ⟨h, h, Int.le_refl _, Int.le_refl _, andI_self (by have := keyOk_n h; omega) (by have := keyOk_n h; omega)⟩
theorem coversK_trans {a b c : Key} (h : coversK a b = true) (k : coversK b c = true) : coversK a c = true := by
  obtain ⟨h1, h2, h3, h4, h5⟩ := coversK_iff.1 h
  obtain ⟨k1, k2, k3, k4, k5⟩ := coversK_iff.1 k
  exact coversK_iff.2 ⟨h1, k2, by omega, by omega, by rw [← k5, ← andI_assoc, h5]⟩
def Und (C : List Word) (w : Word) : Prop := w.is = true → ∃ c ∈ C, c.is = true ∧ coversK c.key w.key = true
theorem und_bare (C : List Word) (n : Int) : Und C (plainW n) := fun h => by cases h
theorem und_zero (C : List Word) : Und C zW := fun h => by cases h
theorem und_of {C : List Word} {w v : Word} (h : Und C w) (hw : w.is = true) (hk : coversK w.key v.key = true) : Und C v := fun _ => by
  obtain ⟨c, h1, h2, h3⟩ := h hw
  exact ⟨c, h1, h2, coversK_trans h3 hk⟩
theorem openW_iff {w : Word} : openW w = true ↔ wordOk w = true ∧ w.is = true ∧ w.key.sealed = 0 := by
  simp only [openW, Bool.and_eq_true, beq_iff_eq, and_assoc]
theorem sealsB_n {y : Word} (h : sealsB y = true) : openW y = true ∧ ¬ andI y.key.perms 32 = 0 ∧ 1 ≤ y.n ∧ y.n ≤ 7 := by
  simp only [sealsB, Bool.and_eq_true, bne_iff_ne, inR_t] at h
  exact ⟨h.1.1.1.1, h.1.1.1.2, h.2.1, h.2.2⟩
def Fine (w v : Word) : Prop := wordOk v = true ∧ (v.is = true → w.is = true ∧ coversK w.key v.key = true)
theorem fine_bare (w : Word) (n : Int) : Fine w (plainW n) := ⟨plainW_ok n, fun h => by cases h⟩
theorem fine_self {w : Word} (h : wordOk w = true) : Fine w w := ⟨h, fun hi => ⟨hi, coversK_refl (wordOk_is h hi)⟩⟩
theorem Fine.und {C : List Word} {w v : Word} (h : Fine w v) (hu : Und C w) : Und C v := fun hi => by
  obtain ⟨h1, h2⟩ := h.2 hi
  exact und_of hu h1 h2 hi
theorem weakenW_fine (w : Word) (m : Int) : Fine w (weakenW w m) := by
  unfold weakenW
  split
  · rename_i h
    obtain ⟨h1, h2, h3⟩ := openW_iff.1 h
    have hk := wordOk_is h1 h2
    have hn := keyOk_n hk
    have hp := andI_le' (andI m 63) (p := w.key.perms) (by omega) (by omega)
    have hk' : keyOk { w.key with perms := andI w.key.perms (andI m 63) } = true := keyOk_mk (k := ⟨w.key.base, w.key.top, andI w.key.perms (andI m 63), w.key.sealed⟩) (keyOk_exact (k := w.key) hk) ⟨hp.1, by dsimp only; omega⟩ (by dsimp only; omega)
    refine ⟨?_, fun _ => ⟨h2, coversK_iff.2 ⟨hk, hk', Int.le_refl _, Int.le_refl _, andI_same _ _⟩⟩⟩
    have hw := wordOk_n h1
    simp only [wordOk, h2, if_true, Bool.and_eq_true, inR_t]
    exact ⟨hw, hk'⟩
  · exact fine_bare w _
theorem narrowW_fine (w : Word) (n : Int) : Fine w (narrowW w n) := by
  unfold narrowW
  split
  · rename_i h
    simp only [Bool.and_eq_true] at h
    obtain ⟨⟨h, _⟩, hb⟩ := h
    obtain ⟨h1, h2, h3⟩ := openW_iff.1 h
    have hk := wordOk_is h1 h2
    have hn := keyOk_n hk
    split
    · exact fine_bare w _
    · rename_i hr
      obtain ⟨w1, w2, w3, w4, w5⟩ := wide_ok hb
      have hk' : keyOk { w.key with base := (wide w.n (IntKind.i64.wrap (w.n + n))).1, top := (wide w.n (IntKind.i64.wrap (w.n + n))).2 } = true := keyOk_mk w5 (by dsimp only; omega) (by dsimp only; omega)
      refine ⟨?_, fun _ => ⟨h2, coversK_iff.2 ⟨hk, hk', by dsimp only; omega, by dsimp only; omega, andI_self (by omega) (by omega)⟩⟩⟩
      have hw := wordOk_n h1
      simp only [wordOk, h2, if_true, Bool.and_eq_true, inR_t]
      exact ⟨hw, hk'⟩
  · exact fine_bare w _
theorem pointW_fine (w : Word) (n : Int) : Fine w (pointW w n) := by
  unfold pointW
  split
  · rename_i h
    obtain ⟨h1, h2, h3⟩ := openW_iff.1 h
    exact ⟨wordOk_mk (and65 n) (wordOk_is h1 h2), fun _ => ⟨h2, coversK_refl (wordOk_is h1 h2)⟩⟩
  · exact fine_bare w _
theorem seal_fine {w : Word} (h1 : wordOk w = true) (h2 : w.is = true) {s : Int} (hs : 0 ≤ s ∧ s ≤ 7) : Fine w { w with key := { w.key with sealed := s } } := by
  have hk := wordOk_is h1 h2
  have hn := keyOk_n hk
  have hk' : keyOk { w.key with sealed := s } = true := keyOk_mk (k := ⟨w.key.base, w.key.top, w.key.perms, s⟩) (keyOk_exact (k := w.key) hk) (by dsimp only; omega) hs
  refine ⟨?_, fun _ => ⟨h2, coversK_iff.2 ⟨hk, hk', Int.le_refl _, Int.le_refl _, andI_self (by omega) (by omega)⟩⟩⟩
  have hw := wordOk_n h1
  simp only [wordOk, h2, if_true, Bool.and_eq_true, inR_t]
  exact ⟨hw, hk'⟩
theorem sealBy_fine (w y : Word) : Fine w (sealBy w y) := by
  unfold sealBy
  split
  · rename_i h
    simp only [Bool.and_eq_true] at h
    obtain ⟨h1, h2, h3⟩ := openW_iff.1 h.1
    exact seal_fine h1 h2 (by have := sealsB_n h.2; omega)
  · exact fine_bare w _
theorem openBy_fine (w y : Word) : Fine w (openBy w y) := by
  unfold openBy
  split
  · rename_i h
    simp only [Bool.and_eq_true] at h
    exact seal_fine h.1.1.1 h.1.1.2 (by decide)
  · exact fine_bare w _
theorem takenW_fine {y w : Word} (h : wordOk w = true) : Fine w (takenW y w) := by
  unfold takenW
  split
  · exact fine_bare w _
  · exact fine_self h
theorem filterW_fine {g : List Bool} {w : Word} (h : wordOk w = true) : Fine w (filterW g w) := by
  unfold filterW
  split
  · exact fine_bare w _
  · exact fine_self h
theorem zW_ok : wordOk zW = true := by decide
theorem tryW_0 {w : Word} {n p : Int} (h : tryW w n p = 0) : wordOk w = true ∧ w.is = true ∧ w.key.sealed = 0 ∧ andI w.key.perms p = p ∧ w.key.base ≤ n ∧ n < w.key.top := by
  unfold tryW at h
  split at h
  · cases h
  · rename_i h1
    split at h
    · cases h
    · rename_i h2
      split at h
      · cases h
      · rename_i h3
        split at h
        · cases h
        · rename_i h4
          exact ⟨by cases e : wordOk w with | true => rfl | false => exact absurd (.inr e) h1, by cases e : w.is with | true => rfl | false => exact absurd (.inl e) h1, by omega, by omega, by omega, by omega⟩
theorem tryW_in (w : Word) (n p : Int) : 0 ≤ tryW w n p ∧ tryW w n p ≤ 4 := by
  unfold tryW
  repeat' split
  all_goals omega
theorem getD_ok {ws : List Word} (h : ∀ w ∈ ws, wordOk w = true) (i : Nat) : wordOk (ws.getD i (FT.zero .word)) = true := by
  rw [List.getD_eq_getElem?_getD]
  cases e : ws[i]? with
  | none => exact zW_ok
  | some w => exact h w (List.mem_of_getElem? e)
theorem getD_und {C ws : List Word} (h : ∀ w ∈ ws, Und C w) (i : Nat) : Und C (ws.getD i (FT.zero .word)) := by
  rw [List.getD_eq_getElem?_getD]
  cases e : ws[i]? with
  | none => exact und_zero C
  | some w => exact h w (List.mem_of_getElem? e)

/-! states that are right stay so -/
theorem memoryOk_iff {m : Mem} : memoryOk m = true ↔ m.words.length = 24 ∧ m.gone.length = 24 ∧ ∀ w ∈ m.words, wordOk w = true := by
  simp only [memoryOk, Bool.and_eq_true, decide_eq_true_eq, List.all_eq_true, and_assoc]
theorem stateOk_iff {s : State} : stateOk s = true ↔ s.regs.length = 8 ∧ (∀ w ∈ s.regs, wordOk w = true) ∧ wordOk s.pc = true ∧ memoryOk s.mem = true ∧ 0 ≤ s.trap ∧ s.trap ≤ 5 := by
  simp only [stateOk, Bool.and_eq_true, decide_eq_true_eq, List.all_eq_true, inR_t, and_assoc]
theorem fine_zero (w : Word) : Fine w zW := ⟨zW_ok, fun h => by cases h⟩
def Made (pc a b got v : Word) : Prop := Fine pc v ∨ Fine a v ∨ Fine b v ∨ Fine got v
theorem Made.ok {pc a b got v : Word} (h : Made pc a b got v) : wordOk v = true := by rcases h with h | h | h | h <;> exact h.1
theorem Made.und {C : List Word} {pc a b got v : Word} (h : Made pc a b got v) (h1 : Und C pc) (h2 : Und C a) (h3 : Und C b) (h4 : Und C got) : Und C v := by
  rcases h with h | h | h | h
  · exact h.und h1
  · exact h.und h2
  · exact h.und h3
  · exact h.und h4
theorem madeW_made {x : Inst} {pc a b got : Word} (ha : wordOk a = true) (hg : wordOk got = true) : Made pc a b got (madeW x a b got) := by
  unfold madeW
  repeat' split
  · exact .inr (.inl (fine_bare _ _))
  · exact .inr (.inl (fine_bare _ _))
  · exact .inr (.inl (fine_self ha))
  · exact .inr (.inl (weakenW_fine _ _))
  · exact .inr (.inl (narrowW_fine _ _))
  · exact .inr (.inl (pointW_fine _ _))
  · exact .inr (.inl (sealBy_fine _ _))
  · exact .inr (.inl (openBy_fine _ _))
  · exact .inr (.inl (fine_bare _ _))
  · exact .inr (.inl (fine_bare _ _))
  · exact .inr (.inr (.inr (fine_self hg)))
theorem nextW_made {pc a b got : Word} : Made pc a b got (nextW pc) := .inl (pointW_fine _ _)
theorem made_zero {pc a b got : Word} : Made pc a b got zW := .inl (fine_zero _)
structure WorkSpec (x : Inst) (pc a b got : Word) (e : Eff) : Prop where
  val : Made pc a b got e.val
  next : Made pc a b got e.next
  put : Made pc a b got e.put
  addr : e.addr ≠ -1 → x.op = 11 ∧ e.addr = IntKind.i64.wrap (a.n + x.n) ∧ e.put = b
  drop : e.drop ≠ -1 → tryW a a.n 32 = 0 ∧ e.drop = a.key.base
theorem workE_spec {x : Inst} {pc a b got : Word} (ha : wordOk a = true) (hb : wordOk b = true) (hg : wordOk got = true) :
    (0 ≤ (workE x pc a b got).trap ∧ (workE x pc a b got).trap ≤ 5) ∧ ((workE x pc a b got).trap = 0 → WorkSpec x pc a b got (workE x pc a b got)) := by
  unfold workE
  split
  · rename_i h
    exact ⟨(show (0 : Int) ≤ 0 ∧ (0 : Int) ≤ 5 by decide), fun _ => ⟨made_zero, nextW_made, .inr (.inr (.inl (fine_self hb))), fun _ => ⟨h, rfl, rfl⟩, fun h => absurd rfl h⟩⟩
  split
  · split
    · have := tryW_in a a.n 4
      rename_i h2
      exact ⟨by show 0 ≤ tryW a a.n 4 ∧ tryW a a.n 4 ≤ 5; omega, fun h => absurd h h2⟩
    · exact ⟨(show (0 : Int) ≤ 0 ∧ (0 : Int) ≤ 5 by decide), fun _ => ⟨nextW_made, .inr (.inl (fine_self ha)), made_zero, fun h => absurd rfl h, fun h => absurd rfl h⟩⟩
  split
  · refine ⟨(show (0 : Int) ≤ 0 ∧ (0 : Int) ≤ 5 by decide), fun _ => ⟨made_zero, ?_, made_zero, fun h => absurd rfl h, fun h => absurd rfl h⟩⟩
    dsimp only
    split
    · exact .inl (pointW_fine _ _)
    · exact nextW_made
  split
  · split
    · have := tryW_in a a.n 32
      rename_i h2
      exact ⟨by show 0 ≤ tryW a a.n 32 ∧ tryW a a.n 32 ≤ 5; omega, fun h => absurd h h2⟩
    · rename_i h2
      exact ⟨(show (0 : Int) ≤ 0 ∧ (0 : Int) ≤ 5 by decide), fun _ => ⟨made_zero, nextW_made, made_zero, fun h => absurd rfl h, fun _ => ⟨by simpa using h2, rfl⟩⟩⟩
  split
  · exact ⟨(show (0 : Int) ≤ 5 ∧ (5 : Int) ≤ 5 by decide), fun h => by cases h⟩
  split
  · refine ⟨(show (0 : Int) ≤ 0 ∧ (0 : Int) ≤ 5 by decide), fun _ => ⟨?_, nextW_made, made_zero, fun h => absurd rfl h, fun h => absurd rfl h⟩⟩
    dsimp only
    split
    · exact madeW_made ha hg
    · exact made_zero
  · exact ⟨(show (0 : Int) ≤ 0 ∧ (0 : Int) ≤ 5 by decide), fun _ => ⟨made_zero, nextW_made, made_zero, fun h => absurd rfl h, fun h => absurd rfl h⟩⟩
theorem readC_00 {m : Mem} {y : Word} {n : Int} (h : readC m y n = 0) : tryW y n 1 = 0 ∧ 0 ≤ n ∧ n ≤ m.words.length - 1 := by
  unfold readC at h
  split at h
  · rename_i h1; exact absurd h h1
  · rename_i h1
    split at h
    · rename_i h2; exact ⟨by omega, by have := inR_t.1 h2; omega⟩
    · cases h
theorem writeC_00 {m : Mem} {y w : Word} {n : Int} (h : writeC m y n w = 0) : tryW y n 2 = 0 ∧ 0 ≤ n ∧ n ≤ m.words.length - 1 := by
  unfold writeC at h
  split at h
  · rename_i h1; exact absurd h h1
  · rename_i h1
    split at h
    · cases h
    · rename_i h2
      have h2 : inR n 0 (m.words.length - 1) = true := by simpa using h2
      exact ⟨by omega, by have := inR_t.1 h2; omega⟩
theorem readM_00 {m : Mem} {y : Word} {n : Int} (h : (readM m y n).2 = 0) : tryW y n 1 = 0 ∧ 0 ≤ n ∧ n ≤ m.words.length - 1 ∧ (readM m y n).1 = filterW m.gone (takenW y (m.words.getD n.toNat (FT.zero .word))) := by
  unfold readM at h ⊢
  split at h
  · rename_i h1; exact absurd h h1
  · rename_i h1
    rw [if_neg h1]
    have := readC_00 (m := m) (y := y) (n := n) (by omega)
    exact ⟨this.1, this.2.1, this.2.2, rfl⟩
theorem readM_ok {m : Mem} (hm : ∀ w ∈ m.words, wordOk w = true) (y : Word) (n : Int) : wordOk (readM m y n).1 = true := by
  unfold readM
  split
  · exact zW_ok
  · exact (filterW_fine (takenW_fine (getD_ok hm _)).1).1
theorem memE_ok {m : Mem} (hm : ∀ w ∈ m.words, wordOk w = true) (x : Inst) (a b : Word) : wordOk (memE m x a b).1 = true := by
  unfold memE
  repeat' split
  · exact readM_ok hm _ _
  · exact zW_ok
  · exact zW_ok
structure EffSpec (l : List Inst) (s : State) (x : Inst) (a b got : Word) : Prop where
  fetch : fetchI l s.pc = (x, 0)
  hx : insOk x = true
  ha : a = s.regs.getD x.a.toNat (FT.zero .word)
  hb : b = s.regs.getD x.b.toNat (FT.zero .word)
  mem : memE s.mem x a b = (got, 0)
  eff : effE l s = workE x s.pc a b got
theorem effE_parts {l : List Inst} {s : State} (h : (effE l s).trap = 0) : ∃ x a b got, EffSpec l s x a b got := by
  by_cases h1 : (fetchI l s.pc).2 = 0
  · by_cases h2 : (memE s.mem (fetchI l s.pc).1 (s.regs.getD (fetchI l s.pc).1.a.toNat (FT.zero .word)) (s.regs.getD (fetchI l s.pc).1.b.toNat (FT.zero .word))).2 = 0
    · refine ⟨(fetchI l s.pc).1, _, _, (memE s.mem (fetchI l s.pc).1 (s.regs.getD (fetchI l s.pc).1.a.toNat (FT.zero .word)) (s.regs.getD (fetchI l s.pc).1.b.toNat (FT.zero .word))).1, ?_, fetchI_ok h1, rfl, rfl, ?_, ?_⟩
      · rw [← h1]
      · rw [← h2]
      · unfold effE; simp only; rw [if_neg (by simpa using h1), if_neg (by simpa using h2)]
    · unfold effE at h; simp only at h; rw [if_neg (by simpa using h1), if_pos h2] at h; exact absurd h h2
  · unfold effE at h; simp only at h; rw [if_pos h1] at h; exact absurd h h1
theorem EffSpec.work {l : List Inst} {s : State} {x : Inst} {a b got : Word} (h : EffSpec l s x a b got) (hs : stateOk s = true) (h0 : (effE l s).trap = 0) : WorkSpec x s.pc a b got (effE l s) := by
  obtain ⟨h1, h2, h3, h4, h5, h6⟩ := stateOk_iff.1 hs
  obtain ⟨m1, m2, m3⟩ := memoryOk_iff.1 h4
  have hg := memE_ok m3 x a b
  rw [h.mem] at hg
  rw [h.eff] at h0 ⊢
  exact (workE_spec (by rw [h.ha]; exact getD_ok h2 _) (by rw [h.hb]; exact getD_ok h2 _) hg).2 h0
theorem EffSpec.store {l : List Inst} {s : State} {x : Inst} {a b got : Word} (h : EffSpec l s x a b got) (hs : stateOk s = true) (h0 : (effE l s).trap = 0) (ha : (effE l s).addr ≠ -1) :
    tryW a (effE l s).addr 2 = 0 ∧ 0 ≤ (effE l s).addr ∧ (effE l s).addr ≤ 23 ∧ (effE l s).put = b := by
  obtain ⟨w1, w2, w3⟩ := (h.work hs h0).addr ha
  have hm := h.mem
  rw [memE_11 (by omega) w1] at hm
  have := writeC_00 (congrArg Prod.snd hm)
  obtain ⟨h1, h2, h3, h4, h5, h6⟩ := stateOk_iff.1 hs
  obtain ⟨m1, m2, m3⟩ := memoryOk_iff.1 h4
  rw [← w2] at this
  exact ⟨this.1, this.2.1, by omega, w3⟩
theorem EffSpec.load {l : List Inst} {s : State} {x : Inst} {a b got : Word} (h : EffSpec l s x a b got) : got = zW ∨ ∃ n : Int, tryW a n 1 = 0 ∧ 0 ≤ n ∧ n ≤ s.mem.words.length - 1 ∧ got = filterW s.mem.gone (takenW a (s.mem.words.getD n.toNat (FT.zero .word))) := by
  have hm := h.mem
  by_cases h1 : x.op = 10
  · rw [memE_10 h1] at hm
    obtain ⟨r1, r2, r3, r4⟩ := readM_00 (congrArg Prod.snd hm)
    right
    refine ⟨_, r1, r2, r3, ?_⟩
    rw [← r4, hm]
  · left
    by_cases h2 : x.op = 11
    · rw [memE_11 h1 h2] at hm; exact (congrArg Prod.fst hm).symm
    · rw [memE_x h1 h2] at hm; exact (congrArg Prod.fst hm).symm
theorem mem_set {α : Type} {xs : List α} {i : Nat} {v x : α} (h : x ∈ xs.set i v) : x ∈ xs ∨ x = v := List.mem_or_eq_of_mem_set h
theorem stepS_cases {l : List Inst} {s : State} (hs : stateOk s = true) :
    (s.trap ≠ 0 ∧ stepS l s = s) ∨ (s.trap = 0 ∧ (effE l s).trap ≠ 0 ∧ stepS l s = ⟨s.regs, s.pc, s.mem, (effE l s).trap⟩) ∨ (s.trap = 0 ∧ (effE l s).trap = 0 ∧ stepS l s = putE s (effE l s)) := by
  by_cases h : s.trap = 0
  · by_cases h2 : (effE l s).trap = 0
    · exact .inr (.inr ⟨h, h2, stepS_0 hs h h2⟩)
    · exact .inr (.inl ⟨h, h2, stepS_e hs h h2⟩)
  · exact .inl ⟨h, stepS_trap hs h⟩

/-! a closure: it has its roots, what its words open, and no more -/
theorem hasKey_iff {l : List Word} {k : Key} : hasKey l k = true ↔ ∃ x ∈ l, x.key = k := by
  simp only [hasKey, List.any_eq_true, decide_eq_true_eq]
theorem hasKey_mono {a b : List Word} {k : Key} (h : ∀ x ∈ a, x ∈ b) (hk : hasKey a k = true) : hasKey b k = true := by
  obtain ⟨x, h1, h2⟩ := hasKey_iff.1 hk
  exact hasKey_iff.2 ⟨x, h x h1, h2⟩
theorem putW_min {P : Word → Prop} {out : List Word} {w : Word} (h : ∀ x ∈ out, P x) (hw : w.is = true → wordOk w = true → P w) : ∀ x ∈ putW out w, P x := by
  intro x hx
  unfold putW at hx
  split at hx
  · rename_i hc
    simp only [Bool.and_eq_true] at hc
    rcases List.mem_append.1 hx with q | q
    · exact h x q
    · rw [List.mem_singleton.1 q]; exact hw hc.1.1 hc.1.2
  · exact h x hx
theorem foldPut_min {P : Word → Prop} : ∀ {l out : List Word}, (∀ x ∈ out, P x) → (∀ w ∈ l, w.is = true → wordOk w = true → P w) → ∀ x ∈ l.foldl putW out, P x
  | [], out, h, _ => h
  | v :: l, out, h, hl => foldPut_min (l := l) (putW_min h (hl v (by simp))) (fun w hw => hl w (by simp [hw]))
theorem scan_min {P : Word → Prop} {ws : List Word} : ∀ {n c : Nat} {out : List Word}, (∀ x ∈ out, P x) → (∀ j, c ≤ j → j < c + n → (ws.getD j (FT.zero .word)).is = true → P (ws.getD j (FT.zero .word))) → ∀ x ∈ scan ws n c out, P x
  | 0, c, out, h, _ => h
  | n + 1, c, out, h, hj => scan_min (n := n) (c := c + 1) (putW_min h fun hi _ => hj c (by omega) (by omega) hi) (fun j h1 h2 => hj j (by omega) (by omega))
def Cov (ws out : List Word) (k : Key) : Prop := opens k = true → ∀ j : Nat, k.base.toNat ≤ j → j < k.base.toNat + (min k.top 24 - k.base).toNat → (ws.getD j (FT.zero .word)).is = true → hasKey out (ws.getD j (FT.zero .word)).key = true
theorem Cov.mono {ws a b : List Word} {k : Key} (h : Cov ws a k) (hs : ∀ x ∈ a, x ∈ b) : Cov ws b k := fun ho j h1 h2 h3 => hasKey_mono hs (h ho j h1 h2 h3)
theorem closGo_min {P : Word → Prop} {ws : List Word} (hk : ∀ k : Word, P k → opens k.key = true → ∀ j : Nat, k.key.base.toNat ≤ j → j < k.key.base.toNat + (min k.key.top 24 - k.key.base).toNat → (ws.getD j (FT.zero .word)).is = true → P (ws.getD j (FT.zero .word))) :
    ∀ {n i : Nat} {out : List Word}, (∀ x ∈ out, P x) → ∀ x ∈ closGo ws n i out, P x
  | 0, _, _, h => h
  | n + 1, i, out, h => by
    unfold closGo; split
    · rename_i hi
      refine closGo_min hk (n := n) ?_
      unfold closStep; split
      · rename_i ho
        exact scan_min h (fun j h1 h2 h3 => hk _ (h _ (getD_mem hi)) ho j h1 h2 h3)
      · exact h
    · exact h
theorem closure_min {P : Word → Prop} {m : Mem} {l : List Word} (hl : ∀ w ∈ l, w.is = true → wordOk w = true → P w)
    (hk : ∀ k : Word, P k → opens k.key = true → ∀ j : Nat, k.key.base.toNat ≤ j → j < k.key.base.toNat + (min k.key.top 24 - k.key.base).toNat → (m.words.getD j (FT.zero .word)).is = true → P (m.words.getD j (FT.zero .word))) : ∀ x ∈ closure m l, P x := by
  unfold closure; split
  · exact closGo_min hk (foldPut_min (fun x hx => by cases hx) hl)
  · intro x hx; cases hx
/-! ### what is under a closed set -/
def Reach (C : List Word) (m : Mem) : Prop := ∀ c ∈ C, c.is = true → opens c.key = true → ∀ j : Nat, c.key.base ≤ j → (j : Int) < c.key.top → j < 24 → Und C (m.words.getD j (FT.zero .word))
theorem opens_iff {k : Key} : opens k = true ↔ ¬ andI k.perms 1 = 0 ∧ ¬ andI k.perms 8 = 0 := by simp [opens]
theorem opens_up {a b : Key} (h : coversK a b = true) (ho : opens b = true) : opens a = true := by
  obtain ⟨h1, h2, h3, h4, h5⟩ := coversK_iff.1 h
  obtain ⟨o1, o2⟩ := opens_iff.1 ho
  exact opens_iff.2 ⟨andI_bit h5 o1, andI_bit h5 o2⟩
theorem closure_under {C : List Word} {m : Mem} {l : List Word} (hl : ∀ w ∈ l, Und C w) (hr : Reach C m) : ∀ x ∈ closure m l, Und C x := by
  intro x hx
  have hm : memoryOk m = true := by
    unfold closure at hx; split at hx
    · assumption
    · cases hx
  obtain ⟨m1, m2, m3⟩ := memoryOk_iff.1 hm
  refine (closure_min (P := fun x => (x.is = true ∧ wordOk x = true) ∧ Und C x) (fun w hw h1 h2 => ⟨⟨h1, h2⟩, hl w hw⟩) (fun k hk ho j h1 h2 h3 => ?_) x hx).2
  obtain ⟨⟨hki, hko⟩, hku⟩ := hk
  have hn := keyOk_n (wordOk_is hko hki)
  refine ⟨⟨h3, getD_ok m3 j⟩, ?_⟩
  obtain ⟨c, c1, c2, c3⟩ := hku hki
  obtain ⟨q1, q2, q3, q4, q5⟩ := coversK_iff.1 c3
  exact hr c c1 c2 (opens_up c3 ho) j (by omega) (by omega) (by omega)
theorem hasP_iff {w : Word} {p : Int} : hasP w p = true ↔ w.is = true ∧ ¬ andI w.key.perms p = 0 := by simp [hasP]
theorem mem_filt {f : Nat → Bool} {n : Nat} {c : Int} : c ∈ filt f n ↔ ∃ j : Nat, j < n ∧ f j = true ∧ c = j := by
  simp only [filt, List.mem_map, List.mem_filter, List.mem_range]
  constructor
  · rintro ⟨j, ⟨h1, h2⟩, rfl⟩; exact ⟨j, h1, h2, rfl⟩
  · rintro ⟨j, h1, h2, rfl⟩; exact ⟨j, ⟨h1, h2⟩, rfl⟩
theorem coverP_iff {ws : List Word} {p : Int} {c : Nat} : coverP ws p c = true ↔ ∃ w ∈ ws, hasP w p = true ∧ w.key.base ≤ c ∧ (c : Int) ≤ w.key.top - 1 := by
  simp only [coverP, List.any_eq_true, Bool.and_eq_true, inR_t]
theorem cover_up {C : List Word} {w : Word} {p : Int} {c : Nat} (h : Und C w) (hp : hasP w p = true) (h1 : w.key.base ≤ c) (h2 : (c : Int) ≤ w.key.top - 1) : coverP C p c = true := by
  obtain ⟨p1, p2⟩ := hasP_iff.1 hp
  obtain ⟨d, d1, d2, d3⟩ := h p1
  obtain ⟨q1, q2, q3, q4, q5⟩ := coversK_iff.1 d3
  exact coverP_iff.2 ⟨d, d1, hasP_iff.2 ⟨d2, andI_bit q5 p2⟩, by omega, by omega⟩
theorem mem_cellsBy {m : Mem} {l : List Word} {p c : Int} : c ∈ cellsBy m l p ↔ ∃ j : Nat, j < 24 ∧ coverP (closure m l) p j = true ∧ c = j := mem_filt
structure Inv (C : List Word) (s : State) : Prop where
  ok : stateOk s = true
  regs : ∀ w ∈ s.regs, Und C w
  pc : Und C s.pc
  mem : Reach C s.mem
def hold (s : State) : List Word := s.regs ++ [s.pc]
theorem Inv.under {C : List Word} {s : State} (h : Inv C s) : ∀ x ∈ closure s.mem (hold s), Und C x := closure_under (fun w hw => by
  rcases List.mem_append.1 hw with q | q
  · exact h.regs w q
  · rw [List.mem_singleton.1 q]; exact h.pc) h.mem
theorem Inv.got {C : List Word} {l : List Inst} {s : State} (h : Inv C s) {x : Inst} {a b got : Word} (he : EffSpec l s x a b got) : Und C a ∧ Und C b ∧ Und C got := by
  obtain ⟨r1, r2, r3, r4, r5, r6⟩ := stateOk_iff.1 h.ok
  obtain ⟨m1, m2, m3⟩ := memoryOk_iff.1 r4
  have ha : Und C a := by rw [he.ha]; exact getD_und h.regs _
  have hb : Und C b := by rw [he.hb]; exact getD_und h.regs _
  refine ⟨ha, hb, ?_⟩
  rcases he.load with rfl | ⟨n, h1, h2, h3, rfl⟩
  · exact und_zero C
  · obtain ⟨t1, t2, t3, t4, t5, t6⟩ := tryW_0 h1
    obtain ⟨j, rfl⟩ := Int.eq_ofNat_of_zero_le h2
    have hj : j < 24 := by omega
    rw [Int.toNat_natCast]
    by_cases h8 : andI a.key.perms 8 = 0
    · rw [show takenW a (s.mem.words.getD j (FT.zero .word)) = plainW (s.mem.words.getD j (FT.zero .word)).n from if_pos h8]
      exact (filterW_fine (plainW_ok _)).und (und_bare C _)
    · obtain ⟨c, c1, c2, c3⟩ := ha t2
      obtain ⟨q1, q2, q3, q4, q5⟩ := coversK_iff.1 c3
      have hu := h.mem c c1 c2 (opens_up c3 (opens_iff.2 ⟨by rw [t4]; decide, h8⟩)) j (by omega) (by omega) hj
      exact (filterW_fine (takenW_fine (getD_ok m3 j)).1).und ((takenW_fine (getD_ok m3 j)).und hu)
theorem Inv.gone {C : List Word} {l : List Inst} {s : State} (h : Inv C s) (hC : ∀ c ∈ C, hasP c 32 = false) : (stepS l s).mem.gone = s.mem.gone := by
  have hs := h.ok
  rcases stepS_cases (l := l) hs with ⟨h1, h2⟩ | ⟨h1, h2, h3⟩ | ⟨h1, h2, h3⟩
  · rw [h2]
  · rw [h3]
  · rw [h3]
    obtain ⟨x, a, b, got, he⟩ := effE_parts h2
    obtain ⟨u1, u2, u3⟩ := h.got he
    unfold putE; dsimp only
    split
    · rename_i hr
      have hr := inR_t.1 hr
      obtain ⟨d1, d2⟩ := (he.work hs h2).drop (by omega)
      obtain ⟨t1, t2, t3, t4, t5, t6⟩ := tryW_0 d1
      obtain ⟨d, e1, e2, e3⟩ := u1 t2
      obtain ⟨q1, q2, q3, q4, q5⟩ := coversK_iff.1 e3
      have := hC d e1
      rw [hasP_iff.2 ⟨e2, andI_bit q5 (by rw [t4]; decide)⟩] at this
      cases this
    · rfl


/-! what is kept is read as it was -/

/-! two that are apart -/
theorem twoOk_iff {t : Two} : twoOk t = true ↔ stateOk (sideState t 0) = true ∧ stateOk (sideState t 1) = true := by simp [twoOk]
theorem meetI_f {a b : List Int} : meetI a b = false ↔ ∀ c ∈ a, c ∉ b := by
  simp only [meetI, List.any_eq_false]
  constructor
  · intro h c hc hb
    exact h c hc (List.any_eq_true.2 ⟨c, hb, beq_iff_eq.2 rfl⟩)
  · intro h c hc hb
    obtain ⟨x, hx, e⟩ := List.any_eq_true.1 hb
    rw [beq_iff_eq.1 e] at hc
    exact h x hc hx
def Ap (C D : List Word) : Prop := ∀ j : Nat, j < 24 → coverP C 2 j = true → coverP D 1 j = false ∧ coverP D 2 j = false
def NoSeal (C : List Word) : Prop := ∀ c ∈ C, hasP c 32 = false
structure Both (A B : List Word) (t : Two) : Prop where
  a : Inv A (sideState t 0)
  b : Inv B (sideState t 1)
  ab : Ap A B
  ba : Ap B A
  na : NoSeal A
  nb : NoSeal B
theorem Both.ok {A B : List Word} {t : Two} (h : Both A B t) : twoOk t = true := twoOk_iff.2 ⟨h.a.ok, h.b.ok⟩
theorem Both.apart {A B : List Word} {t : Two} (h : Both A B t) (ha : ∀ x ∈ closure t.mem (heldW t.a), Und A x) (hb : ∀ x ∈ closure t.mem (heldW t.b), Und B x) : apartB t = true := by
  have hs : ∀ {C : List Word} {l : List Word}, (∀ x ∈ closure t.mem l, Und C x) → NoSeal C → canSeal t.mem l = false := fun {C l} hu hn => by
    cases e : canSeal t.mem l with
    | false => rfl
    | true =>
      simp only [canSeal, List.any_eq_true] at e
      obtain ⟨w, h1, h2⟩ := e
      obtain ⟨p1, p2⟩ := hasP_iff.1 h2
      obtain ⟨d, d1, d2, d3⟩ := hu w h1 p1
      obtain ⟨q1, q2, q3, q4, q5⟩ := coversK_iff.1 d3
      have := hn d d1
      rw [hasP_iff.2 ⟨d2, andI_bit q5 p2⟩] at this
      cases this
  have hcov : ∀ {C : List Word} {l : List Word} {p : Int} {j : Nat}, (∀ x ∈ closure t.mem l, Und C x) → coverP (closure t.mem l) p j = true → coverP C p j = true := fun {C l p j} hu hc => by
    obtain ⟨w, w1, w2, w3, w4⟩ := coverP_iff.1 hc
    exact cover_up (hu w w1) w2 w3 w4
  have hx : ∀ {C D : List Word} {l k : List Word}, (∀ x ∈ closure t.mem l, Und C x) → (∀ x ∈ closure t.mem k, Und D x) → Ap C D → crossesB t.mem l k = false := fun {C D l k} hu hv hap => by
    refine meetI_f.2 fun c hc hc2 => ?_
    obtain ⟨j, h1, h2, rfl⟩ := mem_cellsBy.1 hc
    have := hap j h1 (hcov hu h2)
    rcases List.mem_append.1 hc2 with q | q
    · obtain ⟨i, i1, i2, i3⟩ := mem_cellsBy.1 q
      have : i = j := by omega
      subst this
      have := hcov hv i2
      simp_all
    · obtain ⟨i, i1, i2, i3⟩ := mem_cellsBy.1 q
      have : i = j := by omega
      subst this
      have := hcov hv i2
      simp_all
  simp only [apartB, Bool.and_eq_true, Bool.not_eq_true']
  exact ⟨⟨⟨h.ok, hs ha h.na⟩, hs hb h.nb⟩, hx ha hb h.ab, hx hb ha h.ba⟩

structure Cur where
  b : List Int
  i : Int
  h : Int
def Cur.tc (c : Cur) (r : List TC) : List TC := tl false (.int .u8) c.b :: .int .i64 c.i :: .int .i64 c.h :: r



theorem U8s.app {a b : List Int} (ha : U8s a) (hb : U8s b) : U8s (a ++ b) := fun x hx => by
  rcases List.mem_append.1 hx with q | q
  · exact ha x q
  · exact hb x q
theorem U8s.put {a : List Int} (ha : U8s a) {i : Nat} {v : Int} (hv : 0 ≤ v ∧ v ≤ 255) : U8s (a.set i v) := fun x hx => by
  rcases mem_set hx with q | q
  · exact ha x q
  · rw [q]; exact hv

theorem eqWd {a b : Word} : (a.n == b.n && (a.is == b.is && (a.key.base == b.key.base && (a.key.top == b.key.top && (a.key.perms == b.key.perms && a.key.sealed == b.key.sealed))))) = decide (a = b) := by
  obtain ⟨a1, a2, a3, a4, a5, a6⟩ := a
  obtain ⟨b1, b2, b3, b4, b5, b6⟩ := b
  rw [Bool.eq_iff_iff]
  simp














/-! what the small programs do -/






theorem spanD_mem {l : List Span} {i : Nat} (h : i < l.length) : l.getD i (FT.zero .span) ∈ l := by
  rw [List.getD_eq_getElem?_getD, List.getElem?_eq_getElem h]; exact List.getElem_mem h

def Ord (l : List Span) : Prop := l.Pairwise (fun a b => a.at_ < b.at_)
theorem ord_of {l : List Span} (h : ∀ j, 0 < j → j < l.length → (l.getD (j - 1) (FT.zero .span)).at_ < (l.getD j (FT.zero .span)).at_) : Ord l := by
  have key : ∀ d i : Nat, i + d + 1 < l.length → (l.getD i (FT.zero .span)).at_ < (l.getD (i + d + 1) (FT.zero .span)).at_ := by
    intro d
    induction d with
    | zero => intro i hi; have := h (i + 1) (by omega) hi; simpa using this
    | succ d ih =>
      intro i hi
      have h1 := ih i (by omega)
      have h2 := h (i + (d + 1) + 1) (by omega) hi
      rw [show i + (d + 1) + 1 - 1 = i + d + 1 by omega] at h2
      omega
  refine List.pairwise_iff_getElem.2 fun i j hi hj hij => ?_
  have := key (j - i - 1) i (by omega)
  rw [show i + (j - i - 1) + 1 = j by omega] at this
  simpa [List.getD_eq_getElem?_getD, hi, hj] using this
theorem ord_step {l : List Span} (h : Ord l) {j : Nat} (h0 : 0 < j) (hj : j < l.length) : (l.getD (j - 1) (FT.zero .span)).at_ < (l.getD j (FT.zero .span)).at_ := by
  have := List.pairwise_iff_getElem.1 h (j - 1) j (by omega) hj (by omega)
  simpa [List.getD_eq_getElem?_getD, hj, show j - 1 < l.length by omega] using this
theorem spansOk_ord {l : List Span} : spansOk l = true ↔ (∀ s ∈ l, spanOk s = true) ∧ Ord l := by
  rw [spansOk_iff]
  constructor
  · intro h
    refine ⟨spansOk_mem (spansOk_iff.2 h), ord_of fun j h0 hj => ?_⟩
    have := ((spanChk_iff l j).1 (h j hj)).2
    omega
  · rintro ⟨h1, h2⟩ j hj
    have hs := h1 _ (spanD_mem hj)
    rw [spanChk_iff]
    simp only [spanOk, Bool.and_eq_true, inR_t] at hs
    refine ⟨hs, ?_⟩
    by_cases h0 : j = 0
    · exact .inl h0
    · exact .inr (ord_step h2 (by omega) hj)


theorem ord_ge {l : List Span} (h : spansOk l = true) : ∀ j : Nat, j < l.length → (j : Int) ≤ (l.getD j (FT.zero .span)).at_ := by
  obtain ⟨h1, h2⟩ := spansOk_ord.1 h
  intro j
  induction j with
  | zero =>
    intro hj
    have hs := h1 _ (spanD_mem hj)
    simp only [spanOk, Bool.and_eq_true, inR_t] at hs
    omega
  | succ j ih =>
    intro hj
    have := ih (by omega)
    have := ord_step h2 (show 0 < j + 1 by omega) hj
    rw [Nat.add_sub_cancel] at this
    omega
theorem spansOk_len {l : List Span} (h : spansOk l = true) : l.length ≤ 24 := by
  by_cases h0 : l.length = 0
  · omega
  · have hj : l.length - 1 < l.length := by omega
    have := ord_ge h (l.length - 1) hj
    have hs := (spansOk_ord.1 h).1 _ (spanD_mem hj)
    simp only [spanOk, Bool.and_eq_true, inR_t] at hs
    omega
theorem heapOk_iff {h : Heap} : heapOk h = true ↔ memoryOk h.mem = true ∧ spansOk h.live = true ∧ spansOk h.waits = true ∧ ∀ c, c < 24 → cnt h.live c + cnt h.waits c ≤ 1 ∧ h.mem.gone.getD c false = decide (0 < cnt h.waits c) := by
  simp only [heapOk, Bool.and_eq_true, allR_iff, decide_eq_true_eq, beq_iff_eq, and_assoc]
theorem heapOk_len {h : Heap} (k : heapOk h = true) : LHeap h 24 := by
  obtain ⟨h1, h2, h3, h4⟩ := heapOk_iff.1 k
  obtain ⟨m1, m2, m3⟩ := memoryOk_iff.1 h1
  exact ⟨⟨by omega, by omega⟩, spansOk_len h2, spansOk_len h3⟩
def InSpan (l : List Span) (w : Word) : Prop := w.is = true → w.key.base < w.key.top → ∃ s ∈ l, s.at_ ≤ w.key.base ∧ w.key.top ≤ s.at_ + s.len
theorem InSpan.mono {l l' : List Span} {w : Word} (h : InSpan l w) (hl : ∀ s ∈ l, s ∈ l') : InSpan l' w := fun h1 h2 => by
  obtain ⟨s, hs, h3⟩ := h h1 h2; exact ⟨s, hl s hs, h3⟩
structure Good (h : Heap) (rs : List Word) : Prop where
  ok : heapOk h = true
  regs : ∀ w ∈ rs, wordOk w = true ∧ InSpan (h.live ++ h.waits) w
  mem : ∀ w ∈ h.mem.words, InSpan (h.live ++ h.waits) w
theorem Good.len {h : Heap} {rs : List Word} (g : Good h rs) : LHeap h 24 := heapOk_len g.ok



theorem win_over {α : Type} (s D Z : List α) (i k : Nat) (h : i ≤ s.length) (hk : k = i + D.length) : win (over (over s i D) k Z) 0 k = s.take i ++ D := by
  have e1 : (s.take i ++ D).length = k := by rw [List.length_append, List.length_take, Nat.min_eq_left h, hk]
  have e2 : (over s i D).take k = s.take i ++ D := by unfold over; exact List.take_left' e1
  unfold win
  rw [List.drop_zero]
  show ((over s i D).take k ++ Z ++ _).take k = _
  rw [e2, List.append_assoc, List.take_left' e1]










/-! strictly ascending lists: they are what their members are -/



/-! neighbours that are alike, in place -/

/-! the core: what it is made of -/
abbrev zCore : Core := ⟨zState, [], zW, false, []⟩
def guessOk (g : List Int) : Bool := decide (g.length = 48) && g.all (fun n => inR n (-1) 65535)
def guessNew : List Int := List.replicate 48 (-1)
def guessW (g : List Int) (pc : Word) : Word := if inR pc.n 0 (g.length - 1) && (g.getD pc.n.toNat (FT.zero (.int .i64)) != -1) then pointW pc (g.getD pc.n.toNat (FT.zero (.int .i64))) else nextW pc
def learnG (g : List Int) (pc next : Word) : List Int := if inR pc.n 0 (g.length - 1) then g.set pc.n.toNat (andI next.n 65535) else g
def entryOk (e : Entry) : Bool := wordOk e.pc && wordOk e.guess && wordOk e.e.val && wordOk e.e.next && wordOk e.e.put && (insOk e.x || decide (e.x = zI)) && inR e.e.trap 0 5 && inR e.e.r (-1) 7 && decide (e.e.drop ≤ 4096)
def coreOk (c : Core) : Bool := stateOk c.s && decide (c.rob.length ≤ 6) && c.rob.all entryOk && wordOk c.next && guessOk c.guesses
def coreNew (s : State) : Core := if stateOk s then ⟨s, [], s.pc, false, guessNew⟩ else zCore
def setBy (e : Entry) : Int := if e.done then e.e.r else setsI e.x
def srcGo (rob : List Entry) (r : Int) : Nat → Int
  | 0 => -1
  | k + 1 => if setBy (rob.getD k (FT.zero .entry)) = r then (k : Int) else srcGo rob r k
def source (rob : List Entry) (i r : Int) : Int := if r < 0 then -1 else srcGo rob r (min i rob.length).toNat
def valueC (c : Core) (i r : Int) : Word × Bool :=
  if source c.rob i r < 0 then (c.s.regs.getD r.toNat (FT.zero .word), true) else if (c.rob.getD (source c.rob i r).toNat (FT.zero .entry)).done then ((c.rob.getD (source c.rob i r).toNat (FT.zero .entry)).e.val, true) else (zW, false)
def LCore (c : Core) (n : Nat) : Prop := LState c.s n ∧ c.rob.length ≤ n ∧ c.guesses.length ≤ n
theorem LCore.mono {c : Core} {n m : Nat} (h : LCore c n) (k : n ≤ m) : LCore c m := ⟨h.1.mono k, Nat.le_trans h.2.1 k, Nat.le_trans h.2.2 k⟩
theorem etaCore (x : Core) : (⟨x.s, x.rob, x.next, x.stop, x.guesses⟩ : Core) = x := rfl
theorem insEq0 (a : Inst) : (a.op == 0 && (a.r == 0 && (a.a == 0 && (a.b == 0 && a.n == 0)))) = decide (a = zI) := by
  obtain ⟨a1, a2, a3, a4, a5⟩ := a
  rw [Bool.eq_iff_iff]; simp
theorem srcGo_in (rob : List Entry) (r : Int) : ∀ k, -1 ≤ srcGo rob r k ∧ srcGo rob r k < k
  | 0 => by simp [srcGo]
  | k + 1 => by
    have := srcGo_in rob r k
    unfold srcGo
    split <;> omega
theorem source_in (rob : List Entry) (i r : Int) : -1 ≤ source rob i r ∧ source rob i r < rob.length := by
  unfold source
  split
  · omega
  · have := srcGo_in rob r (min i rob.length).toNat
    omega
theorem coreOk_iff {c : Core} : coreOk c = true ↔ stateOk c.s = true ∧ c.rob.length ≤ 6 ∧ (∀ e ∈ c.rob, entryOk e = true) ∧ wordOk c.next = true ∧ guessOk c.guesses = true := by
  simp only [coreOk, Bool.and_eq_true, decide_eq_true_eq, List.all_eq_true, and_assoc]
theorem guessOk_len {g : List Int} (h : guessOk g = true) : g.length = 48 := by
  simp only [guessOk, Bool.and_eq_true, decide_eq_true_eq] at h; exact h.1
theorem coreOk_len {c : Core} (h : coreOk c = true) : LenOk c.s ∧ c.rob.length ≤ 6 ∧ c.guesses.length = 48 := by
  obtain ⟨h1, h2, h3, h4, h5⟩ := coreOk_iff.1 h
  exact ⟨stateOk_len h1, h2, guessOk_len h5⟩
theorem coreOk_l {c : Core} (h : coreOk c = true) : LCore c 2147483647 := by
  obtain ⟨h1, h2, h3⟩ := coreOk_len h
  exact ⟨h1.l, by omega, by omega⟩
theorem guessW_yes {g : List Int} {pc : Word} (h : inR pc.n 0 (g.length - 1) = true) (h2 : (g.getD pc.n.toNat (FT.zero (.int .i64)) != -1) = true) : guessW g pc = pointW pc (g.getD pc.n.toNat (FT.zero (.int .i64))) := by
  unfold guessW; rw [h, h2]; rfl
theorem guessW_no {g : List Int} {pc : Word} (h2 : (g.getD pc.n.toNat (FT.zero (.int .i64)) != -1) = false) : guessW g pc = pointW pc (IntKind.i64.wrap (pc.n + 1)) := by
  unfold guessW; rw [h2, Bool.and_false]; rfl
theorem guessW_out {g : List Int} {pc : Word} (h : inR pc.n 0 (g.length - 1) = false) : guessW g pc = pointW pc (IntKind.i64.wrap (pc.n + 1)) := by
  unfold guessW; rw [h]; rfl

def pf_slices_Clone_Entry : PF := ⟨[.t 2], .seq (.reg [.s (.mv 2 (.k (.v (.c (.nils .entry)))))]) (.seq (.seq (.reg [.s (.mv 3 (.t 0)), .s (.isnil 4 (.t 3))]) (.cond (.t 4) (.seq (.reg [.s (.mv 2 (.k (.v (.c (.nils .entry)))))]) (.ret)) (.skip))) (.seq (.reg [.s (.bs 5 .entry []), .s (.mv 6 (.t 0)), .s (.app 7 .entry (.t 5) (.t 6)), .s (.mv 2 (.t 7))]) (.ret)))⟩
def c_slices_Clone_Entry : Fun := ⟨191, [], fun ts K => as1 ts fun t0 => arC (pL .entry) t0 fun a => chk (a.length ≤ 2147483647) (K (tL true .entry a) [])⟩
theorem ok_slices_Clone_Entry : FunOk Tryz.prog c_slices_Clone_Entry := funOkN (E := []) envOk_nil mixd Tryz.func191 (pf := pf_slices_Clone_Entry) (by kernel_rfl) rfl (Nat.le_of_ble_eq_true (show Nat.ble 1 Tryz.f191.ntmps = true by kernel_rfl)) fun ts K h => by
  obtain ⟨t0, e0, h⟩ := as1_out h
  subst e0
  obtain ⟨a, e1, h⟩ := arC_out (rd_l .entry) h
  subst e1
  obtain ⟨hpre, h⟩ := chk_o h
  refine ⟨.entry, a, _, rfl, h, 0, fun e => ?_, ?_⟩
  · subst e
    conv => whnf
    exact ⟨rfl, rfl⟩
  · conv => whnf
    repeat' (refine chk_c ?_ ?_ <;> conv => whnf)
    all_goals first
      | (refine ⟨?_⟩; simp; omega)
      | exact ⟨rfl, rfl⟩

def pf_slices_Clone_int : PF := ⟨[.t 2], .seq (.reg [.s (.mv 2 (.k (.v (.c (.nils (.int .i64))))))]) (.seq (.seq (.reg [.s (.mv 3 (.t 0)), .s (.isnil 4 (.t 3))]) (.cond (.t 4) (.seq (.reg [.s (.mv 2 (.k (.v (.c (.nils (.int .i64))))))]) (.ret)) (.skip))) (.seq (.reg [.s (.bs 5 (.int .i64) []), .s (.mv 6 (.t 0)), .s (.app 7 (.int .i64) (.t 5) (.t 6)), .s (.mv 2 (.t 7))]) (.ret)))⟩
def c_slices_Clone_int : Fun := ⟨192, [], fun ts K => as1 ts fun t0 => arC (pL (.int .i64)) t0 fun a => chk (a.length ≤ 2147483647) (K (tL true (.int .i64) a) [])⟩
theorem ok_slices_Clone_int : FunOk Tryz.prog c_slices_Clone_int := funOkN (E := []) envOk_nil mixd Tryz.func192 (pf := pf_slices_Clone_int) (by kernel_rfl) rfl (Nat.le_of_ble_eq_true (show Nat.ble 1 Tryz.f192.ntmps = true by kernel_rfl)) fun ts K h => by
  obtain ⟨t0, e0, h⟩ := as1_out h
  subst e0
  obtain ⟨a, e1, h⟩ := arC_out (rd_l (.int .i64)) h
  subst e1
  obtain ⟨hpre, h⟩ := chk_o h
  refine ⟨(.int .i64), a, _, rfl, h, 0, fun e => ?_, ?_⟩
  · subst e
    conv => whnf
    exact ⟨rfl, rfl⟩
  · conv => whnf
    repeat' (refine chk_c ?_ ?_ <;> conv => whnf)
    all_goals first
      | (refine ⟨?_⟩; simp; omega)
      | exact ⟨rfl, rfl⟩

def pf_impl_GuessOk_1 : PF := ⟨[.t 2], .seq (.reg [.s (.mv 2 (.k (.v (.c .ff))))]) (.seq (.reg [.s (.mv 3 (.t 0)), .s (.call (some 4) 60 [(.t 3), (.k (.v (.c (.int .i64 (-1))))), (.k (.v (.c (.int .i64 65535))))]), .s (.bnot 5 (.t 4)), .s (.mv 2 (.t 5))]) (.ret))⟩
def c_impl_GuessOk_1 : Fun := ⟨225, [], fun ts K => as1 ts fun t0 => arC (pI .i64) t0 fun n => K (tB (!inR n (-1) 65535)) []⟩
theorem run_impl_GuessOk_1 (n : Int) : runK [c_impl_in] (0) [] pf_impl_GuessOk_1 [tI .i64 n] fun r o => r = tB (!inR n (-1) 65535) ∧ o = [] := by
  conv => whnf
  repeat' (first | (refine sel_i (fun h => ?_) (fun h => ?_) <;> conv => whnf) | (refine chk_c ?_ ?_ <;> conv => whnf) | (refine And.intro ?_ rfl) | (refine And.intro ?_ ?_ <;> conv => whnf))
  all_goals rfl
theorem ok_impl_GuessOk_1 : FunOk Tryz.prog c_impl_GuessOk_1 := funOk (E := [c_impl_in]) (envOk_cons ok_impl_in (envOk_nil)) mixd Tryz.func225 (pf := pf_impl_GuessOk_1) (by kernel_rfl) fun ts K h => by
  obtain ⟨t0, e0, h⟩ := as1_out h
  subst e0
  obtain ⟨n, e1, hq⟩ := arC_out (rd_int .i64) h
  clear h
  subst e1
  have h := hq
  clear hq
  exact ⟨_, _, h, Nat.le_of_ble_eq_true (show Nat.ble 1 Tryz.f225.ntmps = true by kernel_rfl), _, run_impl_GuessOk_1 n⟩

def lb_slices_IndexFunc_int_0 : PC := .seq (.reg [.s (.bin 9 .lss (.t 8) (.t 7))]) (.seq (.cond (.t 9) (.skip) (.exit 0)) (.seq (.blk 1 (.seq (.reg [.s (.mv 10 (.t 8)), .s (.mv 5 (.t 10))]) (.seq (.reg [.s (.mv 11 (.t 1)), .s (.mv 12 (.t 0)), .s (.mv 13 (.t 5)), .s (.ia 14 (.int .i64) (.t 12) (.t 13)), .s (.load 15 false 1 (.t 14)), .s (.callv (some 16) (.t 11) [(.t 15)])]) (.cond (.t 16) (.seq (.reg [.s (.mv 17 (.t 5)), .s (.mv 4 (.t 17))]) (.ret)) (.skip))))) (.reg [.s (.bin 18 .add (.t 8) (.k (.v (.c (.int .i64 1))))), .s (.mv 8 (.t 18))])))
def pf_slices_IndexFunc_int : PF := ⟨[.t 4], .seq (.reg [.s (.mv 4 (.k (.v (.c (.int .i64 0)))))]) (.seq (.seq (.reg [.s (.mv 6 (.t 0)), .s (.len 7 false (.t 6)), .s (.mv 8 (.k (.v (.c (.int .i64 0)))))]) (.blk 0 (.loop [0, 1, 7, 8] lb_slices_IndexFunc_int_0))) (.seq (.reg [.s (.mv 4 (.k (.v (.c (.int .i64 (-1))))))]) (.ret)))⟩
def c_slices_IndexFunc_int__impl_GuessOk_1 : Fun := ⟨204, [], fun ts K => as2 ts fun t0 t1 => arC (pL (.int .i64)) t0 fun xs => arF0 225 t1 fun g => chk (xs.length ≤ 2147483647) (K (tN (idxOf (fun n => !inR n (-1) 65535) xs)) [])⟩
theorem run_slices_IndexFunc_int__impl_GuessOk_1 (xs : List (FT.Ty (.int .i64))) (g : Unit) (hpre : xs.length ≤ 2147483647) : runK [c_impl_GuessOk_1] (xs.length + 1) [] pf_slices_IndexFunc_int [tL false (.int .i64) xs, .fn 225 []] fun r o => r = tN (idxOf (fun n => !inR n (-1) 65535) xs) ∧ o = [] := by
  conv => whnf
  refine loop (α := Nat) (fun i => ⟨[(0, .v (.c (.sl false (.int .i64) 0))), (1, .fn 225 []), (7, .v (.c (.int .i64 (xs.length : Int)))), (8, .v (.c (.int .i64 (i : Int))))], [(0, some (.flat false (.int .i64) none xs))], nums.tail, [], false, []⟩)
      (fun i => i ≤ xs.length ∧ idxOf (fun n => !inR n (-1) 65535) xs = idxGo (fun n => !inR n (-1) 65535) (xs.drop i) i) (fun i => xs.length - i) (fun i R hI hR => ?_) 0 _ ⟨by simp, rfl⟩ (by simp)
  obtain ⟨hi, hx⟩ := hI
  conv => whnf
  refine sel_i (fun h2 => ?_) (fun h2 => ?_)
  · have hlt : i < xs.length := by simp at h2; omega
    conv => whnf
    repeat (refine chk_i (by first | omega | (simp; omega)) ?_; conv => whnf)
    refine sel_i (fun h3 => ?_) (fun h3 => ?_)
    · conv => whnf
      rw [hx, idxGo_yes (z := FT.zero (.int .i64)) hlt (by first | (simp only [keyEq] at h3; exact h3) | (simpa using h3))]
      exact ⟨rfl, rfl⟩
    · conv => whnf
      rw [wrap_id (n := (i : Int) + 1) (by omega) (by omega)]
      exact hR (i + 1) ⟨by omega, by rw [hx, idxGo_no (z := FT.zero (.int .i64)) hlt (by first | (simp only [keyEq] at h3; exact h3) | (simpa using h3))]⟩ (by omega)
  · conv => whnf
    rw [hx, idxGo_end (by simp at h2; omega)]
    exact ⟨rfl, rfl⟩
theorem ok_slices_IndexFunc_int__impl_GuessOk_1 : FunOk Tryz.prog c_slices_IndexFunc_int__impl_GuessOk_1 := funOk (E := [c_impl_GuessOk_1]) (envOk_cons ok_impl_GuessOk_1 (envOk_nil)) mixd Tryz.func204 (pf := pf_slices_IndexFunc_int) (by kernel_rfl) fun ts K h => by
  obtain ⟨t0, t1, e0, h⟩ := as2_out h
  subst e0
  obtain ⟨xs, e1, hq⟩ := arC_out (rd_l (.int .i64)) h
  clear h
  subst e1
  have h := hq
  clear hq
  obtain ⟨g, e1, hq⟩ := arF0_out h
  clear h
  subst e1
  have h := hq
  clear hq
  obtain ⟨hpre, h⟩ := chk_o h
  exact ⟨_, _, h, Nat.le_of_ble_eq_true (show Nat.ble 2 Tryz.f204.ntmps = true by kernel_rfl), _, run_slices_IndexFunc_int__impl_GuessOk_1 xs g hpre⟩

def pf_slices_ContainsFunc_int : PF := ⟨[.t 4], .seq (.reg [.s (.mv 4 (.k (.v (.c .ff))))]) (.seq (.reg [.s (.mv 5 (.t 0)), .s (.mv 6 (.t 1)), .s (.call (some 7) 204 [(.t 5), (.t 6)]), .s (.bin 8 .geq (.t 7) (.k (.v (.c (.int .i64 0))))), .s (.mv 4 (.t 8))]) (.ret))⟩
def c_slices_ContainsFunc_int__impl_GuessOk_1 : Fun := ⟨224, [], fun ts K => as2 ts fun t0 t1 => arC (pL (.int .i64)) t0 fun xs => arF0 225 t1 fun g => chk (xs.length ≤ 2147483647) (K (tB (xs.any (fun n => !inR n (-1) 65535))) [])⟩
theorem run_slices_ContainsFunc_int__impl_GuessOk_1 (xs : List (FT.Ty (.int .i64))) (g : Unit) (hpre : xs.length ≤ 2147483647) : runK [c_slices_IndexFunc_int__impl_GuessOk_1, c_impl_GuessOk_1] (0) [] pf_slices_ContainsFunc_int [tL false (.int .i64) xs, .fn 225 []] fun r o => r = tB (xs.any (fun n => !inR n (-1) 65535)) ∧ o = [] := by
  conv => whnf
  repeat' (first | (refine sel_i (fun h => ?_) (fun h => ?_) <;> conv => whnf) | (refine chk_c ?_ ?_ <;> conv => whnf) | (refine And.intro ?_ rfl) | (refine And.intro ?_ ?_ <;> conv => whnf))
  all_goals first | (refine ⟨?_⟩; exact hpre) | exact hpre | (rw [← idxOf_any]; rfl) | (rw [← idxOf_any])
theorem ok_slices_ContainsFunc_int__impl_GuessOk_1 : FunOk Tryz.prog c_slices_ContainsFunc_int__impl_GuessOk_1 := funOk (E := [c_slices_IndexFunc_int__impl_GuessOk_1, c_impl_GuessOk_1]) (envOk_cons ok_slices_IndexFunc_int__impl_GuessOk_1 (envOk_cons ok_impl_GuessOk_1 (envOk_nil))) mixd Tryz.func224 (pf := pf_slices_ContainsFunc_int) (by kernel_rfl) fun ts K h => by
  obtain ⟨t0, t1, e0, h⟩ := as2_out h
  subst e0
  obtain ⟨xs, e1, hq⟩ := arC_out (rd_l (.int .i64)) h
  clear h
  subst e1
  have h := hq
  clear hq
  obtain ⟨g, e1, hq⟩ := arF0_out h
  clear h
  subst e1
  have h := hq
  clear hq
  obtain ⟨hpre, h⟩ := chk_o h
  exact ⟨_, _, h, Nat.le_of_ble_eq_true (show Nat.ble 2 Tryz.f224.ntmps = true by kernel_rfl), _, run_slices_ContainsFunc_int__impl_GuessOk_1 xs g hpre⟩

theorem eqLen48 (n : Nat) : ((n : Int) == 48) = decide (n = 48) := eqLen n 48

def pf_impl_GuessOk : PF := ⟨[.t 2], .seq (.reg [.s (.mv 2 (.k (.v (.c .ff))))]) (.seq (.reg [.s (.mv 3 (.t 0)), .s (.len 4 false (.t 3)), .s (.bin 5 .eql (.t 4) (.k (.v (.c (.int .i64 48))))), .s (.mv 6 (.t 5)), .g 6 true (some 7) (.mv 7 (.t 0)), .g 6 true (some 8) (.call (some 8) 224 [(.t 7), (.k (.fn 225 []))]), .g 6 true (some 9) (.bnot 9 (.t 8)), .s (.pick 10 (.t 6) (.t 9) (.k (.v (.c .ff)))), .s (.mv 2 (.t 10))]) (.ret))⟩
def c_impl_GuessOk : Fun := ⟨186, [], fun ts K => as1 ts fun t0 => arC (pL (.int .i64)) t0 fun g => chk (g.length ≤ 2147483647) (K (tB (guessOk g)) [])⟩
theorem run_impl_GuessOk (g : List (FT.Ty (.int .i64))) (hpre : g.length ≤ 2147483647) : runK [c_slices_ContainsFunc_int__impl_GuessOk_1, c_impl_GuessOk_1] (0) [] pf_impl_GuessOk [tL false (.int .i64) g] fun r o => r = tB (guessOk g) ∧ o = [] := by
  conv => whnf
  repeat' (first | (refine sel_i (fun h => ?_) (fun h => ?_) <;> conv => whnf) | (refine chk_c ?_ ?_ <;> conv => whnf) | (refine And.intro ?_ rfl) | (refine And.intro ?_ ?_ <;> conv => whnf))
  all_goals first | (refine ⟨?_⟩; exact hpre) | (simp only [eqLen48, all_any, Bool.not_not] at *; simp_all [guessOk]; done) | trace_state
theorem ok_impl_GuessOk : FunOk Tryz.prog c_impl_GuessOk := funOk (E := [c_slices_ContainsFunc_int__impl_GuessOk_1, c_impl_GuessOk_1]) (envOk_cons ok_slices_ContainsFunc_int__impl_GuessOk_1 (envOk_cons ok_impl_GuessOk_1 (envOk_nil))) mixd Tryz.func186 (pf := pf_impl_GuessOk) (by kernel_rfl) fun ts K h => by
  obtain ⟨t0, e0, h⟩ := as1_out h
  subst e0
  obtain ⟨g, e1, hq⟩ := arC_out (rd_l (.int .i64)) h
  clear h
  subst e1
  have h := hq
  clear hq
  obtain ⟨hpre, h⟩ := chk_o h
  exact ⟨_, _, h, Nat.le_of_ble_eq_true (show Nat.ble 1 Tryz.f186.ntmps = true by kernel_rfl), _, run_impl_GuessOk g hpre⟩

def lb_spec_GuessOk_0 : PC := .seq (.seq (.reg [.s (.mv 4 (.t 3)), .s (.mv 5 (.t 0)), .s (.len 6 false (.t 5)), .s (.bin 7 .lss (.t 4) (.t 6))]) (.cond (.t 7) (.skip) (.exit 0))) (.seq (.blk 1 (.seq (.reg [.s (.mv 10 (.t 0)), .s (.mv 11 (.t 3)), .s (.ia 12 (.int .i64) (.t 10) (.t 11)), .s (.load 13 false 1 (.t 12)), .s (.call (some 14) 77 [(.t 13), (.k (.v (.c (.int .i64 (-1))))), (.k (.v (.c (.int .i64 65535))))]), .s (.bnot 15 (.t 14))]) (.cond (.t 15) (.seq (.reg [.s (.mv 2 (.k (.v (.c .ff))))]) (.ret)) (.skip)))) (.reg [.s (.mv 8 (.t 3)), .s (.bin 9 .add (.t 8) (.k (.v (.c (.int .i64 1))))), .s (.mv 3 (.t 9))]))
def pf_spec_GuessOk : PF := ⟨[.t 2], .seq (.reg [.s (.mv 2 (.k (.v (.c .ff))))]) (.seq (.seq (.reg [.s (.mv 3 (.k (.v (.c (.int .i64 0)))))]) (.blk 0 (.loop [0, 3] lb_spec_GuessOk_0))) (.seq (.reg [.s (.mv 16 (.t 0)), .s (.len 17 false (.t 16)), .s (.bin 18 .eql (.t 17) (.k (.v (.c (.int .i64 48))))), .s (.mv 2 (.t 18))]) (.ret)))⟩
def c_spec_GuessOk : Fun := ⟨195, [], fun ts K => as1 ts fun t0 => arC (pL (.int .i64)) t0 fun g => chk (g.length ≤ 2147483647) (K (tB (guessOk g)) [])⟩
theorem run_spec_GuessOk (g : List (FT.Ty (.int .i64))) (hpre : g.length ≤ 2147483647) : runK [c_spec_l1In] (g.length + 1) [] pf_spec_GuessOk [tL false (.int .i64) g] fun r o => r = tB (guessOk g) ∧ o = [] := by
  conv => whnf
  refine loop (α := Nat) (fun i => ⟨[(0, .v (.c (.sl false (.int .i64) 0))), (3, .v (.c (.int .i64 (i : Int))))], [(0, some (.flat false (.int .i64) none g))], nums.tail, [], false, []⟩)
      (fun i => i ≤ g.length ∧ (g.drop i).all (fun n => inR n (-1) 65535) = g.all (fun n => inR n (-1) 65535)) (fun i => g.length - i) (fun i R hI hR => ?_) 0 _ ⟨by simp, by simp⟩ (by omega)
  obtain ⟨hi, hx⟩ := hI
  have w3 : IntKind.i64.wrap ((i : Int) + 1) = ((i + 1 : Nat) : Int) := by rw [wrap_id (by omega) (by omega)]; rfl
  conv => whnf
  repeat' (first | (refine sel_i (fun h => ?_) (fun h => ?_) <;> conv => whnf) | (refine chk_c ?_ ?_ <;> conv => whnf) | (refine And.intro ?_ rfl) | (refine And.intro ?_ ?_ <;> conv => whnf))
  all_goals (simp only [w3, eqLen48, Int.toNat_natCast, Bool.not_eq_true', Bool.not_eq_false', decide_eq_true_eq, decide_eq_false_iff_not] at *)
  all_goals first
    | (refine ⟨?_⟩; omega)
    | (unfold guessOk; rw [all_no (z := FT.zero (.int .i64)) (by omega) (by assumption) hx, Bool.and_false]; done)
    | (exact hR (i + 1) ⟨by omega, all_yes (z := FT.zero (.int .i64)) (by omega) (by assumption) hx⟩ (by omega))
    | (unfold guessOk; rw [all_end (by omega) hx, Bool.and_true]; done)
    | trace_state
theorem ok_spec_GuessOk : FunOk Tryz.prog c_spec_GuessOk := funOk (E := [c_spec_l1In]) (envOk_cons ok_spec_l1In (envOk_nil)) mixd Tryz.func195 (pf := pf_spec_GuessOk) (by kernel_rfl) fun ts K h => by
  obtain ⟨t0, e0, h⟩ := as1_out h
  subst e0
  obtain ⟨g, e1, hq⟩ := arC_out (rd_l (.int .i64)) h
  clear h
  subst e1
  have h := hq
  clear hq
  obtain ⟨hpre, h⟩ := chk_o h
  exact ⟨_, _, h, Nat.le_of_ble_eq_true (show Nat.ble 1 Tryz.f195.ntmps = true by kernel_rfl), _, run_spec_GuessOk g hpre⟩

theorem u64_id {n : Int} (h : 0 ≤ n ∧ n ≤ 2147483647) : IntKind.u64.wrap n = n := by
  have := IntKind.wrap_u64 n
  rw [this]; omega
theorem and32 {b : Int} (h0 : 0 ≤ b) (h1 : b ≤ 2147483647) : IntKind.u64.wrap ((BitVec.ofInt IntKind.u64.bits b &&& BitVec.ofInt IntKind.u64.bits 4294967295).toNat : Int) = b := by
  obtain ⟨m, rfl⟩ := Int.eq_ofNat_of_zero_le h0
  have e : (BitVec.ofInt IntKind.u64.bits (m : Int) &&& BitVec.ofInt IntKind.u64.bits 4294967295).toNat = m := by
    rw [BitVec.toNat_and, BitVec.ofInt_natCast, BitVec.toNat_ofNat]
    have e2 : (BitVec.ofInt IntKind.u64.bits 4294967295).toNat = 2 ^ 32 - 1 := by decide
    rw [e2, Nat.and_two_pow_sub_one_eq_mod, Nat.mod_eq_of_lt (a := m) (by show _ < 2 ^ 64; omega), Nat.mod_eq_of_lt (by omega)]
  rw [e]
  exact u64_id ⟨by omega, by omega⟩
theorem shr32 {b : Int} (h0 : 0 ≤ b) (h1 : b ≤ 2147483647) : b.fdiv (2 ^ min (Int.toNat 32) IntKind.u64.bits) = 0 := by
  have e : min (Int.toNat 32) IntKind.u64.bits = 32 := by decide
  rw [e, Int.fdiv_eq_ediv_of_nonneg _ (by decide)]
  omega

def pf_bits_Mul64 : PF := ⟨[.t 4, .t 5], .seq (.reg [.s (.mv 4 (.k (.v (.c (.int .u64 0))))), .s (.mv 5 (.k (.v (.c (.int .u64 0)))))]) (.seq (.reg [.s (.mv 14 (.t 0)), .s (.bin 15 .and (.t 14) (.k (.v (.c (.int .u64 4294967295))))), .s (.mv 6 (.t 15))]) (.seq (.reg [.s (.mv 16 (.t 0)), .s (.bin 17 .shr (.t 16) (.k (.v (.c (.int .u64 32))))), .s (.mv 7 (.t 17))]) (.seq (.reg [.s (.mv 18 (.t 1)), .s (.bin 19 .and (.t 18) (.k (.v (.c (.int .u64 4294967295))))), .s (.mv 8 (.t 19))]) (.seq (.reg [.s (.mv 20 (.t 1)), .s (.bin 21 .shr (.t 20) (.k (.v (.c (.int .u64 32))))), .s (.mv 9 (.t 21))]) (.seq (.reg [.s (.mv 22 (.t 6)), .s (.mv 23 (.t 8)), .s (.bin 24 .mul (.t 22) (.t 23)), .s (.mv 10 (.t 24))]) (.seq (.reg [.s (.mv 25 (.t 7)), .s (.mv 26 (.t 8)), .s (.bin 27 .mul (.t 25) (.t 26)), .s (.mv 28 (.t 10)), .s (.bin 29 .shr (.t 28) (.k (.v (.c (.int .u64 32))))), .s (.bin 30 .add (.t 27) (.t 29)), .s (.mv 11 (.t 30))]) (.seq (.reg [.s (.mv 31 (.t 11)), .s (.bin 32 .and (.t 31) (.k (.v (.c (.int .u64 4294967295))))), .s (.mv 12 (.t 32))]) (.seq (.reg [.s (.mv 33 (.t 11)), .s (.bin 34 .shr (.t 33) (.k (.v (.c (.int .u64 32))))), .s (.mv 13 (.t 34))]) (.seq (.reg [.s (.mv 35 (.t 12)), .s (.mv 36 (.t 6)), .s (.mv 37 (.t 9)), .s (.bin 38 .mul (.t 36) (.t 37)), .s (.bin 39 .add (.t 35) (.t 38)), .s (.mv 12 (.t 39))]) (.seq (.reg [.s (.mv 40 (.t 7)), .s (.mv 41 (.t 9)), .s (.bin 42 .mul (.t 40) (.t 41)), .s (.mv 43 (.t 13)), .s (.bin 44 .add (.t 42) (.t 43)), .s (.mv 45 (.t 12)), .s (.bin 46 .shr (.t 45) (.k (.v (.c (.int .u64 32))))), .s (.bin 47 .add (.t 44) (.t 46)), .s (.mv 4 (.t 47))]) (.seq (.reg [.s (.mv 48 (.t 0)), .s (.mv 49 (.t 1)), .s (.bin 50 .mul (.t 48) (.t 49)), .s (.mv 5 (.t 50))]) (.ret))))))))))))⟩
def c_bits_Mul64 : Fun := ⟨257, [], fun ts K => as2 ts fun t0 t1 => arC (pI .u64) t0 fun a => arC (pI .u64) t1 fun b => chk (a = 1 ∧ 0 ≤ b ∧ b ≤ 2147483647) (K (.tup [.c (.int .u64 0), .c (.int .u64 b)]) [])⟩
theorem run_bits_Mul64 (a : Int) (b : Int) (hpre : a = 1 ∧ 0 ≤ b ∧ b ≤ 2147483647) : runK [] (0) [] pf_bits_Mul64 [tI .u64 a, tI .u64 b] fun r o => r = .tup [.c (.int .u64 0), .c (.int .u64 b)] ∧ o = [] := by
  obtain ⟨rfl, h0, h1⟩ := hpre
  have e1 := and32 (b := 1) (by decide) (by decide)
  have e2 := and32 h0 h1
  have e3 := shr32 (b := 1) (by decide) (by decide)
  have e4 := shr32 h0 h1
  have e5 := u64_id ⟨h0, h1⟩
  have e6 := u64_id (n := 0) (by decide)
  have e7 := shr32 (b := 0) (by decide) (by decide)
  have e8 := and32 (b := 0) (by decide) (by decide)
  conv => whnf
  repeat' (first | (refine sel_i (fun h => ?_) (fun h => ?_) <;> conv => whnf) | (refine chk_c ?_ ?_ <;> conv => whnf) | (refine And.intro ?_ rfl) | (refine And.intro ?_ ?_ <;> conv => whnf))
  all_goals first
    | (refine ⟨?_⟩; decide)
    | (simp only [e1, e2, e3, e4, e5, e6, e7, e8, Int.one_mul, Int.zero_mul, Int.mul_zero, Int.add_zero]; done)
    | trace_state
theorem ok_bits_Mul64 : FunOk Tryz.prog c_bits_Mul64 := funOk (E := []) (envOk_nil) mixd Tryz.func257 (pf := pf_bits_Mul64) (by kernel_rfl) fun ts K h => by
  obtain ⟨t0, t1, e0, h⟩ := as2_out h
  subst e0
  obtain ⟨a, e1, hq⟩ := arC_out (rd_int .u64) h
  clear h
  subst e1
  have h := hq
  clear hq
  obtain ⟨b, e1, hq⟩ := arC_out (rd_int .u64) h
  clear h
  subst e1
  have h := hq
  clear hq
  obtain ⟨hpre, h⟩ := chk_o h
  exact ⟨_, _, h, Nat.le_of_ble_eq_true (show Nat.ble 2 Tryz.f257.ntmps = true by kernel_rfl), _, run_bits_Mul64 a b hpre⟩

def pf_bits_Mul : PF := ⟨[.t 4, .t 5], .seq (.reg [.s (.mv 4 (.k (.v (.c (.int .u64 0))))), .s (.mv 5 (.k (.v (.c (.int .u64 0)))))]) (.seq (.cond (.k (.v (.c .ff))) (.seq (.reg [.s (.mv 11 (.t 0)), .s (.conv 12 .u32 (.t 11)), .s (.mv 13 (.t 1)), .s (.conv 14 .u32 (.t 13)), .s (.call (some 15) 256 [(.t 12), (.t 14)]), .s (.mv 10 (.t 15)), .s (.ext 16 (.t 10) 0), .s (.ext 17 (.t 10) 1), .s (.mv 6 (.t 16)), .s (.mv 7 (.t 17))]) (.seq (.reg [.s (.mv 18 (.t 6)), .s (.conv 19 .u64 (.t 18)), .s (.mv 20 (.t 7)), .s (.conv 21 .u64 (.t 20)), .s (.mv 4 (.t 19)), .s (.mv 5 (.t 21))]) (.ret))) (.skip)) (.seq (.reg [.s (.mv 23 (.t 0)), .s (.mv 24 (.t 1)), .s (.call (some 25) 257 [(.t 23), (.t 24)]), .s (.mv 22 (.t 25)), .s (.ext 26 (.t 22) 0), .s (.ext 27 (.t 22) 1), .s (.mv 8 (.t 26)), .s (.mv 9 (.t 27))]) (.seq (.reg [.s (.mv 28 (.t 8)), .s (.mv 29 (.t 9)), .s (.mv 4 (.t 28)), .s (.mv 5 (.t 29))]) (.ret))))⟩
def c_bits_Mul : Fun := ⟨222, [], fun ts K => as2 ts fun t0 t1 => arC (pI .u64) t0 fun a => arC (pI .u64) t1 fun b => chk (a = 1 ∧ 0 ≤ b ∧ b ≤ 2147483647) (K (.tup [.c (.int .u64 0), .c (.int .u64 b)]) [])⟩
theorem run_bits_Mul (a : Int) (b : Int) (hpre : a = 1 ∧ 0 ≤ b ∧ b ≤ 2147483647) : runK [c_bits_Mul64] (0) [] pf_bits_Mul [tI .u64 a, tI .u64 b] fun r o => r = .tup [.c (.int .u64 0), .c (.int .u64 b)] ∧ o = [] := by
  conv => whnf
  repeat' (first | (refine sel_i (fun h => ?_) (fun h => ?_) <;> conv => whnf) | (refine chk_c ?_ ?_ <;> conv => whnf) | (refine And.intro ?_ rfl) | (refine And.intro ?_ ?_ <;> conv => whnf))
  all_goals first
    | (refine ⟨?_⟩; exact hpre)
    | rfl
    | trace_state
theorem ok_bits_Mul : FunOk Tryz.prog c_bits_Mul := funOk (E := [c_bits_Mul64]) (envOk_cons ok_bits_Mul64 (envOk_nil)) mixd Tryz.func222 (pf := pf_bits_Mul) (by kernel_rfl) fun ts K h => by
  obtain ⟨t0, t1, e0, h⟩ := as2_out h
  subst e0
  obtain ⟨a, e1, hq⟩ := arC_out (rd_int .u64) h
  clear h
  subst e1
  have h := hq
  clear hq
  obtain ⟨b, e1, hq⟩ := arC_out (rd_int .u64) h
  clear h
  subst e1
  have h := hq
  clear hq
  obtain ⟨hpre, h⟩ := chk_o h
  exact ⟨_, _, h, Nat.le_of_ble_eq_true (show Nat.ble 2 Tryz.f222.ntmps = true by kernel_rfl), _, run_bits_Mul a b hpre⟩

def repS (v : Int) (n k : Nat) : List Int := List.replicate k v ++ List.replicate (n - k) (FT.zero (.int .i64))
theorem repS_len (v : Int) {n k : Nat} (h : k ≤ n) : (repS v n k).length = n := by simp [repS]; omega
theorem repS_0 {x : List Int} (hx : x.length = 1) (n : Nat) : over (List.replicate n (FT.zero (.int .i64))) 0 (x.take n) = repS (x.getD 0 (FT.zero (.int .i64))) n (min 1 n) := by
  obtain ⟨v, rfl⟩ := List.length_eq_one_iff.1 hx
  cases n with
  | zero => rfl
  | succ n =>
    have e : min 1 (n + 1) = 1 := by omega
    rw [e]
    simp [over, repS]
theorem repS_win (v : Int) {n k : Nat} (h : k ≤ n) : win (repS v n k) 0 k = List.replicate k v := by
  unfold win repS
  rw [List.drop_zero, List.take_append_of_le_length (by simp), List.take_of_length_le (by simp)]
theorem repS_step (v : Int) {n k : Nat} (h : k ≤ n) : over (repS v n k) k ((List.replicate k v).take (n - k)) = repS v n (k + min k (n - k)) := by
  unfold over
  have e1 : (repS v n k).take k = List.replicate k v := by
    unfold repS; rw [List.take_append_of_le_length (by simp), List.take_of_length_le (by simp)]
  have e2 : (List.replicate k v).take (n - k) = List.replicate (min k (n - k)) v := by rw [List.take_replicate, Nat.min_comm]
  rw [e1, e2, List.length_replicate]
  unfold repS
  rw [List.drop_append, List.drop_replicate, List.drop_replicate, List.length_replicate]
  have e3 : k - (k + min k (n - k)) = 0 := by omega
  have e4 : n - k - (k + min k (n - k) - k) = n - (k + min k (n - k)) := by omega
  rw [e3, e4, List.replicate_zero, List.nil_append, ← List.replicate_append_replicate, List.append_assoc]

def lb_slices_Repeat_int_0 : PC := .seq (.seq (.reg [.s (.mv 34 (.t 8)), .s (.mv 35 (.t 7)), .s (.len 36 false (.t 35)), .s (.bin 37 .lss (.t 34) (.t 36))]) (.cond (.t 37) (.skip) (.exit 0))) (.blk 1 (.rgd [] [.s (.mv 38 (.t 8)), .s (.mv 39 (.t 7)), .s (.mv 40 (.t 8)), .s (.slc 41 (.int .i64) (.t 39) (some (.t 40)) none), .s (.mv 42 (.t 7)), .s (.mv 43 (.t 8)), .s (.slc 44 (.int .i64) (.t 42) none (some (.t 43))), .s (.cpy (some 45) (.int .i64) (.t 41) (.t 44)), .s (.bin 46 .add (.t 38) (.t 45)), .s (.mv 8 (.t 46))] (.tk 0 (.tk 1 (.tk 2 (.tk 4 (.tk 5 (.alt 3 false (.one 6 true (.one 7 true (.tk 8 (.tk 9 (.done (some [7, 8])))))) (.alt 6 false (.one 3 true (.one 7 true (.tk 8 (.tk 9 (.done (some [7, 8])))))) (.nil))))))))))
def pf_slices_Repeat_int : PF := ⟨[.t 4], .seq (.reg [.s (.mv 4 (.k (.v (.c (.nils (.int .i64))))))]) (.seq (.seq (.reg [.s (.mv 9 (.t 1)), .s (.bin 10 .lss (.t 9) (.k (.v (.c (.int .i64 0)))))]) (.cond (.t 10) (.reg [.s (.no), .s (.no)]) (.skip))) (.seq (.reg [.s (.mv 13 (.t 0)), .s (.len 14 false (.t 13)), .s (.conv 15 .u64 (.t 14)), .s (.mv 16 (.t 1)), .s (.conv 17 .u64 (.t 16)), .s (.call (some 18) 222 [(.t 15), (.t 17)]), .s (.mv 12 (.t 18)), .s (.ext 19 (.t 12) 0), .s (.ext 20 (.t 12) 1), .s (.mv 5 (.t 19)), .s (.mv 6 (.t 20))]) (.seq (.seq (.reg [.s (.mv 21 (.t 5)), .s (.bin 22 .gtr (.t 21) (.k (.v (.c (.int .u64 0))))), .s (.mv 23 (.t 22)), .g 23 false (some 24) (.mv 24 (.t 6)), .g 23 false (some 25) (.bin 25 .gtr (.t 24) (.k (.v (.c (.int .u64 9223372036854775807))))), .s (.pick 26 (.t 23) (.k (.v (.c .tt))) (.t 25))]) (.cond (.t 26) (.reg [.s (.no), .s (.no)]) (.skip))) (.seq (.reg [.s (.mv 28 (.t 6)), .s (.conv 29 .i64 (.t 28)), .s (.mkS 30 (.int .i64) (.t 29)), .s (.mv 7 (.t 30))]) (.seq (.reg [.s (.mv 31 (.t 7)), .s (.mv 32 (.t 0)), .s (.cpy (some 33) (.int .i64) (.t 31) (.t 32)), .s (.mv 8 (.t 33))]) (.seq (.blk 0 (.loop [7, 8] lb_slices_Repeat_int_0)) (.seq (.reg [.s (.mv 47 (.t 7)), .s (.mv 4 (.t 47))]) (.ret))))))))⟩
def c_slices_Repeat_int : Fun := ⟨182, [], fun ts K => as2 ts fun t0 t1 => arC (pL (.int .i64)) t0 fun x => arC (pI .i64) t1 fun n => chk (x.length = 1 ∧ 0 ≤ n ∧ n ≤ 2147483647) (K (tL true (.int .i64) (List.replicate n.toNat (x.getD 0 (FT.zero (.int .i64))))) [])⟩
theorem run_slices_Repeat_int (x : List (FT.Ty (.int .i64))) (n : Int) (hpre : x.length = 1 ∧ 0 ≤ n ∧ n ≤ 2147483647) : runK [c_bits_Mul] (n.toNat + 1) [] pf_slices_Repeat_int [tL false (.int .i64) x, tI .i64 n] fun r o => r = tL true (.int .i64) (List.replicate n.toNat (x.getD 0 (FT.zero (.int .i64)))) ∧ o = [] := by
  obtain ⟨hx, h0, h1⟩ := hpre
  have w1 : IntKind.u64.wrap (x.length : Int) = 1 := by rw [hx]; decide
  have w2 : IntKind.u64.wrap n = n := u64_id ⟨h0, h1⟩
  have w3 : IntKind.i64.wrap n = n := wrap_id (by omega) (by omega)
  have e0 := repS_0 hx n.toNat
  conv => whnf
  repeat' (first | (refine sel_i (fun h => ?_) (fun h => ?_) <;> conv => whnf) | (refine chk_c ?_ ?_ <;> conv => whnf) | (refine And.intro ?_ rfl) | (refine And.intro ?_ ?_ <;> conv => whnf))
  all_goals (simp only [w1, w2, w3, decide_eq_true_eq, decide_eq_false_iff_not, List.length_replicate, hx, e0] at *)
  all_goals first
    | omega
    | (refine ⟨?_⟩; omega)
    | skip
  generalize x.getD 0 (FT.zero (.int .i64)) = v
  refine loop (α := Nat) (fun k => ⟨[(7, .v (.c (.sl true (.int .i64) 0))), (8, .v (.c (.int .i64 (k : Int))))], [(0, some (.flat true (.int .i64) none (repS v n.toNat k)))], nums.tail, [], false, []⟩)
    (fun k => k ≤ n.toNat ∧ (k = 0 → n = 0)) (fun k => n.toNat - k) (fun k R hI hR => ?_) (min 1 n.toNat) _ ⟨by omega, by omega⟩ (by omega)
  obtain ⟨hk, hk0⟩ := hI
  have hl := repS_len v hk
  have hw := repS_win v hk
  have hs := repS_step v hk
  have g1 : ((n.toNat : Int) - k).toNat = n.toNat - k := by omega
  have g2 : min k (n.toNat - k) + k ≤ n.toNat := by omega
  conv => whnf
  repeat' (first | (refine sel_i (fun h => ?_) (fun h => ?_) <;> conv => whnf) | (refine chk_c ?_ ?_ <;> conv => whnf) | (refine And.intro ?_ rfl) | (refine And.intro ?_ ?_ <;> conv => whnf))
  all_goals (simp only [hl, Int.toNat_natCast, hw, g1, Nat.zero_add, List.length_replicate, hs, decide_eq_true_eq, decide_eq_false_iff_not] at *)
  all_goals first
    | trivial
    | (refine ⟨?_⟩; omega)
    | (rw [show k = n.toNat by omega]; unfold repS; simp; done)
    | (rw [wrap_id (n := (k : Int) + (min k (n.toNat - k) : Nat)) (by omega) (by omega)]
       exact hR (k + min k (n.toNat - k)) ⟨by omega, by omega⟩ (by omega))
    | trace_state
theorem ok_slices_Repeat_int : FunOk Tryz.prog c_slices_Repeat_int := funOk (E := [c_bits_Mul]) (envOk_cons ok_bits_Mul (envOk_nil)) mixd Tryz.func182 (pf := pf_slices_Repeat_int) (by kernel_rfl) fun ts K h => by
  obtain ⟨t0, t1, e0, h⟩ := as2_out h
  subst e0
  obtain ⟨x, e1, hq⟩ := arC_out (rd_l (.int .i64)) h
  clear h
  subst e1
  have h := hq
  clear hq
  obtain ⟨n, e1, hq⟩ := arC_out (rd_int .i64) h
  clear h
  subst e1
  have h := hq
  clear hq
  obtain ⟨hpre, h⟩ := chk_o h
  exact ⟨_, _, h, Nat.le_of_ble_eq_true (show Nat.ble 2 Tryz.f182.ntmps = true by kernel_rfl), _, run_slices_Repeat_int x n hpre⟩

def pf_impl_GuessNew : PF := ⟨[.t 0], .seq (.reg [.s (.mv 0 (.k (.v (.c (.nils (.int .i64))))))]) (.seq (.reg [.s (.bs 1 (.int .i64) [(.k (.v (.c (.int .i64 (-1)))))]), .s (.call (some 2) 182 [(.t 1), (.k (.v (.c (.int .i64 48))))]), .s (.mv 0 (.t 2))]) (.ret))⟩
def c_impl_GuessNew : Fun := ⟨132, [], fun ts K => as0 ts (K (tL true (.int .i64) guessNew) [])⟩
theorem run_impl_GuessNew  : runK [c_slices_Repeat_int] (0) [] pf_impl_GuessNew [] fun r o => r = tL true (.int .i64) guessNew ∧ o = [] := by
  conv => whnf
  repeat' (first | (refine sel_i (fun h => ?_) (fun h => ?_) <;> conv => whnf) | (refine chk_c ?_ ?_ <;> conv => whnf) | (refine And.intro ?_ rfl) | (refine And.intro ?_ ?_ <;> conv => whnf))
  all_goals first
    | (refine ⟨?_⟩; decide)
    | rfl
    | trace_state
theorem ok_impl_GuessNew : FunOk Tryz.prog c_impl_GuessNew := funOk (E := [c_slices_Repeat_int]) (envOk_cons ok_slices_Repeat_int (envOk_nil)) mixd Tryz.func132 (pf := pf_impl_GuessNew) (by kernel_rfl) fun ts K h => by
  obtain ⟨e0, h⟩ := as0_out h
  subst e0
  exact ⟨_, _, h, Nat.le_of_ble_eq_true (show Nat.ble 0 Tryz.f132.ntmps = true by kernel_rfl), _, run_impl_GuessNew ⟩

def lb_spec_GuessNew_0 : PC := .seq (.seq (.reg [.s (.mv 4 (.t 2)), .s (.bin 5 .lss (.t 4) (.k (.v (.c (.int .i64 48)))))]) (.cond (.t 5) (.skip) (.exit 0))) (.seq (.blk 1 (.reg [.s (.mv 8 (.t 1)), .s (.bs 9 (.int .i64) [(.k (.v (.c (.int .i64 (-1)))))]), .s (.app 10 (.int .i64) (.t 8) (.t 9)), .s (.mv 1 (.t 10))])) (.reg [.s (.mv 6 (.t 2)), .s (.bin 7 .add (.t 6) (.k (.v (.c (.int .i64 1))))), .s (.mv 2 (.t 7))]))
def pf_spec_GuessNew : PF := ⟨[.t 0], .seq (.reg [.s (.mv 0 (.k (.v (.c (.nils (.int .i64))))))]) (.seq (.reg [.s (.bs 3 (.int .i64) []), .s (.mv 1 (.t 3))]) (.seq (.seq (.reg [.s (.mv 2 (.k (.v (.c (.int .i64 0)))))]) (.blk 0 (.loop [1, 2] lb_spec_GuessNew_0))) (.seq (.reg [.s (.mv 11 (.t 1)), .s (.mv 0 (.t 11))]) (.ret))))⟩
def c_spec_GuessNew : Fun := ⟨143, [], fun ts K => as0 ts (K (tL true (.int .i64) guessNew) [])⟩
theorem run_spec_GuessNew  : runK [] (49) [] pf_spec_GuessNew [] fun r o => r = tL true (.int .i64) guessNew ∧ o = [] := by
  conv => whnf
  refine loop (α := Nat) (fun k => ⟨[(1, .v (.c (.sl true (.int .i64) 0))), (2, .v (.c (.int .i64 (k : Int))))], [(0, some (.flat true (.int .i64) none (List.replicate k (-1))))], nums.tail, [], false, []⟩)
    (fun k => k ≤ 48) (fun k => 48 - k) (fun k R hI hR => ?_) 0 _ (by omega) (by omega)
  have w3 : IntKind.i64.wrap ((k : Int) + 1) = ((k + 1 : Nat) : Int) := by rw [wrap_id (by omega) (by omega)]; rfl
  have hR := hR (k + 1)
  rw [List.replicate_succ'] at hR
  conv => whnf
  repeat' (first | (refine sel_i (fun h => ?_) (fun h => ?_) <;> conv => whnf) | (refine chk_c ?_ ?_ <;> conv => whnf) | (refine And.intro ?_ rfl) | (refine And.intro ?_ ?_ <;> conv => whnf))
  all_goals (simp only [w3, decide_eq_true_eq, decide_eq_false_iff_not] at *)
  all_goals first
    | (refine ⟨?_⟩; simp only [List.length_replicate, List.length_cons, List.length_nil]; omega)
    | exact hR (by omega) (by omega)
    | (rw [show k = 48 by omega]; rfl)
    | trace_state
theorem ok_spec_GuessNew : FunOk Tryz.prog c_spec_GuessNew := funOk (E := []) (envOk_nil) mixd Tryz.func143 (pf := pf_spec_GuessNew) (by kernel_rfl) fun ts K h => by
  obtain ⟨e0, h⟩ := as0_out h
  subst e0
  exact ⟨_, _, h, Nat.le_of_ble_eq_true (show Nat.ble 0 Tryz.f143.ntmps = true by kernel_rfl), _, run_spec_GuessNew ⟩

def pf_impl_Guess : PF := ⟨[.c 4 true 6], .seq (.reg [.s (.box 3 (.t 1)), .s (.alloc 4 [.int .i64 0, .ff, .int .i64 0, .int .i64 0, .int .i64 0, .int .i64 0])]) (.seq (.seq (.reg [.s (.fa 5 (.t 3) 0), .s (.load 6 false 1 (.t 5)), .s (.mv 7 (.t 0)), .s (.len 8 false (.t 7)), .s (.bin 9 .sub (.t 8) (.k (.v (.c (.int .i64 1))))), .s (.call (some 10) 60 [(.t 6), (.k (.v (.c (.int .i64 0)))), (.t 9)]), .s (.mv 11 (.t 10)), .g 11 true (some 12) (.mv 12 (.t 0)), .g 11 true (some 13) (.fa 13 (.t 3) 0), .g 11 true (some 14) (.load 14 false 1 (.t 13)), .g 11 true (some 15) (.ia 15 (.int .i64) (.t 12) (.t 14)), .g 11 true (some 16) (.load 16 false 1 (.t 15)), .g 11 true (some 17) (.bin 17 .neq (.t 16) (.k (.v (.c (.int .i64 (-1)))))), .s (.pick 18 (.t 11) (.t 17) (.k (.v (.c .ff))))]) (.cond (.t 18) (.seq (.rgd [] [.s (.load 19 true 6 (.t 3)), .s (.mv 20 (.t 0)), .s (.fa 21 (.t 3) 0), .s (.load 22 false 1 (.t 21)), .s (.ia 23 (.int .i64) (.t 20) (.t 22)), .s (.load 24 false 1 (.t 23)), .s (.call (some 25) 175 [(.t 19), (.t 24)]), .s (.store 6 (.t 4) (.t 25))] (.tk 0 (.tk 1 (.tk 2 (.tk 3 (.tk 4 (.tk 5 (.one 6 true (.one 7 true (.done none)))))))))) (.ret)) (.skip))) (.seq (.reg [.s (.load 26 true 6 (.t 3)), .s (.fa 27 (.t 3) 0), .s (.load 28 false 1 (.t 27)), .s (.bin 29 .add (.t 28) (.k (.v (.c (.int .i64 1))))), .s (.call (some 30) 175 [(.t 26), (.t 29)]), .s (.store 6 (.t 4) (.t 30))]) (.ret)))⟩
def c_impl_Guess : Fun := ⟨139, [], fun ts K => as2 ts fun t0 t1 => arC (pL (.int .i64)) t0 fun g => arG pWordT t1 fun pc => chk (g.length ≤ 2147483647) (K (tG ((guessW g pc).tc [])) [])⟩
theorem run_impl_Guess (g : List (FT.Ty (.int .i64))) (pc : Word) (hpre : g.length ≤ 2147483647) : runK [c_impl_in, c_impl_Point] (0) [] pf_impl_Guess [tL false (.int .i64) g, tG (pc.tc [])] fun r o => r = tG ((guessW g pc).tc []) ∧ o = [] := by
  have w1 : IntKind.i64.wrap ((g.length : Int) - 1) = (g.length : Int) - 1 := wrap_id (by omega) (by omega)
  conv => whnf
  repeat' (first | (refine sel_i (fun h => ?_) (fun h => ?_) <;> conv => whnf) | (refine chk_c ?_ ?_ <;> conv => whnf) | (refine And.intro ?_ rfl) | (refine And.intro ?_ ?_ <;> conv => whnf))
  all_goals (try simp only [w1, etaKey, etaWord] at *)
  all_goals first
    | (refine ⟨?_⟩; have hr := inR_t.1 (show inR pc.n 0 ((g.length : Int) - 1) = true by assumption); omega)
    | (rw [guessW_yes (by assumption) (by assumption)]; rfl)
    | (rw [guessW_no (by assumption)]; rfl)
    | (rw [guessW_out (by assumption)]; rfl)
    | trace_state
theorem ok_impl_Guess : FunOk Tryz.prog c_impl_Guess := funOk (E := [c_impl_in, c_impl_Point]) (envOk_cons ok_impl_in (envOk_cons ok_impl_Point (envOk_nil))) mixd Tryz.func139 (pf := pf_impl_Guess) (by kernel_rfl) fun ts K h => by
  obtain ⟨t0, t1, e0, h⟩ := as2_out h
  subst e0
  obtain ⟨g, e1, hq⟩ := arC_out (rd_l (.int .i64)) h
  clear h
  subst e1
  have h := hq
  clear hq
  obtain ⟨pc, e1, hq⟩ := arG_out rd_word h
  clear h
  subst e1
  have h := hq
  clear hq
  obtain ⟨hpre, h⟩ := chk_o h
  exact ⟨_, _, h, Nat.le_of_ble_eq_true (show Nat.ble 2 Tryz.f139.ntmps = true by kernel_rfl), _, run_impl_Guess g pc hpre⟩

def pf_spec_Guess : PF := ⟨[.c 4 true 6], .seq (.reg [.s (.box 3 (.t 1)), .s (.alloc 4 [.int .i64 0, .ff, .int .i64 0, .int .i64 0, .int .i64 0, .int .i64 0])]) (.seq (.seq (.reg [.s (.fa 5 (.t 3) 0), .s (.load 6 false 1 (.t 5)), .s (.mv 7 (.t 0)), .s (.len 8 false (.t 7)), .s (.bin 9 .sub (.t 8) (.k (.v (.c (.int .i64 1))))), .s (.call (some 10) 77 [(.t 6), (.k (.v (.c (.int .i64 0)))), (.t 9)]), .s (.mv 11 (.t 10)), .g 11 true (some 12) (.mv 12 (.t 0)), .g 11 true (some 13) (.fa 13 (.t 3) 0), .g 11 true (some 14) (.load 14 false 1 (.t 13)), .g 11 true (some 15) (.ia 15 (.int .i64) (.t 12) (.t 14)), .g 11 true (some 16) (.load 16 false 1 (.t 15)), .g 11 true (some 17) (.bin 17 .neq (.t 16) (.k (.v (.c (.int .i64 (-1)))))), .s (.pick 18 (.t 11) (.t 17) (.k (.v (.c .ff))))]) (.cond (.t 18) (.seq (.rgd [] [.s (.load 19 true 6 (.t 3)), .s (.mv 20 (.t 0)), .s (.fa 21 (.t 3) 0), .s (.load 22 false 1 (.t 21)), .s (.ia 23 (.int .i64) (.t 20) (.t 22)), .s (.load 24 false 1 (.t 23)), .s (.call (some 25) 197 [(.t 19), (.t 24)]), .s (.store 6 (.t 4) (.t 25))] (.tk 0 (.tk 1 (.tk 2 (.tk 3 (.tk 4 (.tk 5 (.one 6 true (.one 7 true (.done none)))))))))) (.ret)) (.skip))) (.seq (.reg [.s (.load 26 true 6 (.t 3)), .s (.fa 27 (.t 3) 0), .s (.load 28 false 1 (.t 27)), .s (.bin 29 .add (.t 28) (.k (.v (.c (.int .i64 1))))), .s (.call (some 30) 197 [(.t 26), (.t 29)]), .s (.store 6 (.t 4) (.t 30))]) (.ret)))⟩
def c_spec_Guess : Fun := ⟨148, [], fun ts K => as2 ts fun t0 t1 => arC (pL (.int .i64)) t0 fun g => arG pWordT t1 fun pc => chk (g.length ≤ 2147483647) (K (tG ((guessW g pc).tc [])) [])⟩
theorem run_spec_Guess (g : List (FT.Ty (.int .i64))) (pc : Word) (hpre : g.length ≤ 2147483647) : runK [c_spec_l1In, c_spec_Point] (0) [] pf_spec_Guess [tL false (.int .i64) g, tG (pc.tc [])] fun r o => r = tG ((guessW g pc).tc []) ∧ o = [] := by
  have w1 : IntKind.i64.wrap ((g.length : Int) - 1) = (g.length : Int) - 1 := wrap_id (by omega) (by omega)
  conv => whnf
  repeat' (first | (refine sel_i (fun h => ?_) (fun h => ?_) <;> conv => whnf) | (refine chk_c ?_ ?_ <;> conv => whnf) | (refine And.intro ?_ rfl) | (refine And.intro ?_ ?_ <;> conv => whnf))
  all_goals (try simp only [w1, etaKey, etaWord] at *)
  all_goals first
    | (refine ⟨?_⟩; have hr := inR_t.1 (show inR pc.n 0 ((g.length : Int) - 1) = true by assumption); omega)
    | (rw [guessW_yes (by assumption) (by assumption)]; rfl)
    | (rw [guessW_no (by assumption)]; rfl)
    | (rw [guessW_out (by assumption)]; rfl)
    | trace_state
theorem ok_spec_Guess : FunOk Tryz.prog c_spec_Guess := funOk (E := [c_spec_l1In, c_spec_Point]) (envOk_cons ok_spec_l1In (envOk_cons ok_spec_Point (envOk_nil))) mixd Tryz.func148 (pf := pf_spec_Guess) (by kernel_rfl) fun ts K h => by
  obtain ⟨t0, t1, e0, h⟩ := as2_out h
  subst e0
  obtain ⟨g, e1, hq⟩ := arC_out (rd_l (.int .i64)) h
  clear h
  subst e1
  have h := hq
  clear hq
  obtain ⟨pc, e1, hq⟩ := arG_out rd_word h
  clear h
  subst e1
  have h := hq
  clear hq
  obtain ⟨hpre, h⟩ := chk_o h
  exact ⟨_, _, h, Nat.le_of_ble_eq_true (show Nat.ble 2 Tryz.f148.ntmps = true by kernel_rfl), _, run_spec_Guess g pc hpre⟩

def pf_impl_Learn : PF := ⟨[.t 6], .seq (.reg [.s (.box 4 (.t 1)), .s (.box 5 (.t 2)), .s (.mv 6 (.k (.v (.c (.nils (.int .i64))))))]) (.seq (.reg [.s (.mv 8 (.t 0)), .s (.call (some 9) 192 [(.t 8)]), .s (.mv 7 (.t 9))]) (.seq (.seq (.reg [.s (.fa 10 (.t 4) 0), .s (.load 11 false 1 (.t 10)), .s (.mv 12 (.t 0)), .s (.len 13 false (.t 12)), .s (.bin 14 .sub (.t 13) (.k (.v (.c (.int .i64 1))))), .s (.call (some 15) 60 [(.t 11), (.k (.v (.c (.int .i64 0)))), (.t 14)])]) (.cond (.t 15) (.rgd [] [.s (.mv 16 (.t 7)), .s (.fa 17 (.t 4) 0), .s (.load 18 false 1 (.t 17)), .s (.load 19 true 6 (.t 5)), .s (.call (some 20) 212 [(.t 19)]), .s (.fld 21 (.t 20) 0 1 false), .s (.ia 22 (.int .i64) (.t 16) (.t 18)), .s (.store 1 (.t 22) (.t 21))] (.tk 0 (.tk 1 (.tk 2 (.tk 3 (.one 4 false (.tk 5 (.tk 6 (.one 7 true (.done none)))))))))) (.skip))) (.seq (.reg [.s (.mv 23 (.t 7)), .s (.mv 6 (.t 23))]) (.ret))))⟩
def c_impl_Learn : Fun := ⟨190, [], fun ts K => as3 ts fun t0 t1 t2 => arC (pL (.int .i64)) t0 fun g => arG pWordT t1 fun pc => arG pWordT t2 fun nx => chk (g.length ≤ 2147483647) (K (tL true (.int .i64) (learnG g pc nx)) [])⟩
theorem run_impl_Learn (g : List (FT.Ty (.int .i64))) (pc : Word) (nx : Word) (hpre : g.length ≤ 2147483647) : runK [c_impl_in, c_slices_Clone_int, c_impl_Bare] (0) [] pf_impl_Learn [tL false (.int .i64) g, tG (pc.tc []), tG (nx.tc [])] fun r o => r = tL true (.int .i64) (learnG g pc nx) ∧ o = [] := by
  have w1 : IntKind.i64.wrap ((g.length : Int) - 1) = (g.length : Int) - 1 := wrap_id (by omega) (by omega)
  conv => whnf
  repeat' (first | (refine sel_i (fun h => ?_) (fun h => ?_) <;> conv => whnf) | (refine chk_c ?_ ?_ <;> conv => whnf) | (refine And.intro ?_ rfl) | (refine And.intro ?_ ?_ <;> conv => whnf))
  all_goals (try simp only [w1, etaKey, etaWord] at *)
  all_goals first
    | (refine ⟨?_⟩; first | exact hpre | (have hr := inR_t.1 (show inR pc.n 0 ((g.length : Int) - 1) = true by assumption); omega))
    | (unfold learnG; simp only [*, if_true, if_false, Bool.false_eq_true]; first | done | rfl)
    | trace_state
theorem ok_impl_Learn : FunOk Tryz.prog c_impl_Learn := funOk (E := [c_impl_in, c_slices_Clone_int, c_impl_Bare]) (envOk_cons ok_impl_in (envOk_cons ok_slices_Clone_int (envOk_cons ok_impl_Bare (envOk_nil)))) mixd Tryz.func190 (pf := pf_impl_Learn) (by kernel_rfl) fun ts K h => by
  obtain ⟨t0, t1, t2, e0, h⟩ := as3_out h
  subst e0
  obtain ⟨g, e1, hq⟩ := arC_out (rd_l (.int .i64)) h
  clear h
  subst e1
  have h := hq
  clear hq
  obtain ⟨pc, e1, hq⟩ := arG_out rd_word h
  clear h
  subst e1
  have h := hq
  clear hq
  obtain ⟨nx, e1, hq⟩ := arG_out rd_word h
  clear h
  subst e1
  have h := hq
  clear hq
  obtain ⟨hpre, h⟩ := chk_o h
  exact ⟨_, _, h, Nat.le_of_ble_eq_true (show Nat.ble 3 Tryz.f190.ntmps = true by kernel_rfl), _, run_impl_Learn g pc nx hpre⟩

def pf_spec_Learn : PF := ⟨[.t 6], .seq (.reg [.s (.box 4 (.t 1)), .s (.box 5 (.t 2)), .s (.mv 6 (.k (.v (.c (.nils (.int .i64))))))]) (.seq (.reg [.s (.bs 8 (.int .i64) []), .s (.mv 9 (.t 0)), .s (.app 10 (.int .i64) (.t 8) (.t 9)), .s (.mv 7 (.t 10))]) (.seq (.seq (.reg [.s (.fa 11 (.t 4) 0), .s (.load 12 false 1 (.t 11)), .s (.mv 13 (.t 0)), .s (.len 14 false (.t 13)), .s (.bin 15 .sub (.t 14) (.k (.v (.c (.int .i64 1))))), .s (.call (some 16) 77 [(.t 12), (.k (.v (.c (.int .i64 0)))), (.t 15)])]) (.cond (.t 16) (.rgd [] [.s (.mv 17 (.t 7)), .s (.fa 18 (.t 4) 0), .s (.load 19 false 1 (.t 18)), .s (.fa 20 (.t 5) 0), .s (.load 21 false 1 (.t 20)), .s (.call (some 22) 109 [(.t 21)]), .s (.fld 23 (.t 22) 0 1 false), .s (.ia 24 (.int .i64) (.t 17) (.t 19)), .s (.store 1 (.t 24) (.t 23))] (.tk 0 (.tk 1 (.tk 2 (.tk 3 (.tk 4 (.one 5 false (.tk 6 (.tk 7 (.one 8 true (.done none))))))))))) (.skip))) (.seq (.reg [.s (.mv 25 (.t 7)), .s (.mv 6 (.t 25))]) (.ret))))⟩
def c_spec_Learn : Fun := ⟨200, [], fun ts K => as3 ts fun t0 t1 t2 => arC (pL (.int .i64)) t0 fun g => arG pWordT t1 fun pc => arG pWordT t2 fun nx => chk (g.length ≤ 2147483647) (K (tL true (.int .i64) (learnG g pc nx)) [])⟩
theorem run_spec_Learn (g : List (FT.Ty (.int .i64))) (pc : Word) (nx : Word) (hpre : g.length ≤ 2147483647) : runK [c_spec_l1In, c_spec_Plain] (0) [] pf_spec_Learn [tL false (.int .i64) g, tG (pc.tc []), tG (nx.tc [])] fun r o => r = tL true (.int .i64) (learnG g pc nx) ∧ o = [] := by
  have w1 : IntKind.i64.wrap ((g.length : Int) - 1) = (g.length : Int) - 1 := wrap_id (by omega) (by omega)
  conv => whnf
  repeat' (first | (refine sel_i (fun h => ?_) (fun h => ?_) <;> conv => whnf) | (refine chk_c ?_ ?_ <;> conv => whnf) | (refine And.intro ?_ rfl) | (refine And.intro ?_ ?_ <;> conv => whnf))
  all_goals (try simp only [w1, etaKey, etaWord, List.nil_append] at *)
  all_goals first
    | (refine ⟨?_⟩; first | exact hpre | (simp only [List.length_nil]; omega) | (have hr := inR_t.1 (show inR pc.n 0 ((g.length : Int) - 1) = true by assumption); omega))
    | (unfold learnG; simp only [*, if_true, if_false, Bool.false_eq_true]; first | done | rfl)
    | trace_state
theorem ok_spec_Learn : FunOk Tryz.prog c_spec_Learn := funOk (E := [c_spec_l1In, c_spec_Plain]) (envOk_cons ok_spec_l1In (envOk_cons ok_spec_Plain (envOk_nil))) mixd Tryz.func200 (pf := pf_spec_Learn) (by kernel_rfl) fun ts K h => by
  obtain ⟨t0, t1, t2, e0, h⟩ := as3_out h
  subst e0
  obtain ⟨g, e1, hq⟩ := arC_out (rd_l (.int .i64)) h
  clear h
  subst e1
  have h := hq
  clear hq
  obtain ⟨pc, e1, hq⟩ := arG_out rd_word h
  clear h
  subst e1
  have h := hq
  clear hq
  obtain ⟨nx, e1, hq⟩ := arG_out rd_word h
  clear h
  subst e1
  have h := hq
  clear hq
  obtain ⟨hpre, h⟩ := chk_o h
  exact ⟨_, _, h, Nat.le_of_ble_eq_true (show Nat.ble 3 Tryz.f200.ntmps = true by kernel_rfl), _, run_spec_Learn g pc nx hpre⟩
end Go.Pi
