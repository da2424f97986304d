/- Contracts of functions, each out of its run by PI. No conditions. -/
import Derived.Test.YtepkbkojgbcahaaCJ
namespace Go.Pi
open Go.Proofs
set_option linter.unusedVariables false
set_option linter.unusedSimpArgs false
set_option maxRecDepth 100000
attribute [local irreducible] iterN
def elByte (c : Int) : Int := IntKind.u8.wrap (c)
def mkByteS (n : Nat) (k : Int) : List Int := (List.range n).map (fun j : Nat => elByte (k + 1 * j))
theorem mkByteS_length (n : Nat) (k : Int) : (mkByteS n k).length = n := by simp [mkByteS]

def orI (a b : Int) : Int := IntKind.i64.wrap (BitVec.ofInt IntKind.i64.bits a ||| BitVec.ofInt IntKind.i64.bits b).toNat
theorem orI_eq (a b : Int) : IntKind.i64.wrap (BitVec.ofInt IntKind.i64.bits a ||| BitVec.ofInt IntKind.i64.bits b).toNat = orI a b := rfl
def U8s (b : List Int) : Prop := ∀ x ∈ b, 0 ≤ x ∧ x ≤ 255
theorem wfU8 {x : Int} (h : wfI .u8 x) : 0 ≤ x ∧ x ≤ 255 := by
  have h : (decide (IntKind.u8.min ≤ x) && decide (x ≤ IntKind.u8.max)) = true := h
  simp at h
  have e1 : IntKind.u8.min = 0 := rfl
  have e2 : IntKind.u8.max = 255 := rfl
  omega
theorem U8s.at {b : List Int} (h : U8s b) (i : Nat) : 0 ≤ b.getD i 0 ∧ b.getD i 0 ≤ 255 := by
  rw [List.getD_eq_getElem?_getD]
  cases e : b[i]? with
  | none => simp
  | some x => exact h x (List.mem_of_getElem? e)
theorem orI_add {x y : Int} (hx : 0 ≤ x ∧ x ≤ 255) (hy : 0 ≤ y ∧ y ≤ 255) : orI (x * 256) y = x * 256 + y := by
  obtain ⟨m, rfl⟩ := Int.eq_ofNat_of_zero_le hx.1
  obtain ⟨n, rfl⟩ := Int.eq_ofNat_of_zero_le hy.1
  have e : (m * 256 : Nat) ||| n = m * 256 + n := by
    have := Nat.two_pow_add_eq_or_of_lt (i := 8) (b := n) (by omega) m
    rw [Nat.mul_comm]; exact this.symm
  unfold orI
  rw [show ((m : Int) * 256) = ((m * 256 : Nat) : Int) by omega, BitVec.ofInt_natCast, BitVec.ofInt_natCast, BitVec.toNat_or, BitVec.toNat_ofNat, BitVec.toNat_ofNat]
  rw [Nat.mod_eq_of_lt (a := m * 256) (by show _ < 2 ^ 64; omega), Nat.mod_eq_of_lt (a := n) (by show _ < 2 ^ 64; omega), e]
  rw [wrap_id (by omega) (by omega)]; omega
theorem andI_255 {n : Int} (h : 0 ≤ n ∧ n ≤ 65535) : andI n 255 = n % 256 := by
  obtain ⟨m, rfl⟩ := Int.eq_ofNat_of_zero_le h.1
  have e : m &&& 255 = m % 256 := Nat.and_two_pow_sub_one_eq_mod m 8
  unfold andI
  rw [show (255 : Int) = ((255 : Nat) : Int) by rfl, BitVec.ofInt_natCast, BitVec.ofInt_natCast, BitVec.toNat_and, BitVec.toNat_ofNat, BitVec.toNat_ofNat]
  rw [Nat.mod_eq_of_lt (a := m) (by show _ < 2 ^ 64; omega), Nat.mod_eq_of_lt (a := 255) (by decide), e]
  rw [wrap_id (by omega) (by omega)]; omega
theorem u8_id {n : Int} (h : 0 ≤ n ∧ n ≤ 255) : IntKind.u8.wrap n = n := by
  show n % 256 = n
  omega
theorem hi8 {n : Int} (h : 0 ≤ n ∧ n ≤ 65535) : IntKind.u8.wrap (n.fdiv (2 ^ min (Int.toNat 8) IntKind.i64.bits)) = n / 256 := by
  rw [show (2 ^ min (Int.toNat 8) IntKind.i64.bits : Int) = 256 by decide, Int.fdiv_eq_ediv_of_nonneg _ (by decide), u8_id (by omega)]
theorem lo8 {n : Int} (h : 0 ≤ n ∧ n ≤ 65535) : IntKind.u8.wrap (andI n 255) = n % 256 := by
  rw [andI_255 h, u8_id (by omega)]
theorem two8 {x y : Int} (hx : 0 ≤ x ∧ x ≤ 255) (hy : 0 ≤ y ∧ y ≤ 255) : orI (IntKind.i64.wrap (IntKind.i64.wrap x * 2 ^ min (Int.toNat 8) IntKind.i64.bits)) (IntKind.i64.wrap y) = x * 256 + y := by
  rw [show (2 ^ min (Int.toNat 8) IntKind.i64.bits : Int) = 256 by decide, wrap_id (n := x) (by omega) (by omega), wrap_id (n := y) (by omega) (by omega), wrap_id (by omega) (by omega), orI_add hx hy]
def wordBytes (w : Word) : List Int :=
  if wordOk w then (if w.is then [w.n / 256, w.n % 256, 1, w.key.base / 256, w.key.base % 256, w.key.top / 256, w.key.top % 256, w.key.perms, w.key.sealed] else [w.n / 256, w.n % 256, 0]) else []
theorem wordOk_n {w : Word} (h : wordOk w = true) : 0 ≤ w.n ∧ w.n ≤ 65535 := by
  simp only [wordOk, Bool.and_eq_true] at h; simpa [inR] using h.1
theorem wordOk_key {w : Word} (h : wordOk w = true) (h2 : w.is = true) : 0 ≤ w.key.base ∧ w.key.base ≤ w.key.top ∧ w.key.top ≤ 4096 ∧ 0 ≤ w.key.perms ∧ w.key.perms ≤ 63 ∧ 0 ≤ w.key.sealed ∧ w.key.sealed ≤ 7 := by
  simp only [wordOk, h2, if_true, Bool.and_eq_true, keyOk, exact_] at h
  have := bounds_n h.2.1.1.1.1
  have h3 := h.2.1.2
  have h4 := h.2.2
  simp [inR] at h3 h4
  omega
theorem zu8 : FT.zero (.int .u8) = (0 : Int) := rfl
theorem win_at {b : List Int} {o n i : Nat} (h : i < n) : (win b o n).getD i 0 = b.getD (o + i) 0 := by
  simp [win, List.getD_eq_getElem?_getD, List.getElem?_take, h]
theorem win_len {α : Type} {b : List α} {o n : Nat} (h : o + n ≤ b.length) : (win b o n).length = n := by
  simp [win]; omega
theorem U8s.win {b : List Int} (h : U8s b) (o n : Nat) : U8s (win b o n) := fun x hx => h x (List.mem_of_mem_drop (List.mem_of_mem_take hx))
theorem tn (n : Nat) : Int.toNat (OfNat.ofNat n) = n := rfl
theorem tn2 : Int.toNat 2 = 2 := rfl
theorem tn3 : Int.toNat 3 = 3 := rfl
theorem tn5 : Int.toNat 5 = 5 := rfl
theorem tn7 : Int.toNat 7 = 7 := rfl
theorem tn8 : Int.toNat 8 = 8 := rfl

def wordAt (b : List Int) (i : Nat) : Word := ⟨b.getD i 0 * 256 + b.getD (i + 1) 0, true, ⟨b.getD (i + 3) 0 * 256 + b.getD (i + 4) 0, b.getD (i + 5) 0 * 256 + b.getD (i + 6) 0, b.getD (i + 7) 0, b.getD (i + 8) 0⟩⟩
def wordOf (b : List Int) (a : Int) : Option (Word × Int) :=
  if inR a 0 (b.length - 3) then
    (if b.getD (a.toNat + 2) 0 = 0 then some (⟨b.getD a.toNat 0 * 256 + b.getD (a.toNat + 1) 0, false, ⟨0, 0, 0, 0⟩⟩, a + 3)
     else if b.getD (a.toNat + 2) 0 = 1 ∧ a + 9 ≤ b.length ∧ wordOk (wordAt b a.toNat) = true then some (wordAt b a.toNat, a + 9) else none)
  else none
def wordOfT (o : Option (Word × Int)) : Tree := .tup [.g ((o.getD (⟨0, false, ⟨0, 0, 0, 0⟩⟩, 0)).1.tc []), .c (.int .i64 (o.getD (⟨0, false, ⟨0, 0, 0, 0⟩⟩, 0)).2), .c (.bool o.isSome)]
theorem wordOf_out {b : List Int} {a : Int} (h : inR a 0 (b.length - 3) = false) : wordOf b a = none := by simp [wordOf, h]
theorem wordOf_plain {b : List Int} {a : Int} (h : inR a 0 (b.length - 3) = true) (h2 : b.getD (a.toNat + 2) 0 = 0) : wordOf b a = some (⟨b.getD a.toNat 0 * 256 + b.getD (a.toNat + 1) 0, false, ⟨0, 0, 0, 0⟩⟩, a + 3) := by simp only [wordOf, h, h2, if_true]
theorem wordOf_key {b : List Int} {a : Int} (h : inR a 0 (b.length - 3) = true) (h2 : b.getD (a.toNat + 2) 0 = 1) (h3 : a + 9 ≤ b.length) (h4 : wordOk (wordAt b a.toNat) = true) : wordOf b a = some (wordAt b a.toNat, a + 9) := by
  simp only [wordOf, h, h2, h3, h4, if_true]; rfl
theorem wordOf_no {b : List Int} {a : Int} (h2 : b.getD (a.toNat + 2) 0 ≠ 0) (h3 : ¬ (b.getD (a.toNat + 2) 0 = 1 ∧ a + 9 ≤ b.length ∧ wordOk (wordAt b a.toNat) = true)) : wordOf b a = none := by
  simp only [wordOf, h2, h3, if_false]; simp
theorem strI_inj {xs ys : List Int} (hx : U8s xs) (hy : U8s ys) (h : strI xs = strI ys) : xs = ys := by
  have h1 : xs.map (fun n => UInt8.ofNat n.toNat) = ys.map (fun n => UInt8.ofNat n.toNat) := by
    have := congrArg (fun s => s.data.toList) h
    simpa [strI] using this
  clear h
  induction xs generalizing ys with
  | nil => cases ys with
    | nil => rfl
    | cons y ys => simp at h1
  | cons x xs ih => cases ys with
    | nil => simp at h1
    | cons y ys =>
      simp only [List.map_cons, List.cons.injEq] at h1
      have e := ih (fun z hz => hx z (by simp [hz])) (fun z hz => hy z (by simp [hz])) h1.2
      have a1 := hx x (by simp)
      have a2 := hy y (by simp)
      have h2 := congrArg UInt8.toNat h1.1
      simp only [UInt8.toNat_ofNat'] at h2
      rw [e, show x = y by omega]
theorem beqS (a b : ByteArray) : (a == b) = decide (a = b) := by
  obtain ⟨a⟩ := a
  obtain ⟨b⟩ := b
  rw [Bool.eq_iff_iff]
  simp only [decide_eq_true_eq, ByteArray.mk.injEq]
  show (a == b) = true ↔ _
  exact beq_iff_eq
theorem strI_eq {xs ys : List Int} (hx : U8s xs) (hy : U8s ys) : (strI xs == strI ys) = decide (xs = ys) := by
  rw [beqS, Bool.eq_iff_iff]; simp only [decide_eq_true_eq]
  exact ⟨strI_inj hx hy, fun h => by rw [h]⟩
theorem wordBytes_u8 (w : Word) : U8s (wordBytes w) := by
  intro x hx
  unfold wordBytes at hx
  split at hx
  · rename_i h
    have hn := wordOk_n h
    split at hx
    · rename_i h2
      have hk := wordOk_key h h2
      simp at hx
      omega
    · simp at hx
      omega
  · cases hx
theorem win3 {b : List Int} {a : Nat} (h : a + 3 ≤ b.length) : win b a 3 = [b.getD a 0, b.getD (a + 1) 0, b.getD (a + 2) 0] := by
  apply List.ext_getElem
  · rw [win_len h]; rfl
  · intro i h1 h2
    have hi : i < 3 := by simpa using h2
    have e := win_at (b := b) (o := a) hi
    rw [List.getD_eq_getElem?_getD, List.getElem?_eq_getElem h1, Option.getD_some] at e
    rw [e]
    match i, hi with
    | 0, _ => rfl
    | 1, _ => rfl
    | 2, _ => rfl
theorem win9 {b : List Int} {a : Nat} (h : a + 9 ≤ b.length) : win b a 9 = [b.getD a 0, b.getD (a + 1) 0, b.getD (a + 2) 0, b.getD (a + 3) 0, b.getD (a + 4) 0, b.getD (a + 5) 0, b.getD (a + 6) 0, b.getD (a + 7) 0, b.getD (a + 8) 0] := by
  apply List.ext_getElem
  · rw [win_len h]; rfl
  · intro i h1 h2
    have hi : i < 9 := by simpa using h2
    have e := win_at (b := b) (o := a) hi
    rw [List.getD_eq_getElem?_getD, List.getElem?_eq_getElem h1, Option.getD_some] at e
    rw [e]
    match i, hi with
    | 0, _ => rfl
    | 1, _ => rfl
    | 2, _ => rfl
    | 3, _ => rfl
    | 4, _ => rfl
    | 5, _ => rfl
    | 6, _ => rfl
    | 7, _ => rfl
    | 8, _ => rfl
theorem wordOk_plain {b : List Int} (h : U8s b) (i j : Nat) : wordOk ⟨b.getD i 0 * 256 + b.getD j 0, false, ⟨0, 0, 0, 0⟩⟩ = true := by
  have := h.at i; have := h.at j
  generalize b.getD i 0 = x at *
  generalize b.getD j 0 = y at *
  simp [wordOk, inR]; omega
theorem wordBytes_plain {b : List Int} (h : U8s b) (i j : Nat) : wordBytes ⟨b.getD i 0 * 256 + b.getD j 0, false, ⟨0, 0, 0, 0⟩⟩ = [b.getD i 0, b.getD j 0, 0] := by
  have := h.at i; have := h.at j
  simp only [wordBytes, wordOk_plain h, if_true, Bool.false_eq_true, if_false]
  rw [show (b.getD i 0 * 256 + b.getD j 0) / 256 = b.getD i 0 by omega, show (b.getD i 0 * 256 + b.getD j 0) % 256 = b.getD j 0 by omega]
theorem wordBytes_at {b : List Int} (h : U8s b) {a : Nat} (hw : wordOk (wordAt b a) = true) : wordBytes (wordAt b a) = [b.getD a 0, b.getD (a + 1) 0, 1, b.getD (a + 3) 0, b.getD (a + 4) 0, b.getD (a + 5) 0, b.getD (a + 6) 0, b.getD (a + 7) 0, b.getD (a + 8) 0] := by
  have := h.at a; have := h.at (a + 1); have := h.at (a + 3); have := h.at (a + 4); have := h.at (a + 5); have := h.at (a + 6)
  unfold wordBytes
  rw [if_pos hw]
  simp only [wordAt, if_true]
  rw [show (b.getD a 0 * 256 + b.getD (a + 1) 0) / 256 = b.getD a 0 by omega, show (b.getD a 0 * 256 + b.getD (a + 1) 0) % 256 = b.getD (a + 1) 0 by omega,
    show (b.getD (a + 3) 0 * 256 + b.getD (a + 4) 0) / 256 = b.getD (a + 3) 0 by omega, show (b.getD (a + 3) 0 * 256 + b.getD (a + 4) 0) % 256 = b.getD (a + 4) 0 by omega,
    show (b.getD (a + 5) 0 * 256 + b.getD (a + 6) 0) / 256 = b.getD (a + 5) 0 by omega, show (b.getD (a + 5) 0 * 256 + b.getD (a + 6) 0) % 256 = b.getD (a + 6) 0 by omega]
end Go.Pi
