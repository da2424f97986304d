/- Arguments that are shown boxes, and functions with what they hold; the first place where a test holds. No conditions. -/
import Derived.Test.YtgpchgakonpcfaaGreatDoorPiNil
import Derived.Lib.MakeNoZero
import Derived.Laws.Externs
namespace Go.Pi
set_option linter.unusedVariables false
set_option linter.unusedSimpArgs false

def asPtr {α : Type} (p : Prs α) (t : T1) (k : α → Prop) : Prop :=
  match t with
  | .ptr false 0 cs => p cs fun x r => (match r with | [] => k x | _ :: _ => False)
  | _ => False
theorem asPtr_out {α : Type} {p : Prs α} {enc : α → List TC → List TC} (hp : Rd p enc) {t : T1} {k : α → Prop} (h : asPtr p t k) : ∃ x, t = .ptr false 0 (enc x []) ∧ k x := by
  unfold asPtr at h
  split at h
  · obtain ⟨x, r, e, h1⟩ := hp _ _ h
    subst e
    cases r with
    | nil => exact ⟨x, rfl, h1⟩
    | cons _ _ => exact h1.elim
  · exact h.elim
def arP {α : Type} (p : Prs α) (t : Tree) (k : α → Prop) : Prop := match t with | .v x => asPtr p x k | _ => False
theorem arP_out {α : Type} {p : Prs α} {enc : α → List TC → List TC} (hp : Rd p enc) {t : Tree} {k : α → Prop} (h : arP p t k) : ∃ x, t = .v (.ptr false 0 (enc x [])) ∧ k x := by
  unfold arP at h
  split at h
  · obtain ⟨x, rfl, h1⟩ := asPtr_out hp h
    exact ⟨x, rfl, h1⟩
  · exact h.elim
def arQ {α : Type} (p : Prs α) (t : Tree) (k : α → Prop) : Prop :=
  match t with
  | .v (.ptr true 0 cs) => p cs fun x r => (match r with | [] => k x | _ :: _ => False)
  | _ => False
theorem arQ_out {α : Type} {p : Prs α} {enc : α → List TC → List TC} (hp : Rd p enc) {t : Tree} {k : α → Prop} (h : arQ p t k) : ∃ x, t = .v (.ptr true 0 (enc x [])) ∧ k x := by
  unfold arQ at h
  split at h
  · obtain ⟨x, r, e, h1⟩ := hp _ _ h
    subst e
    cases r with
    | nil => exact ⟨x, rfl, h1⟩
    | cons _ _ => exact h1.elim
  · exact h.elim
def arF0 (n : Nat) (t : Tree) (k : Unit → Prop) : Prop :=
  match t with
  | .fn f [] => (match Nat.beq f n with | true => k () | false => False)
  | _ => False
theorem arF0_out {n : Nat} {t : Tree} {k : Unit → Prop} (h : arF0 n t k) : ∃ x, t = .fn n [] ∧ k x := by
  unfold arF0 at h
  split at h
  · split at h
    · rename_i hb
      have hb := Nat.eq_of_beq_eq_true hb
      subst hb
      exact ⟨(), rfl, h⟩
    · exact h.elim
  · exact h.elim
def idxGo {α : Type} (p : α → Bool) : List α → Nat → Int
  | [], _ => -1
  | x :: xs, i => if p x then (i : Int) else idxGo p xs (i + 1)
def idxOf {α : Type} (p : α → Bool) (xs : List α) : Int := idxGo p xs 0
theorem idxGo_end {α : Type} {p : α → Bool} {xs : List α} {i : Nat} (h : xs.length ≤ i) : idxGo p (xs.drop i) i = -1 := by
  rw [List.drop_eq_nil_of_le h]; rfl
theorem idxGo_yes {α : Type} {p : α → Bool} {z : α} {xs : List α} {i : Nat} (h : i < xs.length) (hp : p (xs.getD i z) = true) : idxGo p (xs.drop i) i = i := by
  have e : xs.getD i z = xs[i] := by simp [List.getD_eq_getElem?_getD, h]
  rw [e] at hp; rw [List.drop_eq_getElem_cons h]; simp [idxGo, hp]
theorem idxGo_no {α : Type} {p : α → Bool} {z : α} {xs : List α} {i : Nat} (h : i < xs.length) (hp : p (xs.getD i z) = false) : idxGo p (xs.drop i) i = idxGo p (xs.drop (i + 1)) (i + 1) := by
  have e : xs.getD i z = xs[i] := by simp [List.getD_eq_getElem?_getD, h]
  rw [e] at hp; rw [List.drop_eq_getElem_cons h]; simp [idxGo, hp]
theorem idxGo_any {α : Type} (p : α → Bool) : ∀ (xs : List α) (i : Nat), decide (0 ≤ idxGo p xs i) = xs.any p
  | [], _ => rfl
  | x :: xs, i => by
    unfold idxGo
    split
    · rename_i h; simp [h]
    · rename_i h; rw [idxGo_any p xs (i + 1)]; simp [h]
theorem idxOf_any {α : Type} (p : α → Bool) (xs : List α) : decide (0 ≤ idxOf p xs) = xs.any p := idxGo_any p xs 0
theorem any_end {α : Type} {p : α → Bool} {xs : List α} {i : Nat} (h : xs.length ≤ i) (hi : (xs.drop i).any p = xs.any p) : xs.any p = false := by
  rw [← hi, List.drop_eq_nil_of_le h]; rfl
theorem any_yes {α : Type} {p : α → Bool} {z : α} {xs : List α} {i : Nat} (h : i < xs.length) (hp : p (xs.getD i z) = true) (hi : (xs.drop i).any p = xs.any p) : xs.any p = true := by
  have e : xs.getD i z = xs[i] := by simp [List.getD_eq_getElem?_getD, h]
  rw [e] at hp; rw [← hi, List.drop_eq_getElem_cons h, List.any_cons, hp]; rfl
theorem any_no {α : Type} {p : α → Bool} {z : α} {xs : List α} {i : Nat} (h : i < xs.length) (hp : p (xs.getD i z) = false) (hi : (xs.drop i).any p = xs.any p) : (xs.drop (i + 1)).any p = xs.any p := by
  have e : xs.getD i z = xs[i] := by simp [List.getD_eq_getElem?_getD, h]
  rw [e] at hp; rw [← hi, List.drop_eq_getElem_cons h, List.any_cons, hp]; rfl
end Go.Pi
