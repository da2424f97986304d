/- PI's run of a law is the given statement's walk. No conditions. -/
import Derived.Test.YtgpchgakonpcfaaGreatDoorPiLaw
namespace Go.Pi
set_option linter.unusedVariables false
set_option linter.unusedSimpArgs false
open Go.ChangeShapes Go.RowKit
set_option linter.constructorNameAsVariable false

def TreeIs : Bool × List CK → Tree → Prop
  | (true, sh), T => ∃ ts, T = .v (.g ts) ∧ CKs sh ts
  | (false, sh), T => ∃ x, T = .v (.c x) ∧ CKs sh [x]
abbrev TreesAre : List (Bool × List CK) → List Tree → Prop := All2 TreeIs
def parOk (P : Program) (t : Nat) (p : Bool × List CK) : Bool := aggOk P t p.1 && ckOk P 12 t p.2 && P.readableRec t && Nat.ble (t + 1) P.types.size
def parsOk (P : Program) : List Nat → List (Bool × List CK) → Bool
  | [], [] => true
  | t :: ts, p :: ps => parOk P t p && parsOk P ts ps
  | _, _ => false

section
variable {H : Type} {enc : TypeId × Value → H} {P : Program} {w : World}

theorem open_par {t : Nat} {p : Bool × List CK} {v : Value} {d : DataW H} {ps : List MemPlace} {base : Nat} (hc : parOk P t p = true) (hv : Value.okWide P w .any base t v) (h : DataW.Trod enc P w 0 (fun _ => true) true t v d ps) :
    ∃ T G, RepT w T v [] G ∧ TreeIs p T ∧ ∀ g ∈ G, g < w.heap.size := by
  simp only [parOk, Bool.and_eq_true] at hc
  obtain ⟨⟨⟨ha, hck⟩, _⟩, _⟩ := hc
  obtain ⟨fuel, h⟩ := h
  obtain ⟨ts, G, h1, h2, h3⟩ := open_ck 12 t p.2 hck fuel _ _ h
  obtain ⟨agg, sh⟩ := p
  cases agg with
  | true =>
    have : ∃ cs, v = .agg cs := by
      unfold aggOk at ha
      unfold Value.okWide at hv
      split at ha <;> rename_i hu
      · rw [hu] at hv; obtain ⟨cs, h, _⟩ := hv; exact ⟨cs, h⟩
      · rw [hu] at hv; obtain ⟨cs, h, _⟩ := hv; exact ⟨cs, h⟩
      · simp at ha
      · cases ha
    obtain ⟨cs, rfl⟩ := this
    exact ⟨.v (.g ts), G, ⟨cs.toList, by simp, h1⟩, ⟨ts, rfl, h2⟩, h3⟩
  | false =>
    have hc1 : v.cells = #[v] := by
      unfold aggOk at ha
      unfold Value.okWide at hv
      cases v with
      | agg cs =>
        exfalso
        split at ha <;> rename_i hu
        · cases ha
        · cases ha
        · rename_i d n1 n2
          rw [hu] at hv
          cases d <;> simp [Cell.okWide, Cell.ok, hu] at hv n1 n2
        · cases ha
      | _ => rfl
    rw [hc1] at h1
    cases ts with
    | nil => exact h1.elim
    | cons x ts =>
      obtain ⟨F1, F2, G1, G2, r1, r2, e1, e2⟩ := h1
      cases ts with
      | cons _ _ => exact r2.elim
      | nil =>
        obtain ⟨rfl, rfl⟩ := r2
        have hF : F1 = [] := by simpa using e1.symm
        subst hF
        rw [List.append_nil] at e2
        subst e2
        exact ⟨.v (.c x), G, r1, ⟨x, rfl, h2⟩, h3⟩

theorem open_pars : ∀ {ts : List Nat} {shs : List (Bool × List CK)} {vs : List Value} {ds : List (DataW H)} {ps : List MemPlace}, parsOk P ts shs = true → DataW.TrodAll enc P w 0 (fun _ => true) true ts vs ds ps →
    (∀ (j : Nat) t v, ts[j]? = some t → vs[j]? = some v → ∃ base, Value.okWide P w .any base t v) →
    ∃ Ts G, RepTs w Ts vs [] G ∧ TreesAre shs Ts ∧ (∀ g ∈ G, g < w.heap.size) ∧ ds.length = ts.length
  | [], [], vs, ds, ps, _, h, _ => by
    obtain ⟨rfl, rfl, rfl⟩ := trodAll_nil h
    exact ⟨[], [], ⟨rfl, rfl⟩, trivial, (fun g hg => by cases hg), rfl⟩
  | t :: ts, p :: shs, vs, ds, ps, hc, h, hv => by
    simp only [parsOk, Bool.and_eq_true] at hc
    obtain ⟨v, vs', d, ds', q, q', rfl, rfl, rfl, h1, h2⟩ := trodAll_cons h
    obtain ⟨base, hv0⟩ := hv 0 t v rfl rfl
    obtain ⟨T, G1, r1, t1, b1⟩ := open_par hc.1 hv0 h1
    obtain ⟨Ts, G2, r2, t2, b2, l2⟩ := open_pars hc.2 h2 (fun j t v h3 h4 => hv (j + 1) t v (by simpa using h3) (by simpa using h4))
    refine ⟨T :: Ts, G1 ++ G2, ⟨[], [], G1, G2, r1, r2, rfl, rfl⟩, ⟨t1, t2⟩, fun g hg => ?_, by simp [l2]⟩
    rcases List.mem_append.1 hg with hg | hg
    · exact b1 g hg
    · exact b2 g hg
  | [], _ :: _, _, _, _, hc, _, _ => by cases hc
  | _ :: _, [], _, _, _, hc, _, _ => by cases hc

theorem again_pars (hl : laidOutB P = true) {w' : World} (hb : Below w.heap.size w w') : ∀ {ts : List Nat} {shs : List (Bool × List CK)} {vs : List Value} {ds : List (DataW H)} {ps : List MemPlace}, parsOk P ts shs = true →
    DataW.TrodAll enc P w 0 (fun _ => true) true ts vs ds ps → DataW.TrodAll enc P w' 0 (fun b => decide (b < w.heap.size)) true ts vs ds ps
  | [], [], vs, ds, ps, _, h => by
    obtain ⟨rfl, rfl, rfl⟩ := trodAll_nil h
    exact rfl
  | t :: ts, p :: shs, vs, ds, ps, hc, h => by
    have hlt := DataW.TrodAll.lt h
    simp only [parsOk, parOk, Bool.and_eq_true] at hc
    obtain ⟨v, vs', d, ds', q, q', rfl, rfl, rfl, h1, h2⟩ := trodAll_cons h
    exact ⟨q, q', Below.trod hl hc.1.1.2 (Nat.le_of_ble_eq_true hc.1.2) h1 hb (fun x hx => hlt x (List.mem_append_left _ hx)), again_pars hl hb hc.2 h2, rfl⟩
  | [], _ :: _, _, _, _, hc, _ => by cases hc
  | _ :: _, [], _, _, _, hc, _ => by cases hc

theorem Reps_length {α : Type} {R : α → Value → List Nat → List Nat → Prop} : ∀ {as : List α} {us : List Value} {F G : List Nat}, Reps R as us F G → as.length = us.length
  | [], [], _, _, _ => rfl
  | _ :: _, _ :: _, _, _, ⟨_, _, _, _, _, h, _, _⟩ => by simp [Reps_length h]
  | [], _ :: _, _, _, h => h.elim
  | _ :: _, [], _, _, h => h.elim
theorem parsOk_length : ∀ {ts : List Nat} {shs : List (Bool × List CK)}, parsOk P ts shs = true → shs.length = ts.length
  | [], [], _ => rfl
  | _ :: _, _ :: _, h => by simp only [parsOk, Bool.and_eq_true] at h; simp [parsOk_length h.2]
  | [], _ :: _, h => by cases h
  | _ :: _, [], h => by cases h
end

end Go.Pi
