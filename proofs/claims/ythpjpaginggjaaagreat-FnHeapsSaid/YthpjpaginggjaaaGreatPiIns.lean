/- slices.Insert at elements of two cells: what the walk of its two roads in the middle says, as a contract. No conditions. -/
import Derived.Test.YthpjpaginggjaaaGreatPiFn
import Derived.Shelf.RegionOpenPlain
import Derived.WalkKit
import Derived.Lib.Walk
import Derived.Lib.SliceRun
import Derived.Lib.JoinLaws
import Derived.Lib.AppendZeros
import Derived.Lib.AppendZerosOnto
import Derived.Lib.Overlaps
import Derived.Laws.Externs
import Derived.Laws.IdiomCopy
set_option linter.unusedVariables false
set_option linter.unusedSimpArgs false
namespace Go.Pi
set_option linter.constructorNameAsVariable false
open Go.RowKit Go.Lib
theorem run_copyZ {P : Program} (w : World) (dT sT ty elem : TypeId) (b o dLen dCap : Nat) (a : Addr) (sLen sCap z : Nat) (cs : List Value)
    (hu : P.underlying dT = some (.slice elem)) (hs : (P.info? elem).map (·.size) = some z) (hn : cs.length = Nat.min sLen dLen * z)
    (hsrc : ∀ j v, cs[j]? = some v → w.cell? (a.add j) = some v) (hc : ∀ j, j < cs.length → (w.cell? ⟨b, o + j, none⟩).isSome = true) (hf : ∀ j, j < cs.length → w.frozen? ⟨b, o + j, none⟩ = false) (h1 : ∀ v ∈ cs, v.oneCell' = true) :
    (Builtin.copy_ #[dT, sT] ty #[.slice (some ⟨b, o, none⟩) dLen dCap, .slice (some a) sLen sCap]).run P w = .ok (goInt (Nat.min sLen dLen)) (w.setCells b o cs) := by
  have hl := run_loadCells_list (P := P) w a cs hsrc
  have hst := run_storeCells_cells (P := P) b o cs 0 w (by simpa using hc) (by simpa using hf) h1
  cases hq : P.info? elem with
  | none => simp [hq] at hs
  | some i =>
    have hi : i.size = z := by simpa [hq] using hs
    rw [hn] at hl
    simp [Builtin.copy_, run_underlying hu, Builtin.lenOf, Builtin.firstCells, sizeOf, typeInfo, hq, hi, hl, hst]
theorem wp_copy_runI {P : Program} (w : World) {o : Oper} {a : Act} {K : Act → World → Prop} {Q : Exit → Act → World → Prop} (d s : Operand) (t t' : TypeId)
    (ho : o.op = .call { callee := .builtin .copy, args := #[d, s], argTypes := #[t, t'] }) (v u : Value) (hd : a.eval d = v) (hs : a.eval s = u) {v' : Value} {w' : World}
    (hr : (Builtin.copy_ #[t, t'] o.type #[v, u]).run P w = .ok v' w') (h : K (a.put o.dst v') w') : o.wp P a w K Q := by
  unfold Oper.wp execOp
  simp only [ho, resolve, invoke, builtin, Sem.run_bind, Sem.run_pure, Result.andThen_ok, List.map_toArray, List.map_cons, List.map_nil, hd, hs, hr]
  exact h
theorem wpList_copy_runI {P : Program} (w : World) {ops : Array Oper} {rest : List Oper} {o : Oper} {a : Act} {Q : Exit → Act → World → Prop} (hgd : o.guard = none) (d s : Operand) (t t' : TypeId)
    (ho : o.op = .call { callee := .builtin .copy, args := #[d, s], argTypes := #[t, t'] }) (v u : Value) (hd : a.eval d = v) (hs : a.eval s = u) {v' : Value} {w' : World}
    (hr : (Builtin.copy_ #[t, t'] o.type #[v, u]).run P w = .ok v' w') (h : wpList P ops Q rest (a.put o.dst v') w') : wpList P ops Q (o :: rest) a w :=
  wpList_plain hgd fun _ hK => wp_copy_runI w d s t t' ho v u hd hs hr (hK _ _ h)
theorem step_copy_runI {P : Program} {ops : Array Oper} {o : Oper} {a : Act} {w : World} {K : Act → World → Prop} {Q : Exit → Act → World → Prop} {E : Prop}
    (hg : o.guard = none) (d x : Operand) (dT sT : TypeId) (hop : o.op = Op.call { callee := Callee.builtin Builtin.copy, args := #[d, x], argTypes := #[dT, sT] })
    (v u : Value) (hd : a.eval d = v) (hx : a.eval x = u) {v' : Value} {w' : World} (hr : (Builtin.copy_ #[dT, sT] o.type #[v, u]).run P w = .ok v' w') (hK : K (a.put o.dst v') w') :
    if Region.wanted o (yielded ops a.tmps) = true then Oper.wp P o a w K Q else E := by
  have hw : Region.wanted o (yielded ops a.tmps) = true := by simp [Region.wanted, hg]
  rw [if_pos hw]
  unfold Oper.wp
  simp [execOp, hop, resolve, invoke, builtin, hd, hx, hr, Result.andThen]
  exact hK
theorem isSome_setCells (b : Nat) (vs : List Value) (o : Nat) (w : World) (h : ∀ j, j < vs.length → (w.cell? ⟨b, o + j, none⟩).isSome = true) (k : Nat) (hk : (w.cell? ⟨b, k, none⟩).isSome = true) : ((w.setCells b o vs).cell? ⟨b, k, none⟩).isSome = true := by
  by_cases hin : o ≤ k ∧ k < o + vs.length
  · have := World.cell?_setCells_in b vs o w h (k - o) (by omega)
    rw [show o + (k - o) = k by omega] at this
    rw [this]; rfl
  · rw [World.cell?_setCells_out b vs o w ⟨b, k, none⟩ (fun _ _ => by show k < o ∨ o + vs.length ≤ k; omega)]
    exact hk

/-- There is room: in place. -/
def InsShift (P : Program) (f : Nat) : Prop := ∀ (b off n c i vb voff vc : Nat) (cs vs : List Value) (w : World) (_ : i < n) (_ : n + 1 ≤ c) (_ : n ≤ 2147483647) (_ : vb ≠ b)
    (_ : cs.length = n * 2) (_ : vs.length = 2)
    (_ : ∀ j v, cs[j]? = some v → w.cell? ⟨b, off + j, none⟩ = some v) (_ : ∀ j, j < (n + 1) * 2 → (w.cell? ⟨b, off + j, none⟩).isSome = true) (_ : ∀ j, j < (n + 1) * 2 → w.frozen? ⟨b, off + j, none⟩ = false)
    (_ : ∀ j v, vs[j]? = some v → w.cell? ⟨vb, voff + j, none⟩ = some v) (_ : ∀ v ∈ cs, v.oneCell' = true) (_ : ∀ v ∈ vs, v.oneCell' = true)
    (tA tB : TypeId) (kA kB : Nat) (_ : w.shape? vb = some (tA, kA)) (_ : w.shape? b = some (tB, kB)) (_ : kB ≠ 0) (_ : w.frozen? ⟨vb, voff, none⟩ = false) (_ : w.frozen? ⟨vb, kA, none⟩ = false),
    Calls P f #[.slice (some ⟨b, off, none⟩) n c, .int .i64 i, .slice (some ⟨vb, voff, none⟩) 1 vc] w fun e w' =>
      e = .returned (.slice (some ⟨b, off, none⟩) (n + 1) c) ∧ w' = (w.drew.setCells b (off + (i + 1) * 2) (cs.drop (i * 2))).setCells b (off + i * 2) vs
/-- There is none: a new row. -/
def InsGrow (P : Program) (f : Nat) (el : TypeId) : Prop := ∀ (b off n c i vb voff vc : Nat) (cs vs : List Value) (w : World) (_ : i < n) (_ : n ≤ c) (_ : c < n + 1) (_ : n ≤ 2147483647)
    (_ : cs.length = n * 2) (_ : vs.length = 2)
    (_ : ∀ j v, cs[j]? = some v → w.cell? ⟨b, off + j, none⟩ = some v)
    (_ : ∀ j v, vs[j]? = some v → w.cell? ⟨vb, voff + j, none⟩ = some v) (_ : ∀ v ∈ cs, v.oneCell' = true) (_ : ∀ v ∈ vs, v.oneCell' = true),
    Calls P f #[.slice (some ⟨b, off, none⟩) n c, .int .i64 i, .slice (some ⟨vb, voff, none⟩) 1 vc] w fun e w' => ∃ (G : Nat) (z : Array Value), n + 1 ≤ G ∧ z.size = 2 ∧
      e = .returned (.slice (some ⟨w.heap.size, 0, none⟩) (n + 1) G) ∧
      w' = (((w.alloc (.cells ((cs.take (i * 2)).toArray ++ Builtin.zeroCells z (n + 1 - i) ++ Builtin.zeroCells z (G - (n + 1))) el)).drew.setCells w.heap.size (i * 2) vs).drew).setCells w.heap.size ((i + 1) * 2) (cs.drop (i * 2))

def insAt {α : Type} (xs : List α) (i : Int) (ys : List α) : List α := xs.take i.toNat ++ ys ++ xs.drop i.toNat
theorem flats_ins (τ : FT) (xs ys : List τ.Ty) (m : Nat) (h : m ≤ xs.length) : flats τ (xs.take m ++ ys ++ xs.drop m) = (flats τ xs).take (m * τ.sz) ++ flats τ ys ++ (flats τ xs).drop (m * τ.sz) := by
  have ap : ∀ a b : List τ.Ty, flats τ (a ++ b) = flats τ a ++ flats τ b := fun a b => by unfold flats; exact List.flatMap_append
  have hl : (flats τ (xs.take m)).length = m * τ.sz := by rw [flats_length, List.length_take, Nat.min_eq_left h]
  have e : flats τ xs = flats τ (xs.take m) ++ flats τ (xs.drop m) := by rw [← ap, List.take_append_drop]
  rw [ap, ap, e, List.take_left' hl, List.drop_left' hl]
theorem ins_range {W : World} {b off m : Nat} {cs V : List Value} (hV2 : V.length = 2) (hm : m * 2 ≤ cs.length) (hP : ∀ j v, j < m * 2 → cs[j]? = some v → W.cell? ⟨b, off + j, none⟩ = some v)
    (hV : ∀ j v, V[j]? = some v → W.cell? ⟨b, off + m * 2 + j, none⟩ = some v) (hD : ∀ j v, (cs.drop (m * 2))[j]? = some v → W.cell? ⟨b, off + (m + 1) * 2 + j, none⟩ = some v) : W.rangeAt b off (cs.take (m * 2) ++ V ++ cs.drop (m * 2)) := fun j v hj => by
  have hl : (cs.take (m * 2)).length = m * 2 := by rw [List.length_take]; omega
  by_cases h1 : j < m * 2
  · rw [List.append_assoc, List.getElem?_append_left (by omega), List.getElem?_take_of_lt h1] at hj
    exact hP j v h1 hj
  · by_cases h2 : j < (m + 1) * 2
    · rw [List.append_assoc, List.getElem?_append_right (by omega), hl, List.getElem?_append_left (by omega)] at hj
      have := hV _ v hj
      rwa [show off + m * 2 + (j - m * 2) = off + j by omega] at this
    · rw [List.getElem?_append_right (by rw [List.length_append]; omega), List.length_append, hl, hV2] at hj
      have := hD _ v hj
      rwa [show off + (m + 1) * 2 + (j - (m * 2 + 2)) = off + j by omega] at this
theorem shape_of {w : World} {b o n : Nat} (h : Ther w b o n false) (hn : 0 < n) : ∃ t k, w.shape? b = some (t, k) ∧ k ≠ 0 ∧ ∀ j, w.frozen? ⟨b, j, none⟩ = false := by
  obtain ⟨h1, h2⟩ := h
  have h0 := (h1 0 hn).1
  have h2 := h2 hn
  unfold World.cell? at h0
  split at h0
  · rename_i c e fr hh
    obtain ⟨lo, hi⟩ := fr
    refine ⟨e, c.size, by simp only [World.shape?, hh], fun e0 => ?_, fun j => ?_⟩
    · simp at h0
      omega
    · rcases h2 c e lo hi hh with q | q
      · unfold World.frozen?
        simp only [hh]
        rw [Bool.and_eq_false_iff]
        simp only [decide_eq_false_iff_not]
        omega
      · exact absurd q.1 (by simp)
  · cases h0
theorem set_in {b o : Nat} {vs : List Value} {w : World} (h : ∀ j, j < vs.length → (w.cell? ⟨b, o + j, none⟩).isSome = true) {j : Nat} {v : Value} (hj : vs[j]? = some v) : (w.setCells b o vs).cell? ⟨b, o + j, none⟩ = some v := by
  obtain ⟨hl, e⟩ := List.getElem?_eq_some_iff.1 hj
  rw [World.cell?_setCells_in b vs o w h j hl, e]
theorem set_out {b o : Nat} {vs : List Value} {w : World} {k : Nat} (h : k < o ∨ o + vs.length ≤ k) : (w.setCells b o vs).cell? ⟨b, k, none⟩ = w.cell? ⟨b, k, none⟩ :=
  World.cell?_setCells_out b vs o w _ fun _ _ => h

theorem ins_mid {P : Program} {f : Nat} {el : TypeId} (hsft : InsShift P f) (hgrw : InsGrow P f el) {xs ys : List Span} {i : Int} (h0 : 0 ≤ i) (hi : i < xs.length) (hy : ys.length = 1) (hx : xs.length ≤ 1000000) :
    SpecQ P f [true, false, true] [tL true .span xs, tI .i64 i, tL true .span ys] fun r o => r = tL true .span (insAt xs i ys) ∧ o = [.v (.c .unk), tL true .span ys] := by
  intro w args F G hrep hFn hFs hG
  obtain ⟨m, rfl⟩ : ∃ m : Nat, i = m := ⟨i.toNat, by omega⟩
  have hm : m < xs.length := by omega
  obtain ⟨s, i', v, rfl⟩ : ∃ s i' v, args = [s, i', v] := by
    cases args with
    | nil => exact hrep.elim
    | cons s r => cases r with
      | nil => obtain ⟨_, _, _, _, _, h, _⟩ := hrep; exact h.elim
      | cons i' r => cases r with
        | nil => obtain ⟨_, _, _, _, _, ⟨_, _, _, _, _, h, _⟩, _⟩ := hrep; exact h.elim
        | cons v r => cases r with
          | nil => exact ⟨_, _, _, rfl⟩
          | cons _ _ => obtain ⟨_, _, _, _, _, ⟨_, _, _, _, _, ⟨_, _, _, _, _, h, _⟩, _⟩, _⟩ := hrep; exact h.elim
  obtain ⟨F1, F2, G1, G2, ⟨l, A, hs, hB, hF1, hG1⟩, ⟨F3, F4, G3, G4, ⟨hi', hF3, hG3⟩, ⟨F5, F6, G5, G6, ⟨l2, A2, hs2, hB2, hF5, hG5⟩, ⟨hF6, hG6⟩, hF4, hG4⟩, hF2, hG2⟩, hF, hGG⟩ := hrep
  subst hi'
  obtain ⟨rfl, hA0, hA1⟩ := hs
  obtain ⟨rfl, hA20, hA21⟩ := hs2
  have hBB := hB2
  obtain ⟨b1, b2, _, ⟨cs, hcs, hcr⟩, b5⟩ := hB
  obtain ⟨d1, d2, _, ⟨vs, hvs, hvr⟩, d5⟩ := hB2
  have hc0 : 0 < l.cap := by omega
  have hd0 : 0 < l2.cap := by omega
  have b5 := b5 rfl
  have d5 := d5 rfl
  have hF1 : F1 = [l.blk] := by rw [hF1]; simp only [Blk.foot]; rw [if_pos hc0]
  have hF5 : F5 = [l2.blk] := by rw [hF5]; simp only [Blk.foot]; rw [if_pos hd0]
  have hFF : F = [l.blk, l2.blk] := by rw [hF, hF2, hF4, hF1, hF3, hF5, hF6]; rfl
  subst hFF
  have hne : l2.blk ≠ l.blk := fun e => by rw [e] at hFn; simp at hFn
  have hcl : cs.length = xs.length * 2 := by rw [← All2.length hcr, flats_length]; rfl
  have hvl : vs.length = 2 := by rw [← All2.length hvr, flats_length, hy]; rfl
  have hAe := hA1 hc0
  have hAe2 := hA21 hd0
  subst hAe hAe2
  have h1c := CellsR.one hcr
  have h1v := CellsR.one hvr
  have hflat : flats .span (insAt xs (m : Int) ys) = (flats .span xs).take (m * 2) ++ flats .span ys ++ (flats .span xs).drop (m * 2) := by
    have := flats_ins .span xs ys m (by omega)
    simpa [insAt, FT.sz] using this
  have hil : (insAt xs (m : Int) ys).length = xs.length + 1 := by
    simp [insAt]; omega
  have hcr' : CellsR none0 (flats .span (insAt xs (m : Int) ys)) (cs.take (m * 2) ++ vs ++ cs.drop (m * 2)) := by
    rw [hflat]; exact ((All2.take _ hcr).append hvr).append (All2.drop _ hcr)
  obtain ⟨tA, kA, hsa, _, hfa⟩ := shape_of d5 (by simp [FT.sz]; omega)
  obtain ⟨tB, kB, hsb, hkB, hfb⟩ := shape_of b5 (by simp [FT.sz]; omega)
  have hbs := hFs l.blk (by simp)
  have hds := hFs l2.blk (by simp)
  rw [b1, d1, hy]
  show Calls P f #[.slice (some ⟨l.blk, l.off, none⟩) xs.length l.cap, .int .i64 (m : Int), .slice (some ⟨l2.blk, l2.off, none⟩) 1 l2.cap] w _
  by_cases hroom : xs.length + 1 ≤ l.cap
  · refine (hsft l.blk l.off xs.length l.cap m l2.blk l2.off l2.cap cs vs w hm hroom (by omega) hne hcl hvl hcs (fun j hj => (b5.1 j (by simp only [FT.sz]; omega)).1) (fun j _ => hfb _) hvs h1c h1v tA tB kA kB hsa hsb hkB (hfa _) (hfa _)).mono fun e w' hew => ?_
    obtain ⟨rfl, hw⟩ := hew
    have hth : ∀ k, k < (xs.length + 1) * 2 → (w.drew.cell? ⟨l.blk, l.off + k, none⟩).isSome = true := fun k hk => (b5.1 k (by simp only [FT.sz]; omega)).1
    have hdl : (cs.drop (m * 2)).length = (xs.length - m) * 2 := by rw [List.length_drop, hcl, Nat.sub_mul]
    have hth1 : ∀ k, k < (xs.length + 1) * 2 → ((w.drew.setCells l.blk (l.off + (m + 1) * 2) (cs.drop (m * 2))).cell? ⟨l.blk, l.off + k, none⟩).isSome = true := fun k hk =>
      isSome_setCells _ _ _ _ (fun j hj => by rw [Nat.add_assoc]; exact hth _ (by omega)) _ (hth k hk)
    have hrange : w'.rangeAt l.blk l.off (cs.take (m * 2) ++ vs ++ cs.drop (m * 2)) := by
      refine ins_range hvl (by omega) (fun j v hj hv => ?_) (fun j v hv => ?_) (fun j v hv => ?_)
      · rw [hw, set_out (.inl (by omega)), set_out (.inl (by omega))]
        exact hcs j v hv
      · rw [hw]
        exact set_in (fun k hk => by rw [Nat.add_assoc]; exact hth1 _ (by omega)) hv
      · rw [hw, set_out (.inr (by omega))]
        exact set_in (fun k hk => by rw [Nat.add_assoc]; exact hth _ (by omega)) hv
    have hther : Ther w' l.blk l.off (l.cap * 2) false := by
      rw [hw]
      exact Ther.set (Ther.set (Ther.block (w := w) (w' := w.drew) rfl b5) _ _) _ _
    have h1 := setCells_all l.blk vs (l.off + m * 2) (w.drew.setCells l.blk (l.off + (m + 1) * 2) (cs.drop (m * 2)))
    have h2 := setCells_all l.blk (cs.drop (m * 2)) (l.off + (m + 1) * 2) w.drew
    rw [← hw] at h1
    have hsize : w'.heap.size = w.heap.size := h1.2.2.2.1.trans h2.2.2.2.1
    have hother : ∀ k, k ≠ l.blk → w'.heap[k]? = w.heap[k]? := fun k hk => (h1.2.2.2.2 k hk).trans (h2.2.2.2.2 k hk)
    refine ⟨_, _, ⟨rfl, rfl⟩, .slice (some ⟨l.blk, l.off, none⟩) (xs.length + 1) l.cap, [l.blk], [], [l2.blk], [], rfl, ⟨⟨l.blk, l.off, l.cap, xs.length + 1⟩, some ⟨l.blk, l.off, none⟩, ⟨rfl, (fun e => by cases e), fun _ => rfl⟩, ⟨hil.symm, hroom, (fun _ e => by cases e), ⟨_, hrange, hcr'⟩, fun _ => hther⟩, ?_, rfl⟩, ?_, ?_, fun x hx => ?_, (fun x hx => by cases hx), ?_⟩
    · simp only [Blk.foot]; rw [if_pos hc0]
    · refine ⟨[], [l2.blk], [], [], ⟨rfl, rfl, rfl⟩, ⟨[l2.blk], [], [], [], ⟨l2, some ⟨l2.blk, l2.off, none⟩, ⟨by rw [d1, hy], (fun e => by cases e), fun _ => rfl⟩, hBB.block (fun _ => hother _ hne), ?_, rfl⟩, ⟨rfl, rfl⟩, rfl, rfl⟩, rfl, rfl⟩
      simp only [Blk.foot]; rw [if_pos hd0]
    · simp [hne]
    · rw [hsize]
      simp at hx
      rcases hx with rfl | rfl
      · exact ⟨hds, .inl (by simp)⟩
      · exact ⟨hbs, .inl (by simp)⟩
    · exact ⟨h1.1.trans h2.1, h1.2.1.trans h2.2.1, h1.2.2.1.trans h2.2.2.1, by omega, fun k _ hkn => hother k (fun e => hkn (by simp [e]))⟩
  · refine (hgrw l.blk l.off xs.length l.cap m l2.blk l2.off l2.cap cs vs w hm (by omega) (by omega) (by omega) hcl hvl hcs hvs h1c h1v).mono fun e w' hew => ?_
    obtain ⟨Gc, z, hGc, hz2, rfl, hw⟩ := hew
    have hdl : (cs.drop (m * 2)).length = (xs.length - m) * 2 := by rw [List.length_drop, hcl, Nat.sub_mul]
    generalize hROW : (cs.take (m * 2)).toArray ++ Builtin.zeroCells z (xs.length + 1 - m) ++ Builtin.zeroCells z (Gc - (xs.length + 1)) = ROW at hw
    have hRl : ROW.size = Gc * 2 := by
      rw [← hROW]
      simp [Builtin.zeroCells, hz2]
      omega
    have hRp : ∀ j v, j < m * 2 → cs[j]? = some v → ROW[j]? = some v := fun j v hj hv => by
      rw [← hROW, Array.append_assoc, Array.getElem?_append_left (by simp; omega)]
      simpa [List.getElem?_take, hj] using hv
    have g : Grown w (w.alloc (.cells ROW el)) ROW false := Grown.alloc w ROW el
    generalize hW0 : w.alloc (.cells ROW el) = W0 at hw g
    have hth : ∀ k, k < (xs.length + 1) * 2 → (W0.drew.cell? ⟨w.heap.size, k, none⟩).isSome = true := fun k hk => by
      have := g.cell k
      show (W0.cell? ⟨w.heap.size, k, none⟩).isSome = true
      rw [this, Array.getElem?_eq_getElem (by omega)]; rfl
    have hth1 : ∀ k, k < (xs.length + 1) * 2 → (((W0.drew.setCells w.heap.size (m * 2) vs).drew).cell? ⟨w.heap.size, k, none⟩).isSome = true := fun k hk =>
      isSome_setCells _ vs (m * 2) W0.drew (fun j hj => hth _ (by omega)) _ (hth k hk)
    have hrange : w'.rangeAt w.heap.size 0 (cs.take (m * 2) ++ vs ++ cs.drop (m * 2)) := by
      refine ins_range hvl (by omega) (fun j v hj hv => ?_) (fun j v hv => ?_) (fun j v hv => ?_)
      · rw [hw, set_out (.inl (by omega))]
        show (W0.drew.setCells w.heap.size (m * 2) vs).cell? _ = _
        rw [set_out (.inl (by omega)), Nat.zero_add]
        exact (g.cell j).trans (hRp j v hj hv)
      · rw [hw, set_out (.inl (by have := (List.getElem?_eq_some_iff.1 hv).1; omega)), Nat.zero_add]
        exact set_in (w := W0.drew) (fun k hk => hth _ (by omega)) hv
      · rw [hw, Nat.zero_add]
        exact set_in (fun k hk => hth1 _ (by omega)) hv
    have hther : Ther w' w.heap.size 0 (Gc * 2) false := by
      rw [hw]
      refine Ther.set ?_ _ _
      refine Ther.block (w := W0.drew.setCells w.heap.size (m * 2) vs) rfl (Ther.set ?_ _ _)
      exact Ther.block (w := W0) rfl ⟨g.there (by omega), fun _ => g.free.le (by omega)⟩
    have h1 := setCells_all w.heap.size (cs.drop (m * 2)) ((m + 1) * 2) (W0.drew.setCells w.heap.size (m * 2) vs).drew
    have h2 := setCells_all w.heap.size vs (m * 2) W0.drew
    rw [← hw] at h1
    have hsize : w'.heap.size = w.heap.size + 1 := (h1.2.2.2.1.trans h2.2.2.2.1).trans g.size
    have hother : ∀ k, k < w.heap.size → w'.heap[k]? = w.heap[k]? := fun k hk => ((h1.2.2.2.2 k (by omega)).trans (h2.2.2.2.2 k (by omega))).trans (g.fr.2.2.2.2 k hk (by simp))
    refine ⟨_, _, ⟨rfl, rfl⟩, .slice (some ⟨w.heap.size, 0, none⟩) (xs.length + 1) Gc, [w.heap.size], [], [l2.blk], [], rfl, ⟨⟨w.heap.size, 0, Gc, xs.length + 1⟩, some ⟨w.heap.size, 0, none⟩, ⟨rfl, (fun e => by cases e), fun _ => rfl⟩, ⟨hil.symm, hGc, (fun _ e => by cases e), ⟨_, hrange, hcr'⟩, fun _ => hther⟩, ?_, rfl⟩, ?_, ?_, fun x hx => ?_, (fun x hx => by cases hx), ?_⟩
    · simp only [Blk.foot]; rw [if_pos (by omega)]
    · refine ⟨[], [l2.blk], [], [], ⟨rfl, rfl, rfl⟩, ⟨[l2.blk], [], [], [], ⟨l2, some ⟨l2.blk, l2.off, none⟩, ⟨by rw [d1, hy], (fun e => by cases e), fun _ => rfl⟩, hBB.block (fun _ => hother _ hds), ?_, rfl⟩, ⟨rfl, rfl⟩, rfl, rfl⟩, rfl, rfl⟩
      simp only [Blk.foot]; rw [if_pos hd0]
    · simp; omega
    · rw [hsize]
      simp at hx
      rcases hx with rfl | rfl
      · exact ⟨by omega, .inl (by simp)⟩
      · exact ⟨by omega, .inr (Nat.le_refl _)⟩
    · exact ⟨(h1.1.trans h2.1).trans g.fr.1, (h1.2.1.trans h2.2.1).trans g.fr.2.1, (h1.2.2.1.trans h2.2.2.1).trans g.fr.2.2.1, by omega, fun k hk _ => hother k hk⟩
end Go.Pi
