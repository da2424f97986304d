/- slices.Sort at numbers: what the kit's walk of it says, as a contract. No conditions. -/
import Derived.Test.YtbenlebnogedlaaPiDoor
import Derived.Sort.Row
namespace Go.Pi
set_option linter.unusedVariables false
set_option linter.unusedSimpArgs false
set_option linter.constructorNameAsVariable false
def sortI (xs : List Int) : List Int := xs.mergeSort fun x y => decide (x ≤ y)
theorem sortI_len (xs : List Int) : (sortI xs).length = xs.length := List.length_mergeSort xs
def sortFun (f : Nat) : Fun := ⟨f, [true], fun ts K => as1 ts fun t0 => arC (pO (.int .i64)) t0 fun xs => chk (xs.length ≤ 2147483647) (K (.tup []) [tL true (.int .i64) (sortI xs)])⟩
theorem intsR : ∀ xs : List Int, CellsR none0 (flats (.int .i64) xs) (xs.map (Value.int .i64))
  | [] => trivial
  | x :: xs => ⟨rfl, intsR xs⟩
theorem intsR_out : ∀ {xs : List Int} {vs : List Value}, CellsR none0 (flats (.int .i64) xs) vs → vs = xs.map (Value.int .i64)
  | [], [], _ => rfl
  | x :: xs, v :: vs, h => by
    have h1 : v = .int .i64 x := h.1
    rw [h1, intsR_out (xs := xs) h.2]; rfl
  | [], _ :: _, h => h.elim
  | _ :: _, [], h => h.elim
/-- Behind the sort: the row's block, and what else there is. -/
theorem Frame.sorted {w : World} {b off n : Nat} {d : Array Int} {os : Array Obj} : Frame w (Sort.grow (Sort.putRow (Value.int .i64) (Sort.ahead w n) b off d) os) [b] := by
  refine ⟨rfl, rfl, rfl, ?_, fun k hk hne => ?_⟩
  · show w.heap.size ≤ ((Sort.putRow (Value.int .i64) (Sort.ahead w n) b off d).heap ++ os).size
    rw [Array.size_append, Sort.size_putRow]; exact Nat.le_add_right _ _
  · rw [Sort.heap_grow_old _ _ (by rw [Sort.size_putRow]; exact hk)]
    show (w.heap.modify b _)[k]? = w.heap[k]?
    rw [Array.getElem?_modify, if_neg (fun e => hne (by simp [e]))]
theorem sort_ok {P : Program} {f : Nat} (hc : Callable P f)
    (hs : ∀ (blk off cap : Nat) (zs : List Int) (w : World), Sort.Holds (Value.int .i64) w blk off zs.toArray → blk < w.heap.size → zs.length < 4611686018427387904 →
      Calls P f #[.slice (some ⟨blk, off, none⟩) zs.length cap] w fun e w' => e = .returned (.tuple #[]) ∧ ∃ n os, w' = Sort.grow (Sort.putRow (Value.int .i64) (Sort.ahead w n) blk off (zs.mergeSort fun x y => decide (x ≤ y)).toArray) os)
    (hn : ∀ (p : Option Addr) (cap : Nat) (w : World), Calls P f #[.slice p 0 cap] w fun e w' => e = .returned (.tuple #[]) ∧ w' = w) : FunOk P (sortFun f) := by
  intro ts K hg
  obtain ⟨t0, e0, hg⟩ := as1_out hg
  subst e0
  obtain ⟨xs, e1, hg⟩ := arC_out (rd_o (.int .i64)) hg
  subst e1
  obtain ⟨hx, hg⟩ := chk_o hg
  intro w vs F G hrep hFn hFs hG hL
  obtain ⟨v, vs', hvs⟩ : ∃ v vs', vs = v :: vs' := by cases vs with
    | nil => exact hrep.elim
    | cons v vs' => exact ⟨v, vs', rfl⟩
  subst hvs
  obtain ⟨F1, F2, G1, G2, hv, hr, hF, hGG⟩ := hrep
  cases vs' with
  | cons _ _ => exact hr.elim
  | nil =>
  obtain ⟨hF2, hG2⟩ := hr
  obtain ⟨l, A, hsl, hB, hF1, hG1⟩ := hv
  obtain ⟨hve, hA0, hA1⟩ := hsl
  have hBB := hB
  obtain ⟨b1, b2, _, ⟨cs, hcs, hcr⟩, b5⟩ := hB
  have hlend : lends [true] [v] = [v] := rfl
  by_cases h0 : xs.length = 0
  · have e : xs = [] := List.eq_nil_of_length_eq_zero h0
    subst e
    have hl0 : l.len = 0 := b1
    have es : sortI [] = [] := by simp [sortI]
    rw [es] at hg
    refine .inl ⟨hc, ?_⟩
    show Calls P f #[v] w _
    rw [hve, hl0]
    refine (hn A l.cap w).mono fun e w' he => ?_
    obtain ⟨rfl, rfl⟩ := he
    refine ⟨.tup [], [tL true (.int .i64) []], hg, .tuple #[], [], [], F, G, rfl, ⟨[], rfl, rfl, rfl⟩, ?_, by simpa using hFn, fun x hx => ⟨hFs x (by simpa using hx), .inl (by simpa using hx)⟩, (fun x hx => by simpa using hx), Frame.refl _ _, (fun h => by obtain ⟨_, _, h⟩ := h; cases h), trivial⟩
    exact ⟨F1, F2, G1, G2, ⟨l, A, ⟨by rw [hl0], hA0, hA1⟩, hBB, hF1, hG1⟩, ⟨hF2, hG2⟩, hF, hGG⟩
  · have hc0 : 0 < l.cap := by omega
    have hAe := hA1 hc0
    subst hAe
    have b5 := b5 rfl
    have hF1 : F1 = [l.blk] := by rw [hF1]; simp only [Blk.foot]; rw [if_pos hc0]
    have hFF : F = [l.blk] := by rw [hF, hF1, hF2]; rfl
    subst hFF
    have hbs := hFs l.blk (by simp)
    have hcs' := intsR_out hcr
    subst hcs'
    have hth : ∀ j, j < l.cap → (w.cell? ⟨l.blk, l.off + j, none⟩).isSome = true ∧ w.frozen? ⟨l.blk, l.off + j, none⟩ = false := fun j hj => b5.1 j (by simpa [FT.sz] using hj)
    have hH : Sort.Holds (Value.int .i64) w l.blk l.off xs.toArray := fun j hj => by
      have hj' : j < xs.length := by simpa using hj
      refine ⟨?_, (hth j (by omega)).2⟩
      have := hcs j (.int .i64 xs[j]) (by simp [hj'])
      rw [this, getElem!_pos _ j (by simpa using hj')]
      simp
    refine .inl ⟨hc, ?_⟩
    show Calls P f #[v] w _
    rw [hve, b1]
    refine (hs l.blk l.off l.cap xs w hH hbs (by omega)).mono fun e w' he => ?_
    obtain ⟨rfl, n, os, hw⟩ := he
    have hsz : (sortI xs).toArray.size = xs.toArray.size := by simp [sortI_len]
    have hfr : Frame w w' [l.blk] := by rw [hw]; exact Frame.sorted
    have hcell : ∀ j, w'.cell? ⟨l.blk, j, none⟩ = (Sort.putRow (Value.int .i64) (Sort.ahead w n) l.blk l.off (sortI xs).toArray).cell? ⟨l.blk, j, none⟩ := fun j => by
      rw [hw]; exact Sort.cell?_grow _ _ _ (by rw [Sort.size_putRow]; exact hbs)
    have hfz : ∀ j, w'.frozen? ⟨l.blk, j, none⟩ = w.frozen? ⟨l.blk, j, none⟩ := fun j => by
      rw [hw, Sort.frozen?_grow _ _ _ (by rw [Sort.size_putRow]; exact hbs), Sort.frozen?_putRow]; rfl
    have hin : ∀ j, j < xs.length → w'.cell? ⟨l.blk, l.off + j, none⟩ = some (.int .i64 ((sortI xs).toArray[j]!)) := fun j hj => by
      rw [hcell]
      exact Sort.cell?_putRow (Value.int .i64) (Sort.ahead w n) l.blk l.off xs.toArray (sortI xs).toArray hH hsz j (by simp [sortI_len]; exact hj)
    have hrange : w'.rangeAt l.blk l.off ((sortI xs).map (Value.int .i64)) := fun j v hj => by
      rw [List.getElem?_map] at hj
      obtain ⟨z, hz, rfl⟩ := Option.map_eq_some_iff.1 hj
      obtain ⟨hjl, hz⟩ := List.getElem?_eq_some_iff.1 hz
      rw [hin j (by rw [← sortI_len]; exact hjl), getElem!_pos _ j (by simpa using hjl)]
      simp [hz]
    have hblk : ∀ c e fr, w'.heap[l.blk]? = some (.cells c e fr) → ∃ c', w.heap[l.blk]? = some (.cells c' e fr) := fun c e fr hh => by
      rw [hw, Sort.heap_grow_old _ _ (by rw [Sort.size_putRow]; exact hbs)] at hh
      have hh : (w.heap.modify l.blk (Sort.onCells (Sort.putCells (Value.int .i64) l.off (sortI xs).toArray)))[l.blk]? = some (.cells c e fr) := hh
      rw [Array.getElem?_modify, if_pos rfl] at hh
      cases hwb : w.heap[l.blk]? with
      | none => rw [hwb] at hh; cases hh
      | some o =>
        rw [hwb] at hh
        cases o with
        | cells c' e' fr' =>
          simp only [Option.map_some, Sort.onCells, Option.some.injEq, Obj.cells.injEq] at hh
          obtain ⟨_, rfl, rfl⟩ := hh
          exact ⟨c', rfl⟩
        | _ => simp [Sort.onCells] at hh
    have hther : Ther w' l.blk l.off (l.cap * (FT.int .i64).sz) (FT.int .i64).u8 := ⟨fun j hj => by
        have hj' : j < l.cap := by simpa [FT.sz] using hj
        refine ⟨?_, by rw [hfz]; exact (hth j hj').2⟩
        by_cases hjx : j < xs.length
        · rw [hin j hjx]; rfl
        · rw [hcell, Sort.cell?_putRow_other _ _ _ _ _ _ (.inr (.inr (by simp [sortI_len]; omega)))]
          exact (hth j hj').1,
      fun hp c e lo hi hh => by
        obtain ⟨c', hh'⟩ := hblk c e (lo, hi) hh
        exact b5.2 hp c' e lo hi hh'⟩
    refine ⟨.tup [], [tL true (.int .i64) (sortI xs)], hg, .tuple #[], [], [], [l.blk], [], rfl, ⟨[], rfl, rfl, rfl⟩, ?_, by simp, fun x hx => ?_, (fun x hx => by simp at hx), hfr, (fun h => by obtain ⟨_, _, h⟩ := h; cases h), trivial⟩
    · refine ⟨[l.blk], [], [], [], ⟨⟨l.blk, l.off, l.cap, l.len, []⟩, some ⟨l.blk, l.off, none⟩, ⟨by rw [← b1], hA0, hA1⟩, ⟨by rw [sortI_len]; exact b1, b2, (fun _ e => by cases e), ⟨_, hrange, intsR _⟩, fun _ => hther⟩, ?_, rfl⟩, ⟨rfl, rfl⟩, rfl, rfl⟩
      simp only [Blk.foot]; rw [if_pos hc0]
    · simp at hx
      subst hx
      exact ⟨Nat.lt_of_lt_of_le hbs hfr.2.2.2.1, .inl (by simp)⟩
end Go.Pi
