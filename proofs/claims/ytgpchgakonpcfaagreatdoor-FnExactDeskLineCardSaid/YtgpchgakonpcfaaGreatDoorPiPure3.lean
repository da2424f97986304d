/- Pure instructions, third part: slicing, building, comparing; all pure ones together. No conditions. -/
import Derived.Test.YtgpchgakonpcfaaGreatDoorPiPure2
namespace Go.Pi
set_option linter.unusedVariables false
set_option linter.unusedSimpArgs false
set_option linter.constructorNameAsVariable false

section
variable {P : Program} {N : Nat} {o : Oper} {a : Act} {E : List Fun} {c : Ctx P} {ρ : Map} {Z Y : List Nat} {st : St} {w : World} {k : St → Prop}

theorem run_bounds (w : World) (len cap l h : Nat) (lo hi : Option Value) (hlo : lo = none ∧ l = 0 ∨ ∃ kk, lo = some (.int kk (l : Int))) (hhi : hi = none ∧ h = len ∨ ∃ kk, hi = some (.int kk (h : Int))) (h1 : l ≤ h) (h2 : h ≤ cap) :
    (Instr.sliceBounds true len cap lo hi none).run P w = .ok (l, h, cap) w := by
  have sb : ∀ (kk : IntKind) (n y : Nat) (code : BoundsCode), n ≤ y → (Instr.sliceBound (.int kk (n : Int)) y code).run P w = .ok n w := fun kk n y code hy => by
    simp [Instr.sliceBound, asIntOf, hy]
  rcases hlo with ⟨rfl, rfl⟩ | ⟨kl, rfl⟩ <;> rcases hhi with ⟨rfl, rfl⟩ | ⟨kh, rfl⟩
  · simp [Instr.sliceBounds]
  · simp [Instr.sliceBounds, sb kh h cap _ h2]
  · simp [Instr.sliceBounds, sb kl l h _ h1]
  · simp [Instr.sliceBounds, sb kh h cap _ h2, sb kl l h _ h1]

theorem asI_out {lo : Option Arg} {lo' : Option Operand} {f : Option Int → Prop} (hev : Ev ρ st a) (ho : optOk lo lo' = true) (h : asI st lo f) :
    (lo' = none ∧ f none) ∨ ∃ y n kk, lo' = some y ∧ a.eval y = .int kk n ∧ f (some n) := by
  cases lo with
  | none => cases lo' with
    | none => exact .inl ⟨rfl, h⟩
    | some y => cases ho
  | some x => cases lo' with
    | none => cases ho
    | some y =>
      obtain ⟨z, hz, hf⟩ := asC_ev hev ho h
      split at hf
      · rename_i kk n; exact .inr ⟨y, n, kk, rfl, hz, hf⟩
      · exact hf.elim

theorem yld_slc {d : Nat} {τ : FT} {x : Arg} {lo hi : Option Arg} (h : HR c ρ Z Y st w) (hev : Ev ρ st a) (hi' : inOk P N o (.slc d τ x lo hi) = true) (hk : insK E (.slc d τ x lo hi) st k) : Yld P N o a ρ st k := by
  simp only [inOk, Bool.and_eq_true] at hi'
  obtain ⟨h1, h2⟩ := hi'
  obtain ⟨hd, hn⟩ := dOk_out h1
  split at h2
  · rename_i t y lo' hi2 mx hop
    simp only [Bool.and_eq_true] at h2
    obtain ⟨⟨⟨⟨hx, hlo⟩, hhi⟩, hmx⟩, ht⟩ := h2
    cases mx with
    | some _ => cases hmx
    | none =>
    obtain ⟨e, inf, hu, hinf, hsz⟩ := slOk_out ht
    obtain ⟨p, hp, hk1⟩ := asC_ev hev hx hk
    -- the cut, over a slice value
    have cut : ∀ (nn : Bool) (b off len : Nat) (l : Loc) (A : Option Addr), ρ b = some l → a.eval y = .slice A len (l.cap - off) → off + len ≤ l.len → l.len ≤ l.cap → (A = none → l.cap - off = 0) →
        (0 < l.cap - off → A = some ⟨l.blk, l.off + off * τ.sz, none⟩) → (nn = true → A ≠ none) →
        (∃ lv hv : Option Int, (lo'.map a.eval = none ∧ lv = none ∨ ∃ kk n, lo'.map a.eval = some (.int kk n) ∧ lv = some n) ∧ (hi2.map a.eval = none ∧ hv = none ∨ ∃ kk n, hi2.map a.eval = some (.int kk n) ∧ hv = some n) ∧
          slcK.cut lv hv (fun z => putC st d z k) nn τ b off len) → Yld P N o a ρ st k := by
      intro nn b off len l A hl hv hlen hcap hA0 hA1 hnn ⟨lv, hvv, hlv, hhv, hc⟩
      have fin : ∀ (m q : Nat), m ≤ q → q ≤ len → (lo'.map a.eval = none ∧ m = 0 ∨ ∃ kk, lo'.map a.eval = some (.int kk (m : Int))) → (hi2.map a.eval = none ∧ q = len ∨ ∃ kk, hi2.map a.eval = some (.int kk (q : Int))) →
          putC st d (.slp nn τ b (off + m) (q - m)) k → Yld P N o a ρ st k := by
        intro m q hmq hq hl1 hh1 hput
        have hs : ∀ w', (sizeOf e).run P w' = .ok τ.sz w' := fun w' => by simp [sizeOf, run_typeInfo w' hinf, hsz]
        have hrun := fun w' => run_bounds (P := P) w' len (l.cap - off) m q _ _ hl1 hh1 hmq (by omega)
        refine ⟨d, .slice (if l.cap - off = m then A else A.map (·.add (m * τ.sz))) (q - m) (l.cap - off - m), .v (.c (.slp nn τ b (off + m) (q - m))), hd, hn, ?_, hput, fun w' => by
          simp [execOp, hop, hv, Instr.sliceAt, Instr.slice, run_underlying hu, hrun w', hs w']⟩
        refine ⟨l, if l.cap - off = m then A else A.map (·.add (m * τ.sz)), hl, by rw [Nat.sub_sub], by omega, hcap, fun e => ?_, fun hpos => ?_, fun e1 e2 => ?_⟩
        · split at e
          · have := hA0 e; omega
          · rw [Option.map_eq_none_iff] at e; have := hA0 e; omega
        · rw [if_neg (by omega), hA1 (by omega)]
          simp only [Option.map_some, Addr.add_mid]
          rw [Nat.add_mul, Nat.add_assoc]
        · split at e2
          · exact hnn e1 e2
          · rw [Option.map_eq_none_iff] at e2; exact hnn e1 e2
      unfold slcK.cut at hc
      rcases hlv with ⟨hl1, rfl⟩ | ⟨kl, n, hl1, rfl⟩ <;> rcases hhv with ⟨hh1, rfl⟩ | ⟨kh, q, hh1, rfl⟩
      · -- nothing is cut: the value is as it was
        have hs : ∀ w', (sizeOf e).run P w' = .ok τ.sz w' := fun w' => by simp [sizeOf, run_typeInfo w' hinf, hsz]
        have hrun := fun w' => run_bounds (P := P) w' len (l.cap - off) 0 len _ _ (.inl ⟨rfl, rfl⟩) (.inl ⟨rfl, rfl⟩) (by omega) (by omega)
        refine ⟨d, .slice A len (l.cap - off), .v (.c (.slp nn τ b off len)), hd, hn, ⟨l, A, hl, rfl, hlen, hcap, hA0, hA1, hnn⟩, hc, fun w' => ?_⟩
        have hAm : (if l.cap - off = 0 then A else A.map (·.add (0 * τ.sz))) = A := by
          split
          · rfl
          · cases A <;> simp [Addr.add]
        rw [Option.map_eq_none_iff] at hl1 hh1
        simp only [Nat.zero_mul] at hAm
        simp [execOp, hop, hv, Instr.sliceAt, Instr.slice, run_underlying hu, hrun w', hs w', hl1, hh1, hAm]
      · obtain ⟨hb, hc⟩ := chk_o hc
        obtain ⟨q', rfl⟩ := Int.eq_ofNat_of_zero_le (show 0 ≤ q by omega)
        exact fin 0 q' (by omega) (by omega) (.inl ⟨hl1, rfl⟩) (.inr ⟨kh, hh1⟩) (by simpa using hc)
      · obtain ⟨hb, hc⟩ := chk_o hc
        obtain ⟨n', rfl⟩ := Int.eq_ofNat_of_zero_le (show 0 ≤ n by omega)
        have e1 : ((len : Int) - (n' : Int)).toNat = len - n' := by omega
        exact fin n' len (by omega) (by omega) (.inr ⟨kl, hl1⟩) (.inl ⟨hh1, rfl⟩) (by simpa [e1] using hc)
      · obtain ⟨hb, hc⟩ := chk_o hc
        obtain ⟨n', rfl⟩ := Int.eq_ofNat_of_zero_le (show 0 ≤ n by omega)
        obtain ⟨q', rfl⟩ := Int.eq_ofNat_of_zero_le (show 0 ≤ q by omega)
        have e1 : ((q' : Int) - (n' : Int)).toNat = q' - n' := by omega
        exact fin n' q' (by omega) (by omega) (.inr ⟨kl, hl1⟩) (.inr ⟨kh, hh1⟩) (by simpa [e1] using hc)
    -- the bounds
    have bounds : ∀ {f : Option Int → Option Int → Prop}, asI st lo (fun lv => asI st hi (fun hv => f lv hv)) →
        ∃ lv hv : Option Int, (lo'.map a.eval = none ∧ lv = none ∨ ∃ kk n, lo'.map a.eval = some (.int kk n) ∧ lv = some n) ∧ (hi2.map a.eval = none ∧ hv = none ∨ ∃ kk n, hi2.map a.eval = some (.int kk n) ∧ hv = some n) ∧ f lv hv := by
      intro f hf
      rcases asI_out hev hlo hf with ⟨rfl, hf1⟩ | ⟨z, n, kk, rfl, hz, hf1⟩
      · rcases asI_out hev hhi hf1 with ⟨rfl, hf2⟩ | ⟨z, n, kk, rfl, hz, hf2⟩
        · exact ⟨none, none, .inl ⟨rfl, rfl⟩, .inl ⟨rfl, rfl⟩, hf2⟩
        · exact ⟨none, some n, .inl ⟨rfl, rfl⟩, .inr ⟨kk, n, by simp [hz], rfl⟩, hf2⟩
      · rcases asI_out hev hhi hf1 with ⟨rfl, hf2⟩ | ⟨z', n', kk', rfl, hz', hf2⟩
        · exact ⟨some n, none, .inr ⟨kk, n, by simp [hz], rfl⟩, .inl ⟨rfl, rfl⟩, hf2⟩
        · exact ⟨some n, some n', .inr ⟨kk, n, by simp [hz], rfl⟩, .inr ⟨kk', n', by simp [hz'], rfl⟩, hf2⟩
    obtain ⟨lv, hv, b1, b2, hs⟩ := bounds hk1
    unfold slcK at hs
    split at hs
    · rename_i nn σ b
      split at hs
      · rename_i hft
        have hft := ftEq_eq hft
        subst hft
        split at hs
        · rename_i rw' σ' cap xs hg
          obtain ⟨l, A, hlb, hval, hle, hA0, hA1, hnn⟩ := hp
          obtain ⟨l', hl', hB⟩ := h.bk b _ hg
          rw [hlb] at hl'
          cases hl'
          have hlen := hB.1
          exact cut nn b 0 xs.length l A hlb (by rw [← hlen, Nat.sub_zero]; exact hval) (by omega) hle (fun e => by have := hA0 e; omega) (fun e => by rw [Nat.zero_mul]; exact hA1 (by omega)) hnn ⟨lv, hv, b1, b2, hs⟩
        · exact hs.elim
      · exact hs.elim
    · rename_i nn σ b off len
      split at hs
      · rename_i hft
        have hft := ftEq_eq hft
        subst hft
        obtain ⟨l, A, hlb, hval, hle, hcap, hA0, hA1, hnn⟩ := hp
        exact cut nn b off len l A hlb hval hle hcap hA0 hA1 hnn ⟨lv, hv, b1, b2, hs⟩
      · exact hs.elim
    · exact hs.elim
  · cases h2

theorem run_places (fs : Array Field) (w : World) (h : allInfo P fs.toList = true) :
    (fs.mapM fun f => do pure (f.offset, ← sizeOf f.type) : Sem (Array (Nat × Nat))).run P w = .ok (fs.map fun f => (f.offset, P.cellsOf f.type)) w := by
  rw [Array.mapM_eq_mapM_toList]
  have : ∀ l : List Field, allInfo P l = true → (l.mapM fun f => do pure (f.offset, ← sizeOf f.type) : Sem (List (Nat × Nat))).run P w = .ok (l.map fun f => (f.offset, P.cellsOf f.type)) w := by
    intro l
    induction l with
    | nil => intro _; rfl
    | cons f l ih =>
      intro h
      simp only [allInfo, Bool.and_eq_true] at h
      split at h
      · rename_i i hi
        simp only [List.mapM_cons, Sem.run_bind, run_sizeOf w hi, Result.andThen_ok, Sem.run_pure, ih h.2, List.map_cons]
      · exact absurd h.1 (by simp)
  simp only [Sem.run_map, this _ h, Result.andThen_ok]
  congr 1
  rw [← Array.toList_map, Array.toArray_toList]

theorem fill_one (vs : List Value) : ∀ (n off : Nat) (cells : Array Value), off + n + vs.length ≤ cells.size →
    ((vs.zipIdx n).foldl (fun cs (p : Value × Nat) => cs.setIfInBounds (off + p.2) p.1) cells).toList = cells.toList.take (off + n) ++ vs ++ cells.toList.drop (off + n + vs.length) := by
  induction vs with
  | nil => intro n off cells _; simp
  | cons v vs ih =>
    intro n off cells h
    simp only [List.length_cons] at h
    rw [List.zipIdx_cons, List.foldl_cons, ih (n + 1) off _ (by simp; omega)]
    have hlt : off + n < cells.toList.length := by simp; omega
    simp only [Array.toList_setIfInBounds, List.length_cons]
    have e1 : (cells.toList.set (off + n) v).take (off + (n + 1)) = cells.toList.take (off + n) ++ [v] := by
      rw [show off + (n + 1) = (off + n) + 1 by omega, List.take_succ_eq_append_getElem (by simpa using hlt)]
      simp [List.take_set_of_le (Nat.le_refl _)]
    have e2 : (cells.toList.set (off + n) v).drop (off + (n + 1) + vs.length) = cells.toList.drop (off + n + (vs.length + 1)) := by
      rw [List.drop_set_of_lt (by omega)]
      congr 1; omega
    rw [e1, e2]
    simp

theorem parts_out {fs : Array Field} (hev : Ev ρ st a) : ∀ {ps : List (Nat × Nat × Arg)} {qs : List (Nat × Operand)} {cs : List Cell} {cells : Array Value} {f : List Cell → Prop}, partsOk P fs ps qs = true → CellsR ρ cs cells.toList → parts st ps cs f →
    ∃ cs' cells', f cs' ∧ CellsR ρ cs' cells'.toList ∧ Instr.fill ((fs.map fun f => (f.offset, P.cellsOf f.type))[·]?) cells (qs.map fun q => (q.1, a.eval q.2)) = some cells'
  | [], [], cs, cells, f, _, hr, hk => ⟨cs, cells, hk, hr, rfl⟩
  | (off, n, x) :: ps, (i, y) :: qs, cs, cells, f, hc, hr, hk => by
    simp only [partsOk, Bool.and_eq_true] at hc
    obtain ⟨⟨hf, hx⟩, hrest⟩ := hc
    split at hf
    · rename_i fd hfd
      simp only [Bool.and_eq_true] at hf
      obtain ⟨h4, h5⟩ := hf
      have h4 := Nat.eq_of_beq_eq_true h4
      subst h4
      obtain ⟨inf, hinf, hsz⟩ := szOk_out h5
      have hk0 : asV (st.ev x) (fun v => cells1 v fun vs => lenIs vs n (sp cs fd.offset vs fun cs => parts st ps cs f)) := hk
      obtain ⟨z, hz, hk1⟩ := asV_ev hev hx hk0
      have hk2 := cells1_out hk1
      obtain ⟨hlen, hk3⟩ := lenIs_out _ _ _ hk2
      obtain ⟨hle, hk4⟩ := sp_out _ _ _ _ hk3
      have hzc := hz.cells
      have hcl := All2.length hzc
      have hcs := All2.length hr
      have hsize : (a.eval y).cells.size = n := by rw [← hlen, hcl]; simp
      have hcell : P.cellsOf fd.type = n := by simp [Program.cellsOf, hinf, hsz]
      have hone := fill_one (a.eval y).cells.toList 0 fd.offset cells (by simp at hcs ⊢; omega)
      simp only [Nat.add_zero] at hone
      obtain ⟨cs', cells', g1, g2, g3⟩ := parts_out hev (cells := (((a.eval y).cells.toList.zipIdx 0).foldl (fun cs (p : Value × Nat) => cs.setIfInBounds (fd.offset + p.2) p.1) cells)) hrest (by
        rw [hone]
        refine All2.append (All2.append (All2.take _ hr) hzc) ?_
        rw [hcl]; exact All2.drop _ hr) hk4
      refine ⟨cs', cells', g1, g2, ?_⟩
      have hplace : (fs.map fun f => (f.offset, P.cellsOf f.type))[i]? = some (fd.offset, n) := by simp [hfd, hcell]
      simp only [List.map_cons, Instr.fill, hplace]
      have hnot : ¬ (((decide ((a.eval y).cells.size ≠ n)) || decide (fd.offset + (a.eval y).cells.size > cells.size)) = true) := by
        simp at hcs
        simp [hsize]; omega
      rw [if_neg hnot, ← g3]
      congr 1
      rw [← Array.foldl_toList, Array.toList_zipIdx]
    · exact absurd hf (by simp)
  | [], _ :: _, _, _, _, hc, _, _ => by cases hc
  | _ :: _, [], _, _, _, hc, _, _ => by cases hc

theorem yld_build {d : Nat} {z : List Cell} {ps : List (Nat × Nat × Arg)} (hev : Ev ρ st a) (hi : inOk P N o (.build d z ps) = true) (hk : insK E (.build d z ps) st k) : Yld P N o a ρ st k := by
  simp only [inOk, Bool.and_eq_true] at hi
  obtain ⟨h1, h2⟩ := hi
  obtain ⟨hd, hn⟩ := dOk_out h1
  split at h2
  · rename_i t qs hop
    simp only [Bool.and_eq_true] at h2
    obtain ⟨hz, h3⟩ := h2
    split at h3
    · rename_i fs hfs
      simp only [Bool.and_eq_true] at h3
      obtain ⟨ha, hp⟩ := h3
      obtain ⟨zv, hzv, _, hzr⟩ := zeroOk_out hz
      obtain ⟨cs', cells', g1, g2, g3⟩ := parts_out hev hp (hzr.mono (none0_le ρ)) hk
      refine ⟨d, .agg cells', .v (.g cs'), hd, hn, ⟨cells'.toList, by simp, g2⟩, g1, fun w' => ?_⟩
      simp only [execOp, hop, Instr.build, Sem.run_bind, hzv, run_underlying hfs, Result.andThen_ok, run_places fs w' ha, Array.toList_map, g3, Sem.run_pure]
    · cases h3
  · cases h2
end
end Go.Pi
