/- Instructions that make blocks: variables, rows; append. No conditions. -/
import Derived.Test.YtgpchgakonpcfaaGreatDoorPiEff1
import Derived.Lib.ConvBytes
namespace Go.Pi
set_option linter.unusedVariables false
set_option linter.unusedSimpArgs false
set_option linter.constructorNameAsVariable false

structure Grown (w w' : World) (arr : Array Value) (u : Bool) : Prop where
  fr : Frame w w' []
  size : w'.heap.size = w.heap.size + 1
  cell : ∀ j, w'.cell? ⟨w.heap.size, j, none⟩ = arr[j]?
  frz : ∀ j, j < arr.size → w'.frozen? ⟨w.heap.size, j, none⟩ = false
  free : Unbar w' w.heap.size arr.size u
theorem Grown.alloc {u : Bool} (w : World) (arr : Array Value) (e : TypeId) : Grown w (w.alloc (.cells arr e)) arr u :=
  ⟨⟨rfl, rfl, rfl, by simp, fun k hk _ => by simp [World.alloc, -World.alloc_eq, Array.getElem?_push, Nat.ne_of_lt hk]⟩, by simp, fun j => World.cell?_alloc_new w arr e j, fun j _ => World.frozen?_alloc_new w arr e j, fun c e lo hi h => .inl (by simp [World.alloc, -World.alloc_eq] at h; omega)⟩
theorem Grown.drew {u : Bool} (w : World) (arr : Array Value) (e : TypeId) : Grown w (w.drew.alloc (.cells arr e)) arr u := by
  have := Grown.alloc (u := u) w.drew arr e
  exact ⟨⟨rfl, rfl, rfl, by simp, fun k hk _ => by simp [World.alloc, World.drew, -World.alloc_eq, -World.drew_eq, Array.getElem?_push, Nat.ne_of_lt hk]⟩, by simp, fun j => World.cell?_alloc_new w.drew arr e j, fun j _ => World.frozen?_alloc_new w.drew arr e j, fun c e lo hi h => .inl (by simp [World.alloc, World.drew, -World.alloc_eq, -World.drew_eq] at h; omega)⟩
theorem Grown.bytes (w : World) (e : TypeId) (s : ByteArray) : Grown w (Lib.bytesWorld w e s) (Lib.bytesCells w e s) true := by
  have ho := fun j hj => Lib.bytesWorld_at_old w e s j hj
  refine ⟨⟨?_, ?_, ?_, by rw [Lib.bytesWorld_size]; omega, fun k hk _ => ho k hk⟩, Lib.bytesWorld_size w e s, fun j => ?_, fun j hj => ?_, ?_⟩
  · unfold Lib.bytesWorld World.freeze; split <;> rfl
  · unfold Lib.bytesWorld World.freeze; split <;> rfl
  · unfold Lib.bytesWorld World.freeze; split <;> rfl
  · simp [World.cell?, Lib.bytesWorld_at_new]
  · simp [World.frozen?, Lib.bytesWorld_at_new]; omega
  · intro c e' lo hi h
    rw [Lib.bytesWorld_at_new] at h
    simp at h; exact .inr ⟨rfl, by omega⟩
theorem Grown.range {w w' : World} {arr : Array Value} {u : Bool} (g : Grown w w' arr u) {vals rest : List Value} (h : arr.toList = vals ++ rest) : w'.rangeAt w.heap.size 0 vals := fun j v hj => by
  rw [Nat.zero_add, g.cell, ← Array.getElem?_toList, h, List.getElem?_append_left (List.getElem?_eq_some_iff.1 hj).1]; exact hj
theorem Grown.there {w w' : World} {arr : Array Value} {u : Bool} (g : Grown w w' arr u) {n : Nat} (h : n ≤ arr.size) : w'.there w.heap.size 0 n := fun j hj => by
  rw [Nat.zero_add, g.cell, g.frz j (by omega)]; exact ⟨by simp; omega, rfl⟩

section
variable {P : Program} {N : Nat} {o : Oper} {a : Act} {E : List Fun} {c : Ctx P} {ρ : Map} {Z Y : List Nat} {st : St} {w : World} {k : St → Prop}

theorem HR.fresh {w' : World} {arr : Array Value} {u : Bool} {B : Blk} {l : Loc} {i : Nat} {nx : List Nat} (g : Grown w w' arr u) (h : HR c ρ [] [] st w) (hn : st.nx = i :: nx) (hf : B.foot l = [] ∨ B.foot l = [w.heap.size]) (hs : B.shw l = []) (hB : BlkR w' ρ l B) :
    HR c (ρ.add i l) [] [] ⟨st.tm, (i, some B) :: st.hp, nx, st.ar, st.q, i :: st.fr⟩ w' ∧ ρ.le (ρ.add i l) ∧ (st.q = true → ∀ n, c.qs n → w'.heap[n]? = w.heap[n]?) := by
  have h1 : HR c ρ (B.foot l ++ []) [] st w' := by
    refine h.world (Z' := B.foot l ++ []) (Y' := []) g.fr ?_ (fun z hz => ?_) (fun y hy => by cases hy)
    · rcases hf with e | e <;> rw [e] <;> simp
    · rcases hf with e | e
      · rw [e] at hz; cases hz
      · rw [e] at hz
        have : z = w.heap.size := by simpa using hz
        exact ⟨by rw [g.size]; omega, .inr (by omega), fun hy => by cases hy⟩
  obtain ⟨h2, h3⟩ := HR.made hn h1 hB (by rw [hs]; intro x hx; cases hx)
  exact ⟨h2, h3, fun hq n hlt => g.fr.2.2.2.2 n (h.qw hq n hlt) (by simp)⟩

theorem out_alloc {d : Nat} {z : List Cell} (h : HR c ρ [] [] st w) (hi : inOk P N o (.alloc d z) = true) (hk : insK E (.alloc d z) st k) : Out P N o a c ρ st w k := by
  simp only [inOk, Bool.and_eq_true] at hi
  obtain ⟨h1, h2⟩ := hi
  obtain ⟨hd, hn⟩ := dOk_out h1
  split at h2
  · rename_i t hop
    obtain ⟨v, hv, _, hr⟩ := zeroOk_out h2
    have hk0 : new st (.box true z) (fun st b => putC st d (.ptr b 0) k) := hk
    obtain ⟨i, nx, hnx, hk1⟩ := new_out hk0
    have g := Grown.alloc (u := true) w v.cells t
    obtain ⟨g1, g2, g3⟩ := HR.fresh (B := .box true z) (l := ⟨w.heap.size, 0, 0, 0, []⟩) g h hnx (.inr rfl) rfl ⟨⟨v.cells.toList, g.range (rest := []) (by simp), hr.mono (none0_le ρ)⟩, fun _ => g.there (by rw [All2.length hr]; simp)⟩
    refine ⟨fun e he => by rw [hd] at he; cases he; exact hn, .inl ⟨.pointer (some ⟨w.heap.size, 0, none⟩), _, ?_, _, _, .v (.c (.ptr i 0)), g1, g2, ⟨rfl, rfl, rfl⟩, ⟨_, Map.add_same _ _ _, rfl⟩, by rw [hd]; exact hk1, g3⟩⟩
    simp [execOp, hop, Instr.alloc, hv w, newVar, newRow]
  · cases h2

theorem out_box {d : Nat} {x : Arg} (h : HR c ρ [] [] st w) (hev : Ev ρ st a) (hi : inOk P N o (.box d x) = true) (hk : insK E (.box d x) st k) : Out P N o a c ρ st w k := by
  simp only [inOk, Bool.and_eq_true] at hi
  obtain ⟨h1, h2⟩ := hi
  obtain ⟨hd, hn⟩ := dOk_out h1
  split at h2
  · rename_i t y hop
    obtain ⟨xv, hxv, hk0⟩ := asV_ev hev h2 hk
    have hk1 := cells1_out hk0
    obtain ⟨i, nx, hnx, hk2⟩ := new_out hk1
    have hr := hxv.cells
    have g := Grown.alloc (u := true) w (a.eval y).cells t
    obtain ⟨g1, g2, g3⟩ := HR.fresh (B := .box true (cellsOf1 xv)) (l := ⟨w.heap.size, 0, 0, 0, []⟩) g h hnx (.inr rfl) rfl ⟨⟨(a.eval y).cells.toList, g.range (rest := []) (by simp), hr⟩, fun _ => g.there (by rw [All2.length hr]; simp)⟩
    refine ⟨fun e he => by rw [hd] at he; cases he; exact hn, .inl ⟨.pointer (some ⟨w.heap.size, 0, none⟩), _, ?_, _, _, .v (.c (.ptr i 0)), g1, g2, ⟨rfl, rfl, rfl⟩, ⟨_, Map.add_same _ _ _, rfl⟩, by rw [hd]; exact hk2, g3⟩⟩
    simp [execOp, hop, Instr.box, newVar, newRow]
  · cases h2

theorem HR.row {w' : World} {arr : Array Value} {τ : FT} {xs : List τ.Ty} {cap : Nat} {vals rest : List Value} {i : Nat} {nx : List Nat} (g : Grown w w' arr τ.u8) (h : HR c ρ [] [] st w) (hn : st.nx = i :: nx)
    (hr : CellsR none0 (flats τ xs) vals) (harr : arr.toList = vals ++ rest) (hcap : xs.length ≤ cap) (hsz : cap * τ.sz ≤ arr.size) (nn : Bool) :
    ∃ ρ', HR c ρ' [] [] ⟨st.tm, (i, some (.flat true τ none xs)) :: st.hp, nx, st.ar, st.q, i :: st.fr⟩ w' ∧ ρ.le ρ' ∧ (st.q = true → ∀ n, c.qs n → w'.heap[n]? = w.heap[n]?) ∧
      CellR ρ' (.sl nn τ i) (.slice (some ⟨w.heap.size, 0, none⟩) xs.length cap) := by
  obtain ⟨g1, g2, g3⟩ := HR.fresh (B := .flat true τ none xs) (l := ⟨w.heap.size, 0, cap, xs.length, []⟩) g h hn (by simp only [Blk.foot]; split <;> simp) rfl
    ⟨rfl, hcap, (fun _ e => by cases e), ⟨vals, g.range harr, hr⟩, fun _ => ⟨g.there hsz, fun _ => g.free.le (by dsimp only; omega)⟩⟩
  exact ⟨_, g1, g2, g3, ⟨w.heap.size, 0, cap, xs.length, []⟩, some ⟨w.heap.size, 0, none⟩, Map.add_same _ _ _, rfl, hcap, (fun e => by cases e), fun _ => rfl, fun _ e => by cases e⟩

theorem flats_zero {τ : FT} {z : Array Value} (hr : CellsR none0 (τ.flat τ.zero) z.toList) : ∀ n, CellsR none0 (flats τ (List.replicate n τ.zero)) (madeCells z (n * τ.sz)).toList := by
  have hz : z.size = τ.sz := by have := All2.length hr; rw [flat_length] at this; simpa using this.symm
  have key : ∀ n, (madeCells z (n * τ.sz)).toList = (List.replicate n z.toList).flatten := by
    intro n
    induction n with
    | zero => simp [madeCells]
    | succ n ih =>
      rw [List.replicate_succ', List.flatten_concat, ← ih]
      unfold madeCells
      rw [Array.toList_map, Array.toList_map, Array.toList_range, Array.toList_range, Nat.succ_mul, List.range_add, List.map_append]
      congr 1
      rw [List.map_map]
      apply List.ext_getElem?
      intro j
      by_cases hj : j < τ.sz
      · have hm : (n * τ.sz + j) % z.size = j := by rw [hz, Nat.mul_comm, Nat.mul_add_mod, Nat.mod_eq_of_lt hj]
        simp [hj, hm]
        rw [← hz] at hj
        simp [hj]
      · simp [hj]; omega
  intro n
  rw [key]
  induction n with
  | zero => trivial
  | succ n ih =>
    rw [List.replicate_succ, List.replicate_succ, flats, List.flatMap_cons, List.flatten_cons]
    exact All2.append hr ih

theorem out_mkS {d : Nat} {τ : FT} {n : Arg} (h : HR c ρ [] [] st w) (hev : Ev ρ st a) (hi : inOk P N o (.mkS d τ n) = true) (hk : insK E (.mkS d τ n) st k) : Out P N o a c ρ st w k := by
  simp only [inOk, Bool.and_eq_true] at hi
  obtain ⟨h1, h2⟩ := hi
  obtain ⟨hd, hn⟩ := dOk_out h1
  split at h2
  · rename_i t l cc hop
    simp only [Bool.and_eq_true] at h2
    obtain ⟨⟨⟨hl, hc⟩, ht⟩, hz⟩ := h2
    obtain ⟨e, inf, hu, hinf, hsz⟩ := slOk_out ht
    rw [hu] at hz
    simp only [Bool.and_eq_true] at hz
    obtain ⟨hz, hby⟩ := hz
    rw [hinf] at hby
    have hby := Nat.le_of_ble_eq_true hby
    obtain ⟨zv, _, ⟨inf', hinf', hzv⟩, hzr⟩ := zeroOk_out hz
    rw [hinf] at hinf'
    cases hinf'
    have hk0 : asC (st.ev n) (fun m => match m with | .int _ n => chk (0 ≤ n ∧ n ≤ 2147483647) (new st (.flat true τ none (List.replicate n.toNat τ.zero)) fun st b => putC st d (.sl true τ b) k) | _ => False) := hk
    obtain ⟨p, hp, hk1⟩ := asC_out hk0
    have hlv := hev _ _ hl
    have hcv := hev _ _ hc
    rw [hp] at hlv hcv
    cases p with
    | int kk m =>
      obtain ⟨hm, hk2⟩ := chk_o hk1
      obtain ⟨i, nx, hnx, hk3⟩ := new_out hk2
      have hlv : a.eval l = .int kk m := hlv
      have hcv : a.eval cc = .int kk m := hcv
      obtain ⟨m, rfl⟩ := Int.eq_ofNat_of_zero_le hm.1
      have hbb : (inf.bytes : Int) * (m : Int) ≤ 281474976710656 := by
        have : inf.bytes * m ≤ 131072 * 2147483647 := Nat.mul_le_mul hby (by omega)
        have h2 : ((inf.bytes * m : Nat) : Int) ≤ 281474976710656 := by omega
        rwa [Int.natCast_mul] at h2
      have hrun := run_make (P := P) w t e inf zv hu hinf hzv kk kk m m (by omega) (Int.le_refl _) hbb (by omega)
      simp only [Int.toNat_natCast, hsz] at hrun hk3
      obtain ⟨ρ', g1, g2, g3, g4⟩ := HR.row (τ := τ) (xs := List.replicate m τ.zero) (cap := m) (rest := []) (Grown.alloc w (madeCells zv.cells (m * τ.sz)) e) h hnx (flats_zero hzr m) (by simp) (by simp) (by rw [size_madeCells]; exact Nat.le_refl _) true
      refine ⟨fun e he => by rw [hd] at he; cases he; exact hn, .inl ⟨.slice (some ⟨w.heap.size, 0, none⟩) m m, _, by simp only [execOp, hop, hlv, hcv, Sem.run_bind, hrun, Result.andThen_ok, Sem.run_pure], _, _, .v (.c (.sl true τ i)), g1, g2, ⟨rfl, rfl, rfl⟩, ?_, by rw [hd]; exact hk3, g3⟩⟩
      rw [List.length_replicate] at g4
      exact g4
    | _ => exact hk1.elim
  · cases h2

theorem fill_rows (size : Nat) : ∀ (ps : List (Nat × Value)) (i : Nat) (cells : Array Value), (∀ p ∈ ps, p.2.cells.size = size) → (ps.map (·.1) = (List.range' i ps.length)) → (i + ps.length) * size = cells.size →
    ∃ cells', Instr.fill (fun i => some (i * size, size)) cells ps = some cells' ∧ cells'.toList = cells.toList.take (i * size) ++ ps.flatMap (fun p => p.2.cells.toList)
  | [], i, cells, _, _, hs => ⟨cells, rfl, by simp at hs; rw [List.take_of_length_le (by simp [hs])]; simp⟩
  | (j, v) :: ps, i, cells, hv, hj, hs => by
    simp only [List.map_cons, List.length_cons, List.range'_succ, List.cons.injEq] at hj
    obtain ⟨rfl, hj⟩ := hj
    have hv1 : v.cells.size = size := hv (j, v) (by simp)
    have hle : j * size + size ≤ cells.size := by
      rw [← hs, ← Nat.succ_mul]; exact Nat.mul_le_mul_right _ (by simp)
    have hone := fill_one v.cells.toList 0 (j * size) cells (by simp; omega)
    simp only [Nat.add_zero] at hone
    have hsz : (((v.cells.toList.zipIdx 0).foldl (fun cs (p : Value × Nat) => cs.setIfInBounds (j * size + p.2) p.1) cells)).size = cells.size := by
      rw [← Array.length_toList, hone]; simp; omega
    obtain ⟨cells', g1, g2⟩ := fill_rows size ps (j + 1) ((v.cells.toList.zipIdx 0).foldl (fun cs (p : Value × Nat) => cs.setIfInBounds (j * size + p.2) p.1) cells) (fun p hp => hv p (by simp [hp])) hj (by rw [hsz, ← hs]; simp; congr 1; omega)
    refine ⟨cells', ?_, ?_⟩
    · have hnot : ¬ ((decide (v.cells.size ≠ size) || decide (j * size + v.cells.size > cells.size)) = true) := by simp [hv1]; omega
      simp only [Instr.fill]
      rw [if_neg hnot, ← g1]
      congr 1
      rw [← Array.foldl_toList, Array.toList_zipIdx]
    · rw [g2, hone, List.flatMap_cons, ← List.append_assoc]
      congr 1
      rw [List.take_append_of_le_length (by simp [hv1, Nat.succ_mul]; omega)]
      rw [List.take_of_length_le (by simp [hv1, Nat.succ_mul]; omega)]

theorem rows_out {τ : FT} (hev : Ev ρ st a) : ∀ {xs : List Arg} {ys : List (Nat × Operand)} {i : Nat} {f : List τ.Ty → Prop}, rowOk xs ys i = true → rows st τ xs f →
    ∃ zs, f zs ∧ zs.length = xs.length ∧ CellsR none0 (flats τ zs) ((ys.map fun q => (q.1, a.eval q.2)).flatMap fun p => p.2.cells.toList) ∧ (∀ p ∈ (ys.map fun q => (q.1, a.eval q.2)), p.2.cells.size = τ.sz) ∧
      (ys.map fun q => (q.1, a.eval q.2)).map (·.1) = List.range' i ys.length ∧ ys.length = xs.length
  | [], [], i, f, _, hk => ⟨[], hk, rfl, trivial, (fun p hp => by cases hp), rfl, rfl⟩
  | x :: xs, (j, y) :: ys, i, f, hc, hk => by
    simp only [rowOk, Bool.and_eq_true] at hc
    obtain ⟨⟨hj, hx⟩, hrest⟩ := hc
    have hj := Nat.eq_of_beq_eq_true hj
    subst hj
    have hk0 : asV (st.ev x) (fun v => cells1 v fun vs => τ.parse vs fun x => rows st τ xs fun xs => f (x :: xs)) := hk
    obtain ⟨z, hz, hk1⟩ := asV_ev hev hx hk0
    obtain ⟨x', hk2, hceq⟩ := parse_out (cells1_out hk1)
    obtain ⟨zs, g1, g2, g3, g4, g5, g6⟩ := rows_out hev hrest hk2
    have hzc := hceq.cells hz.cells
    refine ⟨x' :: zs, g1, by simp [g2], ?_, ?_, ?_, by simp [g6]⟩
    · simp only [flats, List.flatMap_cons, List.map_cons]; exact All2.append hzc g3
    · intro p hp
      rcases List.mem_cons.1 hp with rfl | hp
      · have := All2.length hzc; rw [flat_length] at this; simpa using this.symm
      · exact g4 p hp
    · simp only [List.map_cons, List.length_cons, List.range'_succ, g5]
  | [], _ :: _, _, _, hc, _ => by cases hc
  | _ :: _, [], _, _, hc, _ => by cases hc

theorem out_bs {d : Nat} {τ : FT} {xs : List Arg} (h : HR c ρ [] [] st w) (hev : Ev ρ st a) (hi : inOk P N o (.bs d τ xs) = true) (hk : insK E (.bs d τ xs) st k) : Out P N o a c ρ st w k := by
  simp only [inOk, Bool.and_eq_true] at hi
  obtain ⟨h1, h2⟩ := hi
  obtain ⟨hd, hn⟩ := dOk_out h1
  split at h2
  · rename_i t n ps hop
    simp only [Bool.and_eq_true] at h2
    obtain ⟨⟨⟨⟨hlen, hbig⟩, hrow⟩, ht⟩, hz⟩ := h2
    have hlen := Nat.eq_of_beq_eq_true hlen
    have hbig := Nat.le_of_ble_eq_true hbig
    obtain ⟨e, inf, hu, hinf, hsz⟩ := slOk_out ht
    rw [hu] at hz
    obtain ⟨zv, hzv, _, hzr⟩ := zeroOk_out hz
    obtain ⟨zs, g1, g2, g3, g4, g5, g6⟩ := rows_out hev hrow hk
    obtain ⟨i, nx, hnx, hk3⟩ := new_out g1
    have hs : (sizeOf e).run P w = .ok τ.sz w := by simp [sizeOf, run_typeInfo w hinf, hsz]
    have hrow : ∀ zero : Array Value, ∃ cells', Instr.fill (fun i => some (i * τ.sz, τ.sz)) ((Array.range (n * τ.sz)).map (zero[· % zero.size]!)) (ps.toList.map fun q => (q.1, a.eval q.2)) = some cells' ∧
        cells'.toList = (ps.toList.map fun q => (q.1, a.eval q.2)).flatMap fun p => p.2.cells.toList := by
      intro zero
      obtain ⟨cells', f1, f2⟩ := fill_rows τ.sz (ps.toList.map fun q => (q.1, a.eval q.2)) 0 ((Array.range (n * τ.sz)).map (zero[· % zero.size]!)) g4 (by rw [g5]; simp) (by simp only [List.length_map, g6, Nat.zero_add]; simp [hlen])
      exact ⟨cells', f1, by rw [f2]; simp⟩
    have hrun : ∃ cells' : Array Value, (execOp a.eval o).run P w = .ok (.value (.slice (some ⟨w.heap.size, 0, none⟩) n n)) (w.alloc (.cells cells' e)) ∧
        cells'.toList = (ps.toList.map fun q => (q.1, a.eval q.2)).flatMap fun p => p.2.cells.toList := by
      by_cases h0 : n * τ.sz = 0
      · obtain ⟨cells', f1, f2⟩ := hrow #[]
        refine ⟨cells', ?_, f2⟩
        have f1' : Instr.fill (fun i => some (i * τ.sz, τ.sz)) ((Array.range 0).map ((#[] : Array Value)[· % (#[] : Array Value).size]!)) (ps.toList.map fun q => (q.1, a.eval q.2)) = some cells' := by rw [← f1, h0]
        simp only [execOp, hop, Instr.buildSlice, Sem.run_bind, run_underlying hu, Result.andThen_ok, hs, h0, Array.toList_map, Sem.run_pure, Sem.run_ite, if_true, f1', newRow, run_newObj, World.alloc_eq]
        simp
      · obtain ⟨cells', f1, f2⟩ := hrow zv.cells
        refine ⟨cells', ?_, f2⟩
        have hb : ¬ (n * τ.sz > 2 ^ 24) := by omega
        simp only [execOp, hop, Instr.buildSlice, Sem.run_bind, run_underlying hu, Result.andThen_ok, hs, h0, hb, Array.toList_map, Sem.run_pure, Sem.run_ite, if_false, hzv w, f1, newRow, run_newObj, World.alloc_eq]
    obtain ⟨cells', hrun, hcells⟩ := hrun
    have hcl : cells'.size = n * τ.sz := by
      rw [← Array.length_toList, hcells, ← All2.length g3, flats_length, g2, hlen]
    obtain ⟨ρ', q1, q2, q3, q4⟩ := HR.row (τ := τ) (xs := zs) (cap := n) (rest := []) (Grown.alloc w cells' e) h hnx g3 (by rw [hcells]; simp) (by omega) (by omega) true
    refine ⟨fun e he => by rw [hd] at he; cases he; exact hn, .inl ⟨_, _, hrun, _, _, .v (.c (.sl true τ i)), q1, q2, ⟨rfl, rfl, rfl⟩, ?_, by rw [hd]; exact hk3, q3⟩⟩
    rw [g2, ← hlen] at q4
    exact q4
  · cases h2

theorem rowsC_out {ρ : Map} {st : St} {a : Act} (hev : Ev ρ st a) : ∀ {xs : List Arg} {ps : List (Nat × Operand)} {j : Nat} {f : Nat → List Cell → Prop}, rowOk xs ps j = true → rowsC st xs f →
    ∃ n zs, f n zs ∧ n = xs.length ∧ CellsR ρ zs ((ps.map fun q => (q.1, a.eval q.2)).flatMap fun p => p.2.cells.toList) ∧ (∀ p ∈ ps.map (fun q => (q.1, a.eval q.2)), p.2.cells.size = 1) ∧
      (ps.map fun q => (q.1, a.eval q.2)).map Prod.fst = List.range' j xs.length ∧ ps.length = xs.length
  | [], [], _, _, _, hk => ⟨0, [], hk, rfl, trivial, (fun p hp => by cases hp), rfl, rfl⟩
  | x :: xs, (j', o) :: ps, j, f, hc, hk => by
    simp only [rowOk, Bool.and_eq_true] at hc
    obtain ⟨⟨hj, hx⟩, hrest⟩ := hc
    have hj := Nat.eq_of_beq_eq_true hj
    subst hj
    have hk0 : asV (st.ev x) (fun v => match v with | .c x => rowsC st xs fun n xs => f (n + 1) (x :: xs) | .g _ => False) := hk
    obtain ⟨z, hz, hk1⟩ := asV_ev hev hx hk0
    cases z with
    | g _ => exact hk1.elim
    | c z =>
      have hk1 : rowsC st xs fun n xs => f (n + 1) (z :: xs) := hk1
      obtain ⟨n, zs, g1, g2, g3, g4, g5, g6⟩ := rowsC_out hev hrest hk1
      have hzc := V1R.cells hz
      refine ⟨n + 1, z :: zs, g1, by simp [g2], ?_, ?_, ?_, by simp [g6]⟩
      · simp only [List.flatMap_cons, List.map_cons]; exact All2.append hzc g3
      · intro p hp
        rcases List.mem_cons.1 hp with rfl | hp
        · have := All2.length hzc; simpa [cellsOf1] using this.symm
        · exact g4 p hp
      · simp only [List.map_cons, List.length_cons, List.range'_succ, g5]
  | [], _ :: _, _, _, hc, _ => by cases hc
  | _ :: _, [], _, _, hc, _ => by cases hc

theorem out_bsr {d : Nat} {xs : List Arg} (h : HR c ρ [] [] st w) (hev : Ev ρ st a) (hi : inOk P N o (.bsr d xs) = true) (hk : insK E (.bsr d xs) st k) : Out P N o a c ρ st w k := by
  simp only [inOk, Bool.and_eq_true] at hi
  obtain ⟨h1, h2⟩ := hi
  obtain ⟨hd, hn⟩ := dOk_out h1
  split at h2
  · rename_i t n ps hop
    simp only [Bool.and_eq_true] at h2
    obtain ⟨⟨⟨hlen, hbig⟩, hrow⟩, ht⟩ := h2
    have hlen := Nat.eq_of_beq_eq_true hlen
    have hbig := Nat.le_of_ble_eq_true hbig
    split at ht
    · rename_i e hu
      simp only [Bool.and_eq_true] at ht
      obtain ⟨hsz, hz⟩ := ht
      obtain ⟨inf, hinf, hsz⟩ := szOk_out hsz
      obtain ⟨zv, hzv, _, hzr⟩ := zeroOk_out hz
      obtain ⟨m, zs, g1, g2, g3, g4, g5, g6⟩ := rowsC_out hev hrow hk
      obtain ⟨i, nx, hnx, hk3⟩ := new_out g1
      have g7 : ps.size = xs.length := by simpa using g6
      have hs : (sizeOf e).run P w = .ok 1 w := by simp [sizeOf, run_typeInfo w hinf, hsz]
      have hrow : ∀ zero : Array Value, ∃ cells', Instr.fill (fun i => some (i * 1, 1)) ((Array.range (n * 1)).map (zero[· % zero.size]!)) (ps.toList.map fun q => (q.1, a.eval q.2)) = some cells' ∧
          cells'.toList = (ps.toList.map fun q => (q.1, a.eval q.2)).flatMap fun p => p.2.cells.toList := by
        intro zero
        obtain ⟨cells', f1, f2⟩ := fill_rows 1 (ps.toList.map fun q => (q.1, a.eval q.2)) 0 ((Array.range (n * 1)).map (zero[· % zero.size]!)) g4 (by rw [g5]; simp [g7]) (by simp [hlen, g7])
        exact ⟨cells', f1, by rw [f2]; simp⟩
      have hrun : ∃ cells' : Array Value, (execOp a.eval o).run P w = .ok (.value (.slice (some ⟨w.heap.size, 0, none⟩) n n)) (w.alloc (.cells cells' e)) ∧
          cells'.toList = (ps.toList.map fun q => (q.1, a.eval q.2)).flatMap fun p => p.2.cells.toList := by
        by_cases h0 : n * 1 = 0
        · obtain ⟨cells', f1, f2⟩ := hrow #[]
          refine ⟨cells', ?_, f2⟩
          have f1' : Instr.fill (fun i => some (i * 1, 1)) ((Array.range 0).map ((#[] : Array Value)[· % (#[] : Array Value).size]!)) (ps.toList.map fun q => (q.1, a.eval q.2)) = some cells' := by rw [← f1, h0]
          simp only [execOp, hop, Instr.buildSlice, Sem.run_bind, run_underlying hu, Result.andThen_ok, hs, h0, Array.toList_map, Sem.run_pure, Sem.run_ite, if_true, f1', newRow, run_newObj, World.alloc_eq]
          simp
        · obtain ⟨cells', f1, f2⟩ := hrow zv.cells
          refine ⟨cells', ?_, f2⟩
          have hb : ¬ (n * 1 > 2 ^ 24) := by omega
          simp only [execOp, hop, Instr.buildSlice, Sem.run_bind, run_underlying hu, Result.andThen_ok, hs, h0, hb, Array.toList_map, Sem.run_pure, Sem.run_ite, if_false, hzv w, f1, newRow, run_newObj, World.alloc_eq]
      obtain ⟨cells', hrun, hcells⟩ := hrun
      have g := Grown.alloc (u := true) w cells' e
      obtain ⟨q1, q2, q3⟩ := HR.fresh (B := .box true zs) (l := ⟨w.heap.size, 0, 0, 0, []⟩) g h hnx (.inr rfl) rfl ⟨⟨cells'.toList, g.range (rest := []) (by simp), by rw [hcells]; exact g3⟩, fun _ => g.there (by rw [All2.length g3, ← hcells]; simp)⟩
      refine ⟨fun e he => by rw [hd] at he; cases he; exact hn, .inl ⟨_, _, hrun, _, _, .rows i 0 m, q1, q2, ⟨rfl, rfl, rfl⟩, ⟨_, n, Map.add_same _ _ _, by rw [g2, ← hlen], by omega⟩, by rw [hd]; exact hk3, q3⟩⟩
    · cases ht
  · cases h2
end
end Go.Pi
