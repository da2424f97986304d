/- append; calls; every instruction together. No conditions. -/
import Derived.Test.YtgpchgakonpcfaaGreatDoorPiEff2
import Derived.Deep.Upon
import Derived.Laws.BytesArg
import Derived.Lib.AppendZerosOnto
namespace Go.Pi
set_option linter.unusedVariables false
set_option linter.unusedSimpArgs false
set_option linter.constructorNameAsVariable false

section
variable {P : Program} {N : Nat} {o : Oper} {a : Act} {E : List Fun} {c : Ctx P} {ρ : Map} {Z Y : List Nat} {st : St} {w : World} {k : St → Prop}

structure Row (w : World) (τ : FT) (xs : List τ.Ty) (v : Value) : Prop where
  ex : ∃ A cap vals, v = .slice A xs.length cap ∧ xs.length ≤ cap ∧ CellsR none0 (flats τ xs) vals ∧ (0 < xs.length → ∃ b o, A = some ⟨b, o, none⟩ ∧ w.rangeAt b o vals)

theorem elems_out2 {τ : FT} {x : Cell} {v : Value} {f : List τ.Ty → Prop} {ρ' : Map} (h : HR c ρ Z Y st w) (hle0 : ρ.le ρ') (hv : CellR ρ' x v) (hk : elems st τ x f) :
    ∃ xs, f xs ∧ ∀ w' : World, (∀ b B l, refC x = some b → st.hget b = some B → ρ b = some l → (l.blk ∈ B.foot l ∨ l.blk ∈ B.shw l) → w'.heap[l.blk]? = w.heap[l.blk]?) → Row w' τ xs v := by
  unfold elems at hk
  split at hk
  · exact ⟨[], hk, fun w' _ => ⟨none, 0, [], hv, Nat.le_refl _, trivial, fun h => by simp at h⟩⟩
  · rename_i nn σ b
    split at hk
    · rename_i rw' σ' cap xs hg
      obtain ⟨hst, hk⟩ := castF_out hk
      subst hst
      obtain ⟨l, A, hl, hval, hle, hA0, hA1, _⟩ := hv
      obtain ⟨l', hl', hB⟩ := h.bk b _ hg
      have hl2 := hle0 _ _ hl'
      rw [hl] at hl2
      cases hl2
      obtain ⟨b1, b2, b3, ⟨vals, hra, hr⟩, b5⟩ := hB
      exact ⟨xs, hk, fun w' hw' => ⟨A, l.cap, vals, by rw [hval, b1], by omega, hr, fun hp => ⟨l.blk, l.off, hA1 (by omega), rangeAt_block (hw' b _ l rfl hg hl' (by
        cases rw' with
        | true => left; simp only [Blk.foot]; rw [if_pos (by omega)]; simp
        | false => right; simp only [Blk.shw]; rw [if_pos (by omega)]; simp)) hra⟩⟩⟩
    · exact hk.elim
  · rename_i nn σ b off len
    split at hk
    case h_2 => exact hk.elim
    rename_i hft
    have hft := ftEq_eq hft
    subst hft
    split at hk
    · rename_i rw' σ' cap xs hg
      obtain ⟨hst, hk⟩ := castF_out hk
      subst hst
      obtain ⟨l, A, hl, hval, hle, hle2, hA0, hA1, _⟩ := hv
      obtain ⟨l', hl', hB⟩ := h.bk b _ hg
      have hl2 := hle0 _ _ hl'
      rw [hl] at hl2
      cases hl2
      obtain ⟨b1, b2, b3, ⟨vals, hra, hr⟩, b5⟩ := hB
      have hwl : (win xs off len).length = len := by simp only [win, List.length_take, List.length_drop]; omega
      refine ⟨_, hk, fun w' hw' => ⟨A, l.cap - off, (vals.drop (off * σ'.sz)).take (len * σ'.sz), ?_, by rw [hwl]; omega, ?_, fun hp => ⟨l.blk, l.off + off * σ'.sz, ?_, ?_⟩⟩⟩
      · show v = .slice A (win xs off len).length (l.cap - off)
        rw [hwl]; exact hval
      · show CellsR none0 (flats σ' (win xs off len)) _
        rw [win_flats]; exact All2.take _ (All2.drop _ hr)
      · rw [show (win xs off len).length = len from hwl] at hp
        exact hA1 (by omega)
      · rw [show (win xs off len).length = len from hwl] at hp
        exact rangeAt_block (hw' b _ l rfl hg hl' (by
          cases rw' with
          | true => left; simp only [Blk.foot]; rw [if_pos (by omega)]; simp
          | false => right; simp only [Blk.shw]; rw [if_pos (by omega)]; simp)) (rangeAt_sub hra)
    · exact hk.elim
  · exact hk.elim
theorem elems_out {τ : FT} {x : Cell} {v : Value} {f : List τ.Ty → Prop} (h : HR c ρ Z Y st w) (hv : CellR ρ x v) (hk : elems st τ x f) : ∃ xs, f xs ∧ Row w τ xs v := by
  obtain ⟨xs, h1, h2⟩ := elems_out2 h (Map.le_refl ρ) hv hk
  exact ⟨xs, h1, h2 w fun _ _ _ _ _ _ _ => rfl⟩

theorem src_of {P : Program} {τ : FT} {ys : List τ.Ty} {v : Value} {tx e' : TypeId} (hk : P.underlying tx = some (.slice e')) (hr : Row w τ ys v) : ∃ news, Src P τ.sz tx v ys.length news w ∧ CellsR none0 (flats τ ys) news := by
  obtain ⟨A, cap, vals, hv, hcap, hcr, hA⟩ := hr.ex
  have hl := All2.length hcr
  rw [flats_length] at hl
  cases A with
  | none =>
    have h0 : ys = [] := by
      cases ys with
      | nil => rfl
      | cons y r => obtain ⟨b, o, h, _⟩ := hA (by simp); cases h
    subst h0
    cases All2.nil_left hcr
    exact ⟨[], by rw [hv]; exact Src.ofNil w hk cap, hcr⟩
  | some x =>
    refine ⟨vals, ?_, hcr⟩
    rw [hv]
    refine Src.ofSlice w hk x ys.length cap vals hl.symm (fun j u hj => ?_) hcr.one
    have hpos : 0 < ys.length := by
      cases ys with
      | nil => cases All2.nil_left hcr; simp at hj
      | cons _ _ => simp
    obtain ⟨b, o, hx, hra⟩ := hA hpos
    cases hx
    rw [Addr.add_mid]; exact hra j u hj

theorem zeroCells_size (z : Array Value) (n : Nat) : (Builtin.zeroCells z n).size = n * z.size := by simp [Builtin.zeroCells]

theorem app_core {τ : FT} {t tx ty e : TypeId} {inf : TypeInfo} {zv v x : Value} {xs ys : List τ.Ty} {A : Option Addr} {l : Loc} {i : Nat} {nx : List Nat} {s1 : St} (nn : Bool) (hu : P.underlying t = some (.slice e)) (hinf : P.info? e = some inf) (hsz : inf.size = τ.sz)
    (hz : inf.zero = some zv) (hzr : CellsR none0 (τ.flat τ.zero) zv.cells.toList) (hby : inf.bytes ≤ 65536) {e' : TypeId} (htx : P.underlying tx = some (.slice e')) (hlen : xs.length + ys.length ≤ 2147483647)
    (hv : v = .slice A l.len l.cap) (hA0 : A = none → l.cap = 0) (hA1 : 0 < l.cap → A = some ⟨l.blk, l.off, none⟩) (hnn : nn = true → A ≠ none) (hB : BlkR w none0 l (.flat true τ none xs)) (hy : Row w τ ys x)
    (h : HR c ρ ((Blk.flat true τ none xs).foot l ++ []) [] s1 w) (hq1 : s1.q = true → l.cap = 0 ∨ ¬ c.qs l.blk) (hn : s1.nx = i :: nx) :
    ∃ u w' ρ', (Builtin.append_ #[t, tx] ty #[v, x]).run P w = .ok u w' ∧ HR c ρ' [] [] ⟨s1.tm, (i, some (.flat true τ none (xs ++ ys))) :: s1.hp, nx, s1.ar, s1.q, i :: s1.fr⟩ w' ∧ ρ.le ρ' ∧ CellR ρ' (.sl nn τ i) u ∧
      (s1.q = true → ∀ n, c.qs n → w'.heap[n]? = w.heap[n]?) := by
  obtain ⟨b1, b2, _, ⟨vals, hra, hr⟩, b5⟩ := hB
  obtain ⟨news, hsrc, hcn⟩ := src_of htx hy
  rw [← hsz] at hsrc
  have hnl : news.length = ys.length * τ.sz := by rw [← All2.length hcn, flats_length]
  have hvl : vals.length = xs.length * τ.sz := by rw [← All2.length hr, flats_length]
  have hfl : flats τ (xs ++ ys) = flats τ xs ++ flats τ ys := by simp [flats]
  by_cases hroom : l.len + ys.length ≤ l.cap
  · -- there is room
    by_cases hy0 : ys = []
    · subst hy0
      have hn0 : news = [] := List.eq_nil_of_length_eq_zero (by simpa using hnl)
      subst hn0
      have hrun := run_append_nothing (P := P) w t tx ty e inf hu hinf A l.len l.cap b2 x hsrc
      obtain ⟨g1, g2⟩ := HR.made (B := .flat true τ none (xs ++ [])) (Z := []) (l := l) hn h ⟨by simpa using b1, b2, (fun _ e => by cases e), ⟨vals, hra, by simpa using hr⟩, b5⟩ (fun x hx => by simp [Blk.shw] at hx)
      exact ⟨_, w, _, by rw [hv]; exact hrun, g1, g2, ⟨l, A, Map.add_same _ _ _, rfl, b2, hA0, hA1, hnn⟩, fun _ _ _ => rfl⟩
    · have hpos : 0 < ys.length := List.length_pos_iff.2 hy0
      have hcap : 0 < l.cap := by omega
      have hAe := hA1 hcap
      have hcm : xs.length * τ.sz + ys.length * τ.sz ≤ l.cap * τ.sz := by rw [← Nat.add_mul]; exact Nat.mul_le_mul_right _ (by omega)
      have hth : w.there l.blk (l.off + l.len * τ.sz) news.length := there_sub (b5 rfl).1 (by rw [hnl, b1]; exact hcm)
      have hrun := run_append_room_src (P := P) w t tx ty e inf hu hinf l.blk l.off l.len l.cap x ys.length news hsrc hroom (fun j hj => by rw [hsz]; exact (hth j hj).1) (fun j hj => by rw [hsz]; exact (hth j hj).2)
      rw [hsz] at hrun
      have hset := rangeAt_set hra (cc := l.len * τ.sz) (vals := []) (by rw [hvl, b1]; simp) (fun j hj => by simp at hj)
      have hfoot : (Blk.flat true τ none xs).foot l = [l.blk] := by simp [Blk.foot, hcap]
      have hsa := setCells_all l.blk news (l.off + l.len * τ.sz) w
      have hB' : BlkR (w.setCells l.blk (l.off + l.len * τ.sz) news) ρ ⟨l.blk, l.off, l.cap, l.len + ys.length, []⟩ (.flat true τ none (xs ++ ys)) := by
        refine ⟨by simp [b1], hroom, (fun _ e => by cases e), ⟨vals ++ news, ?_, by rw [hfl]; exact All2.append hr hcn⟩, fun _ => (b5 rfl).set _ _⟩
        intro j u hj
        have hvl2 : vals.length = l.len * τ.sz := by rw [hvl, b1]
        by_cases hlt : j < vals.length
        · rw [List.getElem?_append_left hlt] at hj
          rw [World.cell?_setCells_out _ _ _ _ _ (fun _ _ => .inl (by simp; omega))]
          exact hra j u hj
        · rw [List.getElem?_append_right (by omega)] at hj
          have hlj := (List.getElem?_eq_some_iff.1 hj).1
          have := World.cell?_setCells_in l.blk news (l.off + l.len * τ.sz) w (fun i hi => (hth i hi).1) (j - vals.length) hlj
          rw [show l.off + l.len * τ.sz + (j - vals.length) = l.off + j by omega] at this
          rw [this, ← List.getElem?_eq_getElem hlj]; exact hj
      have hlt : l.blk < w.heap.size := (h.zb l.blk (by rw [hfoot]; simp)).1
      have h2 : HR c ρ ((Blk.flat true τ none (xs ++ ys)).foot ⟨l.blk, l.off, l.cap, l.len + ys.length, []⟩ ++ []) [] s1 (w.setCells l.blk (l.off + l.len * τ.sz) news) := by
        have hf2 : (Blk.flat true τ none (xs ++ ys)).foot ⟨l.blk, l.off, l.cap, l.len + ys.length, []⟩ = [l.blk] := by simp [Blk.foot, hcap]
        rw [hf2]
        rw [hfoot] at h
        exact h.world (Z' := [l.blk] ++ []) (Y' := []) ⟨hsa.1, hsa.2.1, hsa.2.2.1, by omega, fun x _ hx => hsa.2.2.2.2 x (fun e => hx (by simp [e]))⟩ (by simp) (fun z hz => ⟨by rw [hsa.2.2.2.1]; simp at hz; omega, .inl hz, fun hy => by cases hy⟩) (fun y hy => by cases hy)
      obtain ⟨g1, g2⟩ := HR.made hn h2 hB' (fun x hx => by simp [Blk.shw] at hx)
      refine ⟨_, _, _, by rw [hv, hAe]; exact hrun, g1, g2, ⟨⟨l.blk, l.off, l.cap, l.len + ys.length, []⟩, some ⟨l.blk, l.off, none⟩, Map.add_same _ _ _, rfl, hroom, (fun e => by cases e), fun _ => rfl, fun _ e => by cases e⟩, fun hq n hlt => ?_⟩
      rcases hq1 hq with h0 | hb
      · omega
      · exact hsa.2.2.2.2 n (fun e => hb (e ▸ hlt))
  · -- a new row
    have hold : (Builtin.firstCells inf.size l.len (.slice A l.len l.cap)).run P w.drew = .ok vals.toArray w.drew := by
      cases A with
      | none =>
        have : l.cap = 0 := hA0 rfl
        have h0 : xs.length = 0 := by omega
        rw [h0, Nat.zero_mul] at hvl
        rw [List.eq_nil_of_length_eq_zero hvl]
        exact run_firstCells_none w.drew _ _ _ _
      | some x' =>
        refine run_firstCells_some w.drew inf.size l.len x' l.len l.cap vals (by rw [hvl, b1, hsz]) (fun j u hj => ?_)
        have hp : 0 < l.cap := by
          have : 0 < vals.length := by have := (List.getElem?_eq_some_iff.1 hj).1; omega
          rw [hvl] at this
          have := Nat.pos_of_mul_pos_right this
          omega
        cases hA1 hp
        rw [Addr.add_mid]; simpa using hra j u hj
    have hby2 : (l.len + ys.length) * inf.bytes ≤ 140737488355328 := by
      have : (l.len + ys.length) * inf.bytes ≤ 2147483647 * 65536 := Nat.mul_le_mul (by omega) hby
      omega
    have hrun := run_append_grow_src (P := P) w t tx ty e inf zv hu hinf hz A l.len l.cap vals hold x ys.length news hsrc (by omega) (by omega) (growslice_fits (by omega) hby2)
    have hzs : zv.cells.size = τ.sz := by have := All2.length hzr; rw [flat_length] at this; simpa using this.symm
    have hgc : l.len + ys.length ≤ grownCap w (l.len + ys.length) l.cap e := by simp only [grownCap, Question.cut]; exact Nat.le_add_right _ _
    have hg := Grown.drew (u := τ.u8) w ((vals ++ news).toArray ++ Builtin.zeroCells zv.cells (grownCap w (l.len + ys.length) l.cap e - (l.len + ys.length))) e
    obtain ⟨ρ', g1, g2, g3, g4⟩ := HR.row (τ := τ) (xs := xs ++ ys) (cap := grownCap w (l.len + ys.length) l.cap e) hg h.less hn (by rw [hfl]; exact All2.append hr hcn) (by simp; rfl) (by simp; omega) (by
      simp only [Array.size_append, List.size_toArray, List.length_append, zeroCells_size, hzs, hvl, hnl]
      rw [← Nat.add_mul, ← Nat.add_mul]
      exact Nat.mul_le_mul_right _ (by omega)) nn
    refine ⟨_, _, ρ', by rw [hv]; exact hrun, g1, g2, ?_, g3⟩
    rw [List.length_append, ← b1] at g4
    exact g4

theorem out_app {d : Nat} {τ : FT} {x y : Arg} (h : HR c ρ [] [] st w) (hev : Ev ρ st a) (hi : inOk P N o (.app d τ x y) = true) (hk : insK E (.app d τ x y) st k) : Out P N o a c ρ st w k := by
  simp only [inOk, Bool.and_eq_true] at hi
  obtain ⟨h1, h2⟩ := hi
  obtain ⟨hd, hn⟩ := dOk_out h1
  split at h2
  · rename_i cl hop
    simp only [Bool.and_eq_true] at h2
    obtain ⟨⟨hb, ha⟩, ht⟩ := h2
    split at hb
    case h_2 => cases hb
    rename_i hcal
    cases hl : cl.args.toList with
    | nil => rw [hl] at ha; cases ha
    | cons x' l =>
      cases l with
      | nil => rw [hl] at ha; simp [argsOk] at ha
      | cons y' l =>
        cases l with
        | cons _ _ => rw [hl] at ha; simp [argsOk] at ha
        | nil =>
          rw [hl] at ha
          simp only [argsOk, Bool.and_true, Bool.and_eq_true] at ha
          have hargs : cl.args = #[x', y'] := by
            apply Array.toList_inj.1; simpa using hl
          split at ht
          case h_2 => cases ht
          rename_i t tx htl
          have hts : cl.argTypes = #[t, tx] := by
            apply Array.toList_inj.1; simpa using htl
          simp only [Bool.and_eq_true] at ht
          obtain ⟨⟨ht1, ht2⟩, hz⟩ := ht
          obtain ⟨e, inf, hu, hinf, hsz⟩ := slOk_out ht1
          obtain ⟨e', inf', hu', _, _⟩ := slOk_out ht2
          rw [hu] at hz
          simp only [Bool.and_eq_true] at hz
          obtain ⟨hz, hby⟩ := hz
          rw [hinf] at hby
          have hby := Nat.le_of_ble_eq_true hby
          obtain ⟨zv, _, ⟨inf2, hinf2, hzv⟩, hzr⟩ := zeroOk_out hz
          rw [hinf] at hinf2
          cases hinf2
          obtain ⟨p, hp, hk1⟩ := asC_ev hev ha.1 hk
          obtain ⟨q, hq, hk2⟩ := asC_ev hev ha.2 hk1
          obtain ⟨ys, hk3, hrow⟩ := elems_out h hq hk2
          have fin : ∀ {xs : List τ.Ty} {u : Value} {w' : World} {ρ' : Map} {s1 : St} {i : Nat} {nx : List Nat} {nn : Bool}, (Builtin.append_ #[t, tx] o.type #[a.eval x', a.eval y']).run P w = .ok u w' →
              HR c ρ' [] [] ⟨s1.tm, (i, some (.flat true τ none xs)) :: s1.hp, nx, s1.ar, s1.q, i :: s1.fr⟩ w' → ρ.le ρ' → CellR ρ' (.sl nn τ i) u → (s1.q = true → ∀ n, c.qs n → w'.heap[n]? = w.heap[n]?) → Same st s1 →
              putC ⟨s1.tm, (i, some (.flat true τ none xs)) :: s1.hp, nx, s1.ar, s1.q, i :: s1.fr⟩ d (.sl nn τ i) k → Out P N o a c ρ st w k := by
            intro xs u w' ρ' s1 i nx nn hrun g1 g2 g3 g4 hs hk'
            refine ⟨fun e he => by rw [hd] at he; cases he; exact hn, .inl ⟨u, w', ?_, ρ', _, .v (.c (.sl nn τ i)), g1, g2, ⟨hs.tm, hs.ar, hs.q⟩, g3, by rw [hd]; exact hk', fun hq => g4 (by rw [hs.q]; exact hq)⟩⟩
            simp [execOp, hop, resolve, hcal, hargs, hts, invoke, builtin, hrun]
          unfold appK at hk3
          split at hk3
          · obtain ⟨hlen, hk4⟩ := chk_o hk3
            obtain ⟨i, nx, hnx, hk5⟩ := new_out hk4
            obtain ⟨u, w', ρ', g0, g1, g2, g3, g4⟩ := app_core (c := c) (ρ := ρ) (s1 := st) (ty := o.type) (l := ⟨0, 0, 0, 0, []⟩) (A := none) (xs := ([] : List τ.Ty)) (i := i) (nx := nx) false hu hinf hsz hzv hzr hby hu' (by simpa using hlen) hp (fun _ => rfl) (fun h => by simp at h) (fun e => by cases e)
              ⟨rfl, Nat.le_refl _, (fun _ e => by cases e), Lie.nil _ _ _ _, fun _ => ⟨fun j hj => by simp at hj, fun h => by simp at h⟩⟩ hrow h (fun _ => .inl rfl) hnx
            exact fin g0 g1 g2 g3 g4 (Same.refl st) hk5
          · rename_i nn σ b
            split at hk3
            · rename_i σ' cap xs hg
              obtain ⟨hst, hk3⟩ := castF_out hk3
              subst hst
              obtain ⟨hlen, hk4⟩ := chk_o hk3
              obtain ⟨hqf, hk5⟩ := md_out hk4
              have hk6 := setB_out hk5
              obtain ⟨i, nx, hnx, hk7⟩ := new_out hk6
              obtain ⟨l, A, hlb, hv, hle, hA0, hA1, hnn⟩ := hp
              obtain ⟨l', hl', hB⟩ := h.bk b _ hg
              rw [hlb] at hl'
              cases hl'
              have hrel : HR c ρ ((Blk.flat true σ' cap xs).foot l ++ []) [] ⟨st.tm, (b, none) :: st.hp, st.nx, st.ar, st.q, st.fr⟩ w := h.release hg hlb (fun x => hget_cons rfl x) rfl rfl rfl hqf
              obtain ⟨u, w', ρ', g0, g1, g2, g3, g4⟩ := app_core (c := c) (ρ := ρ) (ty := o.type) (s1 := ⟨st.tm, (b, none) :: st.hp, st.nx, st.ar, st.q, st.fr⟩) (l := l) (A := A) (xs := xs) (i := i) (nx := nx) nn hu hinf hsz hzv hzr hby hu' hlen hv hA0 hA1 hnn
                (hB.cap0 (fun n hn => by cases hn)) hrow hrel (fun hqq => by
                  by_cases h0 : 0 < l.cap
                  · exact .inr (h.qf hqq b (hqf hqq) _ _ hg hlb l.blk (by simp [Blk.foot, h0]))
                  · exact .inl (by omega)) hnx
              exact fin g0 g1 g2 g3 g4 ⟨rfl, rfl, rfl⟩ hk7
            · exact hk3.elim
          · rename_i nn σ b off len
            split at hk3
            case h_2 => exact hk3.elim
            rename_i hft
            have hft := ftEq_eq hft
            subst hft
            split at hk3
            · rename_i σ' cap xs hg
              obtain ⟨hst, hk3⟩ := castF_out hk3
              subst hst
              obtain ⟨hlen, hk4⟩ := chk_o hk3
              obtain ⟨hqf, hk5⟩ := md_out hk4
              have hk6 := setB_out hk5
              obtain ⟨i, nx, hnx, hk7⟩ := new_out hk6
              obtain ⟨l, A, hlb, hv, hle, hle2, hA0, hA1, hnn⟩ := hp
              obtain ⟨l', hl', hB⟩ := h.bk b _ hg
              rw [hlb] at hl'
              cases hl'
              have hwl : (win xs off len).length = len := by simp only [win, List.length_take, List.length_drop]; have := hB.1; omega
              have hrel : HR c ρ ((Blk.flat true σ' cap xs).foot l ++ []) [] ⟨st.tm, (b, none) :: st.hp, st.nx, st.ar, st.q, st.fr⟩ w := h.release hg hlb (fun x => hget_cons rfl x) rfl rfl rfl hqf
              have hrel2 : HR c ρ ((Blk.flat true σ' none (win xs off len)).foot ⟨l.blk, l.off + off * σ'.sz, l.cap - off, len, []⟩ ++ []) [] ⟨st.tm, (b, none) :: st.hp, st.nx, st.ar, st.q, st.fr⟩ w := by
                by_cases h0 : 0 < l.cap - off
                · have e1 : (Blk.flat true σ' none (win xs off len)).foot ⟨l.blk, l.off + off * σ'.sz, l.cap - off, len, []⟩ = (Blk.flat true σ' cap xs).foot l := by
                    simp [Blk.foot, h0, show 0 < l.cap by omega]
                  rw [e1]; exact hrel
                · have e1 : (Blk.flat true σ' none (win xs off len)).foot ⟨l.blk, l.off + off * σ'.sz, l.cap - off, len, []⟩ = [] := by simp [Blk.foot, h0]
                  rw [e1]; exact hrel.less
              obtain ⟨u, w', ρ', g0, g1, g2, g3, g4⟩ := app_core (c := c) (ρ := ρ) (ty := o.type) (s1 := ⟨st.tm, (b, none) :: st.hp, st.nx, st.ar, st.q, st.fr⟩) (l := ⟨l.blk, l.off + off * σ'.sz, l.cap - off, len, []⟩) (A := A) (xs := win xs off len) (i := i) (nx := nx) nn hu hinf hsz hzv hzr hby hu' (by rw [hwl]; exact hlen) hv hA0 hA1 hnn
                (hB.win hle true (fun _ => rfl)) hrow hrel2 (fun hqq => by
                  by_cases h0 : 0 < l.cap
                  · exact .inr (h.qf hqq b (hqf hqq) _ _ hg hlb l.blk (by simp [Blk.foot, h0]))
                  · exact .inl (by show l.cap - off = 0; omega)) hnx
              exact fin g0 g1 g2 g3 g4 ⟨rfl, rfl, rfl⟩ hk7
            · exact hk3.elim
          · exact hk3.elim
  · cases h2

theorem out_bsw {d : Nat} {τ : FT} (h : HR c ρ [] [] st w) (hi : inOk P N o (.bsw d τ) = true) (hk : insK E (.bsw d τ) st k) : Out P N o a c ρ st w k := by
  simp only [inOk, Bool.and_eq_true] at hi
  obtain ⟨h1, h2⟩ := hi
  obtain ⟨hd, hn⟩ := dOk_out h1
  split at h2
  · rename_i t n ps hop
    simp only [Bool.and_eq_true] at h2
    obtain ⟨⟨hlen, hrow⟩, ht⟩ := h2
    have hlen := Nat.eq_of_beq_eq_true hlen
    subst hlen
    split at ht
    · rename_i e hu
      obtain ⟨inf, hinf, hsz⟩ := szOk_out ht
      have hps : ps = #[] := by
        cases hl : ps.toList with
        | nil => exact Array.toList_inj.1 (by simpa using hl)
        | cons x r => rw [hl] at hrow; obtain ⟨j, y⟩ := x; simp [rowOk] at hrow
      subst hps
      have hk0 : new st (.rows true τ []) (fun st b => putC st d (.sl true .str b) k) := hk
      obtain ⟨i, nx, hnx, hk3⟩ := new_out hk0
      have hs : (sizeOf e).run P w = .ok 1 w := by simp [sizeOf, run_typeInfo w hinf, hsz]
      have hrun : (execOp a.eval o).run P w = .ok (.value (.slice (some ⟨w.heap.size, 0, none⟩) 0 0)) (w.alloc (.cells #[] e)) := by
        simp [execOp, hop, Instr.buildSlice, run_underlying hu, hs, Instr.fill, newRow, run_newObj]
        rw [show ∀ f : Nat → Value, Array.map f (Array.range 0) = #[] from fun f => Array.eq_empty_of_size_eq_zero (by simp)]
      have g := Grown.alloc (u := true) w #[] e
      obtain ⟨q1, q2, q3⟩ := HR.fresh (B := .rows true τ []) (l := ⟨w.heap.size, 0, 0, 0, []⟩) g h hnx (.inl (by simp [Blk.foot, rowsFoot, rowFeet])) rfl
        ⟨rfl, Nat.le_refl _, ⟨[], (fun j v hj => by simp at hj), trivial⟩, trivial, fun _ => ⟨⟨fun j hj => by simp at hj, fun h => by simp at h⟩, by simp [rowsFoot, rowFeet]⟩⟩
      exact ⟨fun e he => by rw [hd] at he; cases he; exact hn, .inl ⟨_, _, hrun, _, _, .v (.c (.sl true .str i)), q1, q2, ⟨rfl, rfl, rfl⟩,
        ⟨_, some ⟨w.heap.size, 0, none⟩, Map.add_same _ _ _, rfl, Nat.le_refl _, (fun e => by cases e), (fun h => by simp at h), fun _ e => by cases e⟩, by rw [hd]; exact hk3, q3⟩⟩
    · cases ht
  · cases h2

theorem rowFeet_app (xs ys : List RLoc) : rowFeet (xs ++ ys) = rowFeet xs ++ rowFeet ys := List.flatMap_append ..
theorem app_rows {τ : FT} {t tx ty e : TypeId} {inf : TypeInfo} {zv v x hv' : Value} {xss : List (List τ.Ty)} {ys : List τ.Ty} {A : Option Addr} {l : Loc} {q : RLoc} {i : Nat} {nx : List Nat} {s1 : St} (nn : Bool) (hu : P.underlying t = some (.slice e)) (hinf : P.info? e = some inf) (hsz : inf.size = 1)
    (hz : inf.zero = some zv) (hzs : zv.cells.size = 1) (hby : inf.bytes ≤ 65536) {e' : TypeId} (htx : P.underlying tx = some (.slice e')) (hlen : xss.length + 1 ≤ 2147483647)
    (hv : v = .slice A l.len l.cap) (hA0 : A = none → l.cap = 0) (hA1 : 0 < l.cap → A = some ⟨l.blk, l.off, none⟩) (hnn : nn = true → A ≠ none) (hB : BlkR w none0 l (.rows true τ xss))
    (hsrc : Src P 1 tx x 1 [hv'] w) (hqv : RowV q hv') (hrow : RowR w true τ q ys)
    (h : HR c ρ (rowsFoot l ++ (rowFeet [q] ++ [])) [] s1 w) (hq1 : s1.q = true → l.cap = 0 ∨ ¬ c.qs l.blk) (hn : s1.nx = i :: nx) :
    ∃ u w' ρ', (Builtin.append_ #[t, tx] ty #[v, x]).run P w = .ok u w' ∧ HR c ρ' [] [] ⟨s1.tm, (i, some (.rows true τ (xss ++ [ys]))) :: s1.hp, nx, s1.ar, s1.q, i :: s1.fr⟩ w' ∧ ρ.le ρ' ∧ CellR ρ' (.sl nn .str i) u ∧
      (s1.q = true → ∀ n, c.qs n → w'.heap[n]? = w.heap[n]?) := by
  obtain ⟨b1, b2, ⟨vals, hra, hr⟩, b4, b5⟩ := hB
  obtain ⟨b6, b7⟩ := b5 rfl
  have hvl : vals.length = l.len := by rw [← hr.length, b4.length, b1]
  have hil : l.ins.length = l.len := by rw [b4.length, b1]
  have hsrc : Src P inf.size tx x 1 [hv'] w := by rw [hsz]; exact hsrc
  have hzn := h.zn
  have hlt : ∀ z ∈ rowsFoot l ++ (rowFeet [q] ++ []), z < w.heap.size := fun z hz => (h.zb z hz).1
  by_cases hroom : l.len + 1 ≤ l.cap
  · have hcap : 0 < l.cap := by omega
    have hAe := hA1 hcap
    have hth : w.there l.blk (l.off + l.len * 1) [hv'].length := there_sub b6.1 (by simp; omega)
    have hrun := run_append_room_src (P := P) w t tx ty e inf hu hinf l.blk l.off l.len l.cap x 1 [hv'] hsrc hroom (fun j hj => by rw [hsz]; exact (hth j hj).1) (fun j hj => by rw [hsz]; exact (hth j hj).2)
    rw [hsz] at hrun
    have hsa := setCells_all l.blk [hv'] (l.off + l.len * 1) w
    have hfe : rowsFoot ⟨l.blk, l.off, l.cap, l.len + 1, l.ins ++ [q]⟩ = rowsFoot l ++ (rowFeet [q] ++ []) := by
      simp only [rowsFoot, rowFeet_app, List.append_nil, List.append_assoc]
    have hfoot1 : rowsFoot l ++ (rowFeet [q] ++ []) = l.blk :: (rowFeet l.ins ++ (rowFeet [q] ++ [])) := by simp [rowsFoot, hcap]
    have hne : ∀ z ∈ rowFeet l.ins ++ (rowFeet [q] ++ []), z ≠ l.blk := by
      rw [hfoot1] at hzn
      exact fun z hz e => (List.nodup_cons.1 hzn).1 (e ▸ hz)
    have keep : ∀ (r : RLoc) (zs : List τ.Ty), r ∈ l.ins ++ [q] → RowR w true τ r zs → RowR (w.setCells l.blk (l.off + l.len * 1) [hv']) true τ r zs := fun r zs hm hr => hr.block fun hp => hsa.2.2.2.2 _ (by
      refine hne _ ?_
      have hp : 0 < r.cap := by simpa using hp
      rcases List.mem_append.1 hm with hm | hm
      · exact List.mem_append_left _ (List.mem_flatMap.2 ⟨r, hm, by rw [if_pos hp]; simp⟩)
      · exact List.mem_append_right _ (List.mem_append_left _ (List.mem_flatMap.2 ⟨r, hm, by rw [if_pos hp]; simp⟩)))
    have hB' : BlkR (w.setCells l.blk (l.off + l.len * 1) [hv']) ρ ⟨l.blk, l.off, l.cap, l.len + 1, l.ins ++ [q]⟩ (.rows true τ (xss ++ [ys])) := by
      refine ⟨by simp [b1], hroom, ⟨vals ++ [hv'], ?_, All2.append hr ⟨hqv, trivial⟩⟩, All2.append (all2_mem (fun r hm zs hz => keep r zs (List.mem_append_left _ hm) hz) b4) ⟨keep q ys (by simp) hrow, trivial⟩, fun _ => ⟨b6.set _ _, by rw [hfe]; exact hzn⟩⟩
      intro j u hj
      by_cases hlt : j < vals.length
      · rw [List.getElem?_append_left hlt] at hj
        rw [World.cell?_setCells_out _ _ _ _ _ (fun _ _ => .inl (by simp; omega))]
        exact hra j u hj
      · rw [List.getElem?_append_right (by omega)] at hj
        have hlj := (List.getElem?_eq_some_iff.1 hj).1
        have := World.cell?_setCells_in l.blk [hv'] (l.off + l.len * 1) w (fun i hi => (hth i hi).1) (j - vals.length) hlj
        rw [show l.off + l.len * 1 + (j - vals.length) = l.off + j by omega] at this
        rw [this, ← List.getElem?_eq_getElem hlj]; exact hj
    have hlb : l.blk < w.heap.size := hlt _ (by rw [hfoot1]; simp)
    have h2 : HR c ρ ((Blk.rows true τ (xss ++ [ys])).foot ⟨l.blk, l.off, l.cap, l.len + 1, l.ins ++ [q]⟩ ++ []) [] s1 (w.setCells l.blk (l.off + l.len * 1) [hv']) := by
      have e1 : (Blk.rows true τ (xss ++ [ys])).foot ⟨l.blk, l.off, l.cap, l.len + 1, l.ins ++ [q]⟩ ++ [] = rowsFoot l ++ (rowFeet [q] ++ []) := by simp only [Blk.foot, hfe, List.append_nil]
      rw [e1]
      exact h.world ⟨hsa.1, hsa.2.1, hsa.2.2.1, by omega, fun x _ hx => hsa.2.2.2.2 x (fun e => hx (by rw [hfoot1, e]; simp))⟩ hzn (fun z hz => ⟨by rw [hsa.2.2.2.1]; exact hlt z hz, .inl hz, fun hy => by cases hy⟩) (fun y hy => by cases hy)
    obtain ⟨g1, g2⟩ := HR.made hn h2 hB' (fun x hx => by simp [Blk.shw] at hx)
    refine ⟨_, _, _, by rw [hv, hAe]; exact hrun, g1, g2, ⟨⟨l.blk, l.off, l.cap, l.len + 1, l.ins ++ [q]⟩, some ⟨l.blk, l.off, none⟩, Map.add_same _ _ _, rfl, hroom, (fun e => by cases e), fun _ => rfl, fun _ e => by cases e⟩, fun hq n hlt => ?_⟩
    rcases hq1 hq with h0 | hb
    · omega
    · exact hsa.2.2.2.2 n (fun e => hb (e ▸ hlt))
  · have hold : (Builtin.firstCells inf.size l.len (.slice A l.len l.cap)).run P w.drew = .ok vals.toArray w.drew := by
      cases A with
      | none =>
        have : l.cap = 0 := hA0 rfl
        have h0 : vals.length = 0 := by omega
        rw [List.eq_nil_of_length_eq_zero h0]
        exact run_firstCells_none w.drew _ _ _ _
      | some x' =>
        refine run_firstCells_some w.drew inf.size l.len x' l.len l.cap vals (by rw [hvl, hsz]; omega) (fun j u hj => ?_)
        have hp : 0 < l.cap := by have := (List.getElem?_eq_some_iff.1 hj).1; omega
        cases hA1 hp
        rw [Addr.add_mid]; simpa using hra j u hj
    have hby2 : (l.len + 1) * inf.bytes ≤ 140737488355328 := by
      have : (l.len + 1) * inf.bytes ≤ 2147483647 * 65536 := Nat.mul_le_mul (by omega) hby
      omega
    have hrun := run_append_grow_src (P := P) w t tx ty e inf zv hu hinf hz A l.len l.cap vals hold x 1 [hv'] hsrc (by omega) (by omega) (growslice_fits (by omega) hby2)
    have hgc : l.len + 1 ≤ grownCap w (l.len + 1) l.cap e := by simp only [grownCap, Question.cut]; exact Nat.le_add_right _ _
    have hg := Grown.drew (u := false) w ((vals ++ [hv']).toArray ++ Builtin.zeroCells zv.cells (grownCap w (l.len + 1) l.cap e - (l.len + 1))) e
    generalize grownCap w (l.len + 1) l.cap e = gc at *
    generalize w.drew.alloc (.cells ((vals ++ [hv']).toArray ++ Builtin.zeroCells zv.cells (gc - (l.len + 1))) e) = w' at *
    have hsame : ∀ z, z < w.heap.size → w'.heap[z]? = w.heap[z]? := fun z hz => hg.fr.2.2.2.2 z hz (by simp)
    have hfe : rowsFoot ⟨w.heap.size, 0, gc, l.len + 1, l.ins ++ [q]⟩ = w.heap.size :: (rowFeet l.ins ++ rowFeet [q]) := by
      simp only [rowsFoot, rowFeet_app]; rw [if_pos (by omega)]; rfl
    have hsub : ∀ z ∈ rowFeet l.ins ++ rowFeet [q], z ∈ rowsFoot l ++ (rowFeet [q] ++ []) := fun z hz => by
      rcases List.mem_append.1 hz with hz | hz
      · exact List.mem_append_left _ (List.mem_append_right _ hz)
      · exact List.mem_append_right _ (List.mem_append_left _ hz)
    have hnd : (w.heap.size :: (rowFeet l.ins ++ rowFeet [q])).Nodup := by
      refine List.nodup_cons.2 ⟨fun hm => by have := hlt _ (hsub _ hm); omega, ?_⟩
      have e1 : rowsFoot l ++ (rowFeet [q] ++ []) = (if 0 < l.cap then [l.blk] else []) ++ (rowFeet l.ins ++ rowFeet [q]) := by simp [rowsFoot]
      rw [e1] at hzn
      exact (List.nodup_append.1 hzn).2.1
    have keep : ∀ (r : RLoc) (zs : List τ.Ty), r ∈ l.ins ++ [q] → RowR w true τ r zs → RowR w' true τ r zs := fun r zs hm hr => hr.block fun hp => hsame _ (hlt _ (hsub _ (by
      have hp : 0 < r.cap := by simpa using hp
      rcases List.mem_append.1 hm with hm | hm
      · exact List.mem_append_left _ (List.mem_flatMap.2 ⟨r, hm, by rw [if_pos hp]; simp⟩)
      · exact List.mem_append_right _ (List.mem_flatMap.2 ⟨r, hm, by rw [if_pos hp]; simp⟩))))
    have harr : ((vals ++ [hv']).toArray ++ Builtin.zeroCells zv.cells (gc - (l.len + 1))).size = gc := by
      simp only [Array.size_append, List.size_toArray, List.length_append, zeroCells_size, hzs, hvl, List.length_cons, List.length_nil]
      omega
    have hB' : BlkR w' ρ ⟨w.heap.size, 0, gc, l.len + 1, l.ins ++ [q]⟩ (.rows true τ (xss ++ [ys])) := by
      refine ⟨by simp [b1], hgc, ⟨vals ++ [hv'], hg.range (rest := (Builtin.zeroCells zv.cells (gc - (l.len + 1))).toList) (by simp), All2.append hr ⟨hqv, trivial⟩⟩, All2.append (all2_mem (fun r hm zs hz => keep r zs (List.mem_append_left _ hm) hz) b4) ⟨keep q ys (by simp) hrow, trivial⟩,
        fun _ => ⟨⟨hg.there (by rw [harr]; exact Nat.le_refl _), fun _ => hg.free.le (by dsimp only; rw [harr]; omega)⟩, by rw [hfe]; exact hnd⟩⟩
    have h2 : HR c ρ ((Blk.rows true τ (xss ++ [ys])).foot ⟨w.heap.size, 0, gc, l.len + 1, l.ins ++ [q]⟩ ++ []) [] s1 w' := by
      have e1 : (Blk.rows true τ (xss ++ [ys])).foot ⟨w.heap.size, 0, gc, l.len + 1, l.ins ++ [q]⟩ ++ [] = w.heap.size :: (rowFeet l.ins ++ rowFeet [q]) := by simp only [Blk.foot, hfe, List.append_nil]
      rw [e1]
      refine h.world ⟨hg.fr.1, hg.fr.2.1, hg.fr.2.2.1, hg.fr.2.2.2.1, fun x hx _ => hsame x hx⟩ hnd (fun z hz => ?_) (fun y hy => by cases hy)
      rcases List.mem_cons.1 hz with rfl | hz
      · exact ⟨by rw [hg.size]; omega, .inr (Nat.le_refl _), fun hy => by cases hy⟩
      · exact ⟨by rw [hg.size]; have := hlt _ (hsub _ hz); omega, .inl (hsub _ hz), fun hy => by cases hy⟩
    obtain ⟨g1, g2⟩ := HR.made hn h2 hB' (fun x hx => by simp [Blk.shw] at hx)
    refine ⟨_, _, _, by rw [hv]; exact hrun, g1, g2, ⟨⟨w.heap.size, 0, gc, l.len + 1, l.ins ++ [q]⟩, some ⟨w.heap.size, 0, none⟩, Map.add_same _ _ _, rfl, hgc, (fun e => by cases e), fun _ => rfl, fun _ e => by cases e⟩, fun hq n hlt => hsame n (h.qw hq n hlt)⟩

theorem castR_out {σ τ : FT} {xs : List (List σ.Ty)} {f : List (List τ.Ty) → Prop} (h : castR σ τ xs f) : ∃ e : σ = τ, f (e ▸ xs) := by
  cases σ <;> cases τ <;> first
    | exact ⟨rfl, h⟩
    | exact h.elim
    | (rename_i j k
       simp only [castR] at h
       split at h
       · rename_i hb
         have := ikEq_eq hb
         subst this
         exact ⟨rfl, h⟩
       · exact h.elim)
theorem out_appw {d : Nat} {τ : FT} {x y : Arg} (h : HR c ρ [] [] st w) (hev : Ev ρ st a) (hi : inOk P N o (.appw d τ x y) = true) (hk : insK E (.appw d τ x y) st k) : Out P N o a c ρ st w k := by
  simp only [inOk, Bool.and_eq_true] at hi
  obtain ⟨h1, h2⟩ := hi
  obtain ⟨hd, hn⟩ := dOk_out h1
  split at h2
  · rename_i cl hop
    simp only [Bool.and_eq_true] at h2
    obtain ⟨⟨hb, ha⟩, ht⟩ := h2
    split at hb
    case h_2 => cases hb
    rename_i hcal
    cases hl : cl.args.toList with
    | nil => rw [hl] at ha; cases ha
    | cons x' l =>
      cases l with
      | nil => rw [hl] at ha; simp [argsOk] at ha
      | cons y' l =>
        cases l with
        | cons _ _ => rw [hl] at ha; simp [argsOk] at ha
        | nil =>
          rw [hl] at ha
          simp only [argsOk, Bool.and_true, Bool.and_eq_true] at ha
          have hargs : cl.args = #[x', y'] := by
            apply Array.toList_inj.1; simpa using hl
          split at ht
          case h_2 => cases ht
          rename_i t tx htl
          have hts : cl.argTypes = #[t, tx] := by
            apply Array.toList_inj.1; simpa using htl
          simp only [Bool.and_eq_true] at ht
          obtain ⟨⟨ht1, ht2⟩, hz⟩ := ht
          obtain ⟨e, inf, hu, hinf, hsz⟩ := slOk_out ht1
          obtain ⟨e', inf', hu', _, _⟩ := slOk_out ht2
          rw [hu] at hz
          simp only [Bool.and_eq_true] at hz
          obtain ⟨hz, hby⟩ := hz
          rw [hinf] at hby
          have hby := Nat.le_of_ble_eq_true hby
          obtain ⟨zv, _, ⟨inf2, hinf2, hzv⟩, hzr⟩ := zeroOk_out hz
          rw [hinf] at hinf2
          cases hinf2
          have hzs : zv.cells.size = 1 := by have := All2.length hzr; simpa using this.symm
          obtain ⟨p, hp, hk1⟩ := asC_ev hev ha.1 hk
          have hyr := hev _ _ ha.2
          have fin : ∀ {xs : List (List τ.Ty)} {u : Value} {w' : World} {ρ' : Map} {s1 : St} {i : Nat} {nx : List Nat} {nn : Bool}, (Builtin.append_ #[t, tx] o.type #[a.eval x', a.eval y']).run P w = .ok u w' →
              HR c ρ' [] [] ⟨s1.tm, (i, some (.rows true τ xs)) :: s1.hp, nx, s1.ar, s1.q, i :: s1.fr⟩ w' → ρ.le ρ' → CellR ρ' (.sl nn .str i) u → (s1.q = true → ∀ n, c.qs n → w'.heap[n]? = w.heap[n]?) → Same st s1 →
              putC ⟨s1.tm, (i, some (.rows true τ xs)) :: s1.hp, nx, s1.ar, s1.q, i :: s1.fr⟩ d (.sl nn .str i) k → Out P N o a c ρ st w k := by
            intro xs u w' ρ' s1 i nx nn hrun g1 g2 g3 g4 hs hk'
            refine ⟨fun e he => by rw [hd] at he; cases he; exact hn, .inl ⟨u, w', ?_, ρ', _, .v (.c (.sl nn .str i)), g1, g2, ⟨hs.tm, hs.ar, hs.q⟩, g3, by rw [hd]; exact hk', fun hq => g4 (by rw [hs.q]; exact hq)⟩⟩
            simp [execOp, hop, resolve, hcal, hargs, hts, invoke, builtin, hrun]
          unfold appwK at hk1
          split at hk1
          case h_2 => exact hk1.elim
          rename_i r hev2
          rw [hev2] at hyr
          split at hk1
          case h_2 => exact hk1.elim
          rename_i nn0 σ0 m hgr
          split at hk1
          case h_2 => exact hk1.elim
          rename_i σ capm ys hgm
          obtain ⟨hst, hk2⟩ := castF_out hk1
          subst hst
          obtain ⟨hqm, hk3⟩ := md_out hk2
          have hk4 := setB_out hk3
          -- the row's place, and the slice of one row
          obtain ⟨lr, cr, hlr, hyv, hcr⟩ := hyr
          obtain ⟨lr', hlr', hBr⟩ := h.bk r _ hgr
          rw [hlr] at hlr'
          cases hlr'
          obtain ⟨⟨us, hrau, hru⟩, _⟩ := hBr
          obtain ⟨hv', us', rfl, ⟨lm, Am, hlm, hvm, hlem, hAm0, hAm1, _⟩, hnil⟩ := All2.cons_left hru
          cases All2.nil_left hnil
          obtain ⟨lm', hlm', hBm⟩ := h.bk m _ hgm
          rw [hlm] at hlm'
          cases hlm'
          have hsrc : Src P 1 tx (a.eval y') 1 [hv'] w := by
            rw [hyv]
            refine Src.ofSlice w hu' _ 1 cr [hv'] rfl (fun j u hj => ?_) (fun v hv => by simp at hv; subst hv; rw [hvm]; rfl)
            rw [Addr.add_mid]
            exact hrau j u hj
          have hrow : RowR w true σ ⟨lm.blk, lm.off, lm.cap, lm.len⟩ ys := ⟨hBm.1, hBm.2.1, hBm.2.2.2.1, hBm.2.2.2.2⟩
          have hqv : RowV ⟨lm.blk, lm.off, lm.cap, lm.len⟩ hv' := ⟨Am, hvm, hlem, hAm0, hAm1⟩
          have hgm1 : ∀ x, (⟨st.tm, (m, none) :: st.hp, st.nx, st.ar, st.q, st.fr⟩ : St).hget x = if x = m then none else st.hget x := fun x => hget_cons rfl x
          have hrel : HR c ρ ((Blk.flat true σ capm ys).foot lm ++ []) [] ⟨st.tm, (m, none) :: st.hp, st.nx, st.ar, st.q, st.fr⟩ w := h.release hgm hlm hgm1 rfl rfl rfl hqm
          have hfm : (Blk.flat true σ capm ys).foot lm = rowFeet [⟨lm.blk, lm.off, lm.cap, lm.len⟩] := by simp [Blk.foot, rowFeet]
          rw [hfm] at hrel
          split at hk4
          · obtain ⟨i, nx, hnx, hk5⟩ := new_out hk4
            obtain ⟨u, w', ρ', g0, g1, g2, g3, g4⟩ := app_rows (c := c) (ρ := ρ) (s1 := ⟨st.tm, (m, none) :: st.hp, st.nx, st.ar, st.q, st.fr⟩) (ty := o.type) (l := ⟨0, 0, 0, 0, []⟩) (A := none) (xss := ([] : List (List σ.Ty))) (i := i) (nx := nx) false hu hinf hsz hzv hzs hby hu' (by simp) hp (fun _ => rfl) (fun h => by simp at h) (fun e => by cases e)
              ⟨rfl, Nat.le_refl _, ⟨[], (fun j v hj => by simp at hj), trivial⟩, trivial, fun _ => ⟨⟨fun j hj => by simp at hj, fun h => by simp at h⟩, by simp [rowsFoot, rowFeet]⟩⟩ hsrc hqv hrow hrel (fun _ => .inl rfl) hnx
            exact fin g0 g1 g2 g3 g4 ⟨rfl, rfl, rfl⟩ hk5
          · rename_i nn ς b
            split at hk4
            case h_2 => exact hk4.elim
            rename_i ς' xss hgb
            split at hk4
            case h_2 => exact hk4.elim
            obtain ⟨hst, hk5⟩ := castR_out hk4
            subst hst
            obtain ⟨hlen, hk6⟩ := chk_o hk5
            obtain ⟨hqb, hk7⟩ := md_out hk6
            have hk8 := setB_out hk7
            obtain ⟨i, nx, hnx, hk9⟩ := new_out hk8
            obtain ⟨l, A, hlb, hv, hle, hA0, hA1, hnn⟩ := hp
            obtain ⟨l', hl', hB⟩ := hrel.bk b _ hgb
            rw [hlb] at hl'
            cases hl'
            have hrel2 : HR c ρ ((Blk.rows true ς' xss).foot l ++ (rowFeet [⟨lm.blk, lm.off, lm.cap, lm.len⟩] ++ [])) [] ⟨st.tm, (b, none) :: (m, none) :: st.hp, st.nx, st.ar, st.q, st.fr⟩ w := hrel.release hgb hlb (fun x => hget_cons rfl x) rfl rfl rfl hqb
            obtain ⟨u, w', ρ', g0, g1, g2, g3, g4⟩ := app_rows (c := c) (ρ := ρ) (ty := o.type) (s1 := ⟨st.tm, (b, none) :: (m, none) :: st.hp, st.nx, st.ar, st.q, st.fr⟩) (l := l) (A := A) (xss := xss) (i := i) (nx := nx) nn hu hinf hsz hzv hzs hby hu' hlen hv hA0 hA1 hnn
              hB hsrc hqv hrow hrel2 (fun hqq => by
                by_cases h0 : 0 < l.cap
                · exact .inr (hrel.qf hqq b (hqb hqq) _ _ hgb hlb l.blk (by simp [Blk.foot, rowsFoot, h0]))
                · exact .inl (by omega)) hnx
            exact fin g0 g1 g2 g3 g4 ⟨rfl, rfl, rfl⟩ hk9
          · exact hk4.elim
  · cases h2

theorem out_call {d : Option Nat} {f : Nat} {xs : List Arg} (hE : EnvOk P E) (h : HR c ρ [] [] st w) (hev : Ev ρ st a) (hi : inOk P N o (.call d f xs) = true) (hk : insK E (.call d f xs) st k) : Out P N o a c ρ st w k := by
  simp only [inOk, Bool.and_eq_true] at hi
  obtain ⟨h1, h2⟩ := hi
  obtain ⟨hd, hn⟩ := ddOk_out h1
  split at h2
  · rename_i cl hop
    simp only [Bool.and_eq_true] at h2
    obtain ⟨hb, ha⟩ := h2
    split at hb
    · rename_i g hcal
      have hb := Nat.eq_of_beq_eq_true hb
      subst hb
      obtain ⟨vs, hk1, hr⟩ := evs_out hev ha hk
      have hcalls := callK_out hE h hr hk1
      rw [← Array.toList_map, Array.toArray_toList] at hcalls
      have hap : (cl.args.map a.eval) ++ #[] = cl.args.map a.eval := by simp
      rcases hcalls with ⟨hc, hcalls⟩ | ⟨v, w', hrun, v', ρ', st', x, he, q1, q2, q3, q4, q5, q6⟩
      case inr =>
        cases he
        exact ⟨fun e he => hn e (by rw [← hd]; exact he), .inl ⟨v, w', by simp [execOp, hop, resolve, hcal, Act.eval, Deferred.ofValue, invoke, hrun], ρ', st', x, q1, q2, q3, q4, by rw [hd]; exact q5, q6⟩⟩
      refine ⟨fun e he => hn e (by rw [← hd]; exact he), .inr (.inr ⟨f, (cl.args.map a.eval), ?_, ?_⟩)⟩
      · simp [execOp, hop, resolve, hcal, Act.eval, Deferred.ofValue, invoke, hc _ w]
      · refine hcalls.mono fun e w' he => ?_
        obtain ⟨v, ρ', st', x, he, q1, q2, q3, q4, q5, q6⟩ := he
        exact ⟨v, he, ρ', st', x, q1, q2, q3, q4, by rw [hd]; exact q5, q6⟩
    · cases hb
  · cases h2

theorem out_callv {d : Option Nat} {f : Arg} {xs : List Arg} (hE : EnvOk P E) (h : HR c ρ [] [] st w) (hev : Ev ρ st a) (hi : inOk P N o (.callv d f xs) = true) (hk : insK E (.callv d f xs) st k) : Out P N o a c ρ st w k := by
  simp only [inOk, Bool.and_eq_true] at hi
  obtain ⟨h1, h2⟩ := hi
  obtain ⟨hd, hn⟩ := ddOk_out h1
  split at h2
  · rename_i cl hop
    simp only [Bool.and_eq_true] at h2
    obtain ⟨hb, ha⟩ := h2
    split at hb
    · rename_i g hcal
      have hf := hev _ _ hb
      simp only [insK] at hk
      split at hk
      · rename_i gg cs hcs
        rw [hcs] at hf
        obtain ⟨us, hgv, hcr⟩ := hf
        obtain ⟨vs, hk1, hr⟩ := evs_out hev ha hk
        have tov : ∀ {cs : List V1} {us : List Value}, V1sR ρ cs us → TVsR ρ (toTV cs) us := by
          intro cs
          induction cs with
          | nil => intro us h; cases All2.nil_left h; trivial
          | cons x cs ih => intro us h; obtain ⟨u, us, rfl, h1, h2⟩ := All2.cons_left h; exact ⟨h1, ih h2⟩
        have hcalls := callK_out hE h (All2.append hr (tov hcr)) hk1
        have e1 : (cl.args.toList.map a.eval ++ us).toArray = cl.args.map a.eval ++ us.toArray := by
          apply Array.toList_inj.1; simp
        rw [e1] at hcalls
        rcases hcalls with ⟨hc, hcalls⟩ | ⟨v, w', hrun, v', ρ', st', x, he, q1, q2, q3, q4, q5, q6⟩
        case inr =>
          cases he
          exact ⟨fun e he => hn e (by rw [← hd]; exact he), .inl ⟨v, w', by simp [execOp, hop, resolve, hcal, hgv, Deferred.ofValue, invoke, hrun], ρ', st', x, q1, q2, q3, q4, by rw [hd]; exact q5, q6⟩⟩
        refine ⟨fun e he => hn e (by rw [← hd]; exact he), .inr (.inr ⟨gg, (cl.args.map a.eval) ++ us.toArray, ?_, ?_⟩)⟩
        · simp [execOp, hop, resolve, hcal, hgv, Deferred.ofValue, invoke, hc _ w]
        · refine hcalls.mono fun e w' he => ?_
          obtain ⟨v, ρ', st', x, he, q1, q2, q3, q4, q5, q6⟩ := he
          exact ⟨v, he, ρ', st', x, q1, q2, q3, q4, by rw [hd]; exact q5, q6⟩
      · exact hk.elim
    · cases hb
  · cases h2

theorem bytesI_len (s : ByteArray) : (bytesI s).length = s.size := by simp [bytesI]
theorem bytesI_cells (s : ByteArray) : CellsR none0 (flats (.int .u8) (bytesI s)) ((s.data.map fun b => Value.int .u8 b.toNat).toList) := by
  have key : ∀ l : List UInt8, CellsR none0 (flats (.int .u8) (l.map fun b => (b.toNat : Int))) (l.map fun b => Value.int .u8 b.toNat) := fun l => by
    induction l with
    | nil => trivial
    | cons b l ih => exact ⟨rfl, ih⟩
  rw [Array.toList_map]
  exact key _
theorem out_s2b {d : Nat} {x : Arg} (h : HR c ρ [] [] st w) (hev : Ev ρ st a) (hi : inOk P N o (.s2b d x) = true) (hk : insK E (.s2b d x) st k) : Out P N o a c ρ st w k := by
  simp only [inOk, Bool.and_eq_true] at hi
  obtain ⟨h1, h2⟩ := hi
  obtain ⟨hd, hn⟩ := dOk_out h1
  split at h2
  · rename_i s t y hop
    simp only [Bool.and_eq_true] at h2
    obtain ⟨⟨hx, hs⟩, ht⟩ := h2
    split at hs
    case h_2 => cases hs
    rename_i us hus
    split at ht
    case h_2 => cases ht
    rename_i e hut
    have he := u8Ok_out ht
    obtain ⟨p, hp, hk1⟩ := asC_ev hev hx hk
    split at hk1
    · rename_i b
      obtain ⟨i, nx, hnx, hk2⟩ := new_out hk1
      have ev : a.eval y = .string b := hp
      have hrun := Lib.run_convert_string_bytes (P := P) w s t e b hus hut he
      have hcap : b.size ≤ grownCap w b.size 0 e := by simp only [grownCap, Question.cut]; exact Nat.le_add_right _ _
      obtain ⟨ρ', g1, g2, g3, g4⟩ := HR.row (τ := .int .u8) (xs := bytesI b) (cap := grownCap w b.size 0 e) (Grown.bytes w e b) h hnx (bytesI_cells b) (rest := List.replicate (grownCap w b.size 0 e - b.size) (.int .u8 0))
        (by simp [Lib.bytesCells]) (by rw [bytesI_len]; exact hcap) (by simp [Lib.bytesCells, FT.sz]; omega) true
      rw [bytesI_len] at g4
      exact ⟨fun e he => by rw [hd] at he; cases he; exact hn, .inl ⟨_, _, by simp only [execOp, hop, ev, Sem.run_bind, hrun, Result.andThen_ok, Sem.run_pure], ρ', _, .v (.c (.sl true (.int .u8) i)), g1, g2, ⟨rfl, rfl, rfl⟩, g4, by rw [hd]; exact hk2, g3⟩⟩
    · exact hk1.elim
  · cases h2
theorem u8_cells : ∀ {ys : List Int} {vals : List Value}, CellsR none0 (flats (.int .u8) ys) vals → vals = ys.map (Value.int .u8)
  | [], vals, h => by cases All2.nil_left h; rfl
  | y :: ys, vals, h => by
    obtain ⟨v, vs, rfl, h1, h2⟩ := All2.cons_left h
    have h1 : v = .int .u8 y := h1
    rw [h1, u8_cells h2]; rfl
theorem b2s_run {ys : List Int} {v : Value} {s t e : TypeId} (hr : Row w (.int .u8) ys v) (hut : P.underlying t = some .string) (hus : P.underlying s = some (.slice e)) (he : P.underlying e = some (.int .u8)) : (convert s t v).run P w = .ok (.string (strI ys)) w := by
  obtain ⟨A, cap, vals, hv, hle, hr, hA⟩ := hr.ex
  have hvals := u8_cells (ys := ys) hr
  rw [hv]
  cases A with
  | none =>
    have h0 : ys = [] := by
      cases ys with
      | nil => rfl
      | cons y r => obtain ⟨b, o, h, _⟩ := hA (by simp); cases h
    subst h0
    rw [run_convert_bytes_nil w s e hus he _ _ t hut]; rfl
  | some ad =>
    have hl : (loadCells ad ys.length).run P w = .ok (ys.map (Value.int .u8)).toArray w := by
      have := run_loadCells_list (P := P) w ad (ys.map (Value.int .u8)) (fun j v hj => by
        have hjl : j < ys.length := by
          have := (List.getElem?_eq_some_iff.1 hj).1
          simpa using this
        obtain ⟨b, o, hx, hra⟩ := hA (by omega)
        cases hx
        rw [hvals] at hra
        rw [Addr.add_mid]; exact hra j v hj)
      simpa using this
    rw [run_convert_bytes_string w s t e _ _ _ hus he hut, run_bytesToString w _ _ _ ys hl, foldl_push_bytes]
    simp [strI, ByteArray.empty, ByteArray.emptyWithCapacity]
    rfl
theorem b2s_chk {d : Nat} {x : Arg} (hi : inOk P N o (.b2s d x) = true) : ∃ s t e y, o.op = .convert s t y ∧ o.dst = some d ∧ d < N ∧ argOk x y = true ∧ P.underlying t = some .string ∧ P.underlying s = some (.slice e) ∧ P.underlying e = some (.int .u8) := by
  simp only [inOk, Bool.and_eq_true] at hi
  obtain ⟨h1, h2⟩ := hi
  obtain ⟨hd, hn⟩ := dOk_out h1
  split at h2
  · rename_i s t y hop
    simp only [Bool.and_eq_true] at h2
    obtain ⟨⟨hx, ht⟩, hs⟩ := h2
    split at ht
    case h_2 => cases ht
    rename_i hut
    split at hs
    case h_2 => cases hs
    rename_i e hus
    exact ⟨s, t, e, y, hop, hd, hn, hx, hut, hus, u8Ok_out hs⟩
  · cases h2
theorem out_b2s {d : Nat} {x : Arg} (h : HR c ρ [] [] st w) (hev : Ev ρ st a) (hi : inOk P N o (.b2s d x) = true) (hk : insK E (.b2s d x) st k) : Out P N o a c ρ st w k := by
  obtain ⟨s, t, e, y, hop, hd, hn, hx, hut, hus, he⟩ := b2s_chk hi
  obtain ⟨p, hp, hk1⟩ := asC_ev hev hx hk
  obtain ⟨ys, hk2, hrow⟩ := elems_out h hp hk1
  exact ⟨fun e he => by rw [hd] at he; cases he; exact hn, .inl ⟨_, w, by simp only [execOp, hop, Sem.run_bind, b2s_run hrow hut hus he, Result.andThen_ok, Sem.run_pure], ρ, st, .v (.c (.str (strI ys))), h, Map.le_refl ρ, Same.refl st, rfl, by rw [hd]; exact hk2, fun _ _ _ => rfl⟩⟩
theorem farS_out {O : List Nat} {p : Cell} {k : Prop} (h : farS O p k) (hs : ∀ f, elems ⟨[], [], [], [], false, []⟩ (.int .u8) p f → True) : ((∀ nn τ b, p = .sl nn τ b → b ∉ O) ∧ (∀ nn τ b o l, p = .slp nn τ b o l → b ∉ O)) ∧ k := by
  unfold farS at h
  split at h
  · split at h
    · exact h.elim
    · rename_i hm; exact ⟨⟨(fun _ _ b e => by cases e; exact (mem_false _ _).1 hm), (fun _ _ _ _ _ e => by cases e)⟩, h⟩
  · split at h
    · exact h.elim
    · rename_i hm; exact ⟨⟨(fun _ _ _ e => by cases e), (fun _ _ b _ _ e => by cases e; exact (mem_false _ _).1 hm)⟩, h⟩
  · split at h
    · exact h.elim
    · exact ⟨⟨(fun _ _ _ e => by cases e), (fun _ _ _ _ _ e => by cases e)⟩, h⟩
  · rename_i h1 h2 h3
    exact ⟨⟨fun nn τ b e => absurd e (h1 nn τ b), fun nn τ b o l e => absurd e (h2 nn τ b o l)⟩, h⟩
theorem take_b2s {c0 : Ctx P} {ρ0 : Map} {st0 : St} {W0 : World} {h0 : List (Nat × Option Blk)} {O : List Nat} {q : Nat → Prop} {d : Nat} {x : Arg} (hh : st0.hp = h0) (h : HR c0 ρ0 [] [] st0 W0) (hq : ∀ m, m < W0.heap.size → m ∉ feet ρ0 st0 O → q m) (hle : ρ0.le ρ) (hev : Ev ρ st a)
    (hi : inOk P N o (.b2s d x) = true) (hk : takeI O h0 (.b2s d x) st k) :
    ∃ v z, o.dst = some d ∧ d < N ∧ TVR ρ z v ∧ put st d z k ∧ ∀ w' : World, (∀ n, q n → w'.heap[n]? = W0.heap[n]?) → (execOp a.eval o).run P w' = .ok (.value v) w' := by
  obtain ⟨s, t, e, y, hop, hd, hn, hx, hut, hus, he⟩ := b2s_chk hi
  have hk0 : asC (st.ev x) (fun p => farS O p (elems ⟨[], h0, [], [], false, []⟩ (.int .u8) p fun ys => putC st d (.str (strI ys)) k)) := hk
  obtain ⟨p, hp, hk1⟩ := asC_ev hev hx hk0
  obtain ⟨⟨hf1, hf2⟩, hk1⟩ := farS_out hk1 (fun _ _ => trivial)
  have hget : ∀ b, St.hget ⟨[], h0, [], [], false, []⟩ b = st0.hget b := fun b => by unfold St.hget; rw [hh]
  have h' : HR c0 ρ0 [] [] ⟨[], h0, [], [], false, []⟩ W0 :=
    ⟨fun b B hg => h.bk b B (by rw [← hget]; exact hg), fun b B l b' B' l' hg hl hg' hl' => h.sp b B l b' B' l' (by rw [← hget]; exact hg) hl (by rw [← hget]; exact hg') hl',
     fun b B l hg => h.ow b B l (by rw [← hget]; exact hg), List.nodup_nil, fun z hz => (by cases hz), fun z hz => (by cases hz), List.nodup_nil, fun z hz => (by cases hz), h.fr, fun e => (by cases e), fun e => (by cases e), fun e => (by cases e)⟩
  cases hel : (refC p) with
  | none =>
    obtain ⟨ys, hk2, hrow⟩ := elems_out2 h' hle hp hk1
    exact ⟨.string (strI ys), .v (.c (.str (strI ys))), hd, hn, rfl, hk2, fun w' hw => by
      simp only [execOp, hop, Sem.run_bind, b2s_run (hrow w' (fun b B l hb => by rw [hel] at hb; cases hb)) hut hus he, Result.andThen_ok, Sem.run_pure]⟩
  | some b0 =>
    have hb0 : b0 ∉ O := by
      cases p <;> simp only [refC] at hel <;> first
        | (cases hel; done)
        | (cases hel; exact hf1 _ _ _ rfl)
        | (cases hel; exact hf2 _ _ _ _ _ rfl)
        | (exfalso; unfold elems at hk1; exact hk1)
    obtain ⟨ys, hk2, hrow⟩ := elems_out2 h' hle hp hk1
    refine ⟨.string (strI ys), .v (.c (.str (strI ys))), hd, hn, rfl, hk2, fun w' hw => ?_⟩
    have hkept : ∀ b B l, refC p = some b → St.hget ⟨[], h0, [], [], false, []⟩ b = some B → ρ0 b = some l → (l.blk ∈ B.foot l ∨ l.blk ∈ B.shw l) → w'.heap[l.blk]? = W0.heap[l.blk]? := fun b B l hpb hg hl hin => by
      rw [hel] at hpb
      cases hpb
      rw [hget] at hg
      refine hw _ (hq _ ?_ fun hm => ?_)
      · obtain ⟨o1, o2⟩ := h.ow b0 B l hg hl
        rcases hin with hin | hin
        · exact (o1 _ hin).1
        · exact (o2 _ hin).1
      · obtain ⟨b', hb', hf⟩ := List.mem_flatMap.1 hm
        obtain ⟨B', l', hB', hl', hx⟩ := footOf_mem hf
        have hne : b' ≠ b0 := fun e => hb0 (e ▸ hb')
        obtain ⟨s1, s2⟩ := h.sp b' B' l' b0 B l hB' hl' hg hl hne _ hx
        rcases hin with hin | hin
        · exact s1 hin
        · exact s2 hin
    simp only [execOp, hop, Sem.run_bind, b2s_run (hrow w' hkept) hut hus he, Result.andThen_ok, Sem.run_pure]
theorem out_cap {d : Nat} {x : Arg} (h : HR c ρ [] [] st w) (hev : Ev ρ st a) (hi : inOk P N o (.cap d x) = true) (hk : insK E (.cap d x) st k) : Out P N o a c ρ st w k := by
  simp only [inOk, Bool.and_eq_true] at hi
  obtain ⟨h1, h2⟩ := hi
  obtain ⟨hd, hn⟩ := dOk_out h1
  split at h2
  · rename_i cl hop
    simp only [Bool.and_eq_true] at h2
    obtain ⟨⟨hb, ha⟩, ht⟩ := h2
    cases hl : cl.args.toList with
    | nil => rw [hl] at ha; cases ha
    | cons x' l =>
      cases l with
      | cons _ _ => rw [hl] at ha; simp [argsOk] at ha
      | nil =>
        rw [hl] at ha
        simp only [argsOk, Bool.and_true] at ha
        have hargs : cl.args = #[x'] := by
          apply Array.toList_inj.1; simpa using hl
        split at hb
        · rename_i hcal
          split at ht
          · rename_i t ht'
            split at ht
            · rename_i e he
              obtain ⟨p, hp, hk1⟩ := asC_ev hev ha hk
              cases p with
              | nils τ =>
                have hp : a.eval x' = .slice none 0 0 := hp
                exact ⟨fun e he => by rw [hd] at he; cases he; exact hn, .inl ⟨goInt 0, w, by simp [execOp, hop, resolve, hcal, hargs, invoke, builtin, Builtin.cap_, hp, ht', run_underlying he], ρ, st, .v (.c (.int .i64 0)), h, Map.le_refl ρ, Same.refl st, rfl, by rw [hd]; exact hk1, fun _ _ _ => rfl⟩⟩
              | _ => exact hk1.elim
            · cases ht
          · cases ht
        · cases hb
  · cases h2
theorem out_slcz {d : Nat} {τ : FT} {x n : Arg} (h : HR c ρ [] [] st w) (hev : Ev ρ st a) (hi : inOk P N o (.slcz d τ x n) = true) (hk : insK E (.slcz d τ x n) st k) : Out P N o a c ρ st w k := by
  simp only [inOk, Bool.and_eq_true] at hi
  obtain ⟨h1, h2⟩ := hi
  obtain ⟨hd, hn⟩ := dOk_out h1
  split at h2
  · rename_i t y lo' hi' mx hop
    simp only [Bool.and_eq_true] at h2
    obtain ⟨⟨⟨⟨hx, hna⟩, hlo⟩, hmx⟩, ht⟩ := h2
    cases mx with
    | some _ => cases hmx
    | none =>
    cases lo' with
    | some _ => cases hlo
    | none =>
    obtain ⟨e, inf, hu, hinf, hsz⟩ := slOk_out ht
    obtain ⟨p, hp, hk1⟩ := asC_ev hev hx hk
    obtain ⟨m, hm, hk2⟩ := asC_ev hev hna hk1
    cases p with
    | nils ς =>
      cases m with
      | int kk z =>
        obtain ⟨hz, hk3⟩ := chk_o hk2
        subst hz
        have hp : a.eval y = .slice none 0 0 := hp
        have hm : a.eval hi' = .int kk 0 := hm
        have hrun := run_bounds (P := P) w 0 0 0 0 (none : Option Value) (some (Value.int kk ((0 : Nat) : Int))) (.inl ⟨rfl, rfl⟩) (.inr ⟨kk, rfl⟩) (Nat.le_refl _) (Nat.le_refl _)
        have hs : (sizeOf e).run P w = .ok τ.sz w := by simp [sizeOf, run_typeInfo w hinf, hsz]
        have hrun : (Instr.sliceBounds true 0 0 none (some (.int kk 0)) none).run P w = .ok (0, 0, 0) w := hrun
        exact ⟨fun e he => by rw [hd] at he; cases he; exact hn, .inl ⟨.slice none 0 0, w, by simp [execOp, hop, hp, hm, Instr.sliceAt, Instr.slice, run_underlying hu, hrun, hs], ρ, st, .v (.c (.nils τ)), h, Map.le_refl ρ, Same.refl st, rfl, by rw [hd]; exact hk3, fun _ _ _ => rfl⟩⟩
      | _ => exact hk2.elim
    | _ => exact hk2.elim
  · cases h2
theorem out_appz {d : Nat} {τ : FT} {x n : Arg} (h : HR c ρ [] [] st w) (hev : Ev ρ st a) (hi : inOk P N o (.appz d τ x n) = true) (hk : insK E (.appz d τ x n) st k) : Out P N o a c ρ st w k := by
  simp only [inOk, Bool.and_eq_true] at hi
  obtain ⟨h1, h2⟩ := hi
  obtain ⟨hd, hn⟩ := dOk_out h1
  split at h2
  · rename_i cl hop
    simp only [Bool.and_eq_true] at h2
    obtain ⟨⟨hb, ha⟩, ht⟩ := h2
    split at hb
    case h_2 => cases hb
    rename_i hcal
    obtain ⟨x', n', hl, hxa, hna⟩ : ∃ x' n', cl.args.toList = [x', n'] ∧ argOk x x' = true ∧ argOk n n' = true := by
      cases hl : cl.args.toList with
      | nil => rw [hl] at ha; cases ha
      | cons x' l => cases l with
        | nil => rw [hl] at ha; simp [argsOk] at ha
        | cons n' l => cases l with
          | nil => rw [hl] at ha; simp only [argsOk, Bool.and_true, Bool.and_eq_true] at ha; exact ⟨x', n', rfl, ha.1, ha.2⟩
          | cons _ _ => rw [hl] at ha; simp [argsOk] at ha
    have hargs : cl.args = #[x', n'] := by apply Array.toList_inj.1; simpa using hl
    split at ht
    case h_2 => cases ht
    rename_i t u htys
    have htt : cl.argTypes = #[t, u] := by apply Array.toList_inj.1; simpa using htys
    simp only [Bool.and_eq_true] at ht
    obtain ⟨⟨hsl, hu2⟩, hz⟩ := ht
    split at hu2
    case h_2 => cases hu2
    rename_i kn hun
    obtain ⟨e, inf, hu, hinf, hsz⟩ := slOk_out hsl
    rw [hu] at hz
    simp only [Bool.and_eq_true] at hz
    obtain ⟨hz, hby⟩ := hz
    rw [hinf] at hby
    have hby := Nat.le_of_ble_eq_true hby
    obtain ⟨zv, _, ⟨inf', hinf', hzv⟩, hzr⟩ := zeroOk_out hz
    rw [hinf] at hinf'
    cases hinf'
    obtain ⟨p, hp, hk1⟩ := asC_ev hev hxa hk
    obtain ⟨m, hm, hk2⟩ := asC_ev hev hna hk1
    cases p with
    | nils ς =>
      cases m with
      | int kk z =>
        obtain ⟨hm1, hk3⟩ := chk_o hk2
        obtain ⟨i, nx, hnx, hk4⟩ := new_out hk3
        have hp : a.eval x' = .slice none 0 0 := hp
        have hm : a.eval n' = .int kk z := hm
        obtain ⟨z, rfl⟩ := Int.eq_ofNat_of_zero_le (show 0 ≤ z by omega)
        have hb1 : z * inf.bytes ≤ 281474976710656 := by
          have : z * inf.bytes ≤ 2147483647 * 65536 := Nat.mul_le_mul (by omega) hby
          omega
        have hb2 : (0 + z) * inf.bytes ≤ 140737488355328 := by
          have : (0 + z) * inf.bytes ≤ 2147483647 * 65536 := Nat.mul_le_mul (by omega) hby
          omega
        have hrun := Lib.run_append_grow_zeros (P := P) w t u o.type e inf zv kk kn hu hun hinf hzv none 0 0 [] (run_firstCells_none w.drew _ _ _ _) z (by omega) (by rw [hsz]; exact sz_pos τ) (by omega) (by omega) hb1 (growslice_fits (by omega) hb2)
        have hgc : z ≤ grownCap w (0 + z) 0 e := by simp only [grownCap, Question.cut]; omega
        have hzs : zv.cells.size = τ.sz := by have := All2.length hzr; rw [flat_length] at this; simpa using this.symm
        have hmc : (Builtin.zeroCells zv.cells z) = madeCells zv.cells (z * τ.sz) := by unfold Builtin.zeroCells madeCells; rw [hzs]
        have hfz := flats_zero hzr z
        rw [← hmc] at hfz
        have hg := Grown.drew (u := τ.u8) w (([] : List Value).toArray ++ Builtin.zeroCells zv.cells z ++ Builtin.zeroCells zv.cells (grownCap w (0 + z) 0 e - (0 + z))) e
        obtain ⟨ρ', g1, g2, g3, g4⟩ := HR.row (τ := τ) (xs := List.replicate z τ.zero) (cap := grownCap w (0 + z) 0 e) (rest := (Builtin.zeroCells zv.cells (grownCap w (0 + z) 0 e - (0 + z))).toList) hg h hnx hfz (by simp) (by simpa using hgc) (by
          simp only [Array.size_append, List.size_toArray, List.length_nil, zeroCells_size, hzs]
          rw [show 0 + z * τ.sz = z * τ.sz from Nat.zero_add _, ← Nat.add_mul]
          exact Nat.mul_le_mul_right _ (by omega)) false
        have hargv : (#[a.eval x', a.eval n'] : Array Value) = #[.slice none 0 0, .int kk (z : Int)] := by rw [hp, hm]
        rw [← hargv] at hrun
        have hex : ∀ v w', (Builtin.append_ #[t, u] o.type #[a.eval x', a.eval n']).run P w = .ok v w' → (execOp a.eval o).run P w = .ok (.value v) w' := fun v w' hr => by
          simp [execOp, hop, resolve, hcal, hargs, htt, invoke, builtin, hr]
        refine ⟨fun e he => by rw [hd] at he; cases he; exact hn, .inl ⟨_, _, hex _ _ hrun, ρ', _, .v (.c (.sl false τ i)), g1, g2, ⟨rfl, rfl, rfl⟩, ?_, by rw [hd]; exact hk4, g3⟩⟩
        rw [List.length_replicate] at g4
        rw [Nat.zero_add]
        rw [Nat.zero_add] at g4
        exact g4
      | _ => exact hk2.elim
    | _ => exact hk2.elim
  · cases h2

theorem run_stri {w : World} {b o n : Nat} {c : Array Value} {e f : TypeId} {len cap : Nat} {fr : Nat × Nat} {t : TypeId} (hb : w.heap[b]? = some (.cells c f fr)) (ht : P.underlying t = some (.slice e)) (he : P.underlying e = some (.int .u8)) :
    (convert t t (.slice (some ⟨b, o, none⟩) len cap)).run P w = .ok (.slice (some ⟨b, o, none⟩) len cap) (w.freeze ⟨b, c.size, none⟩ 1) := by
  have hs : w.shape? b = some (f, c.size) := by simp [World.shape?, hb]
  simp [convert, run_underlying ht, run_underlying he, markStringish, hs, Result.andThen]
theorem freeze_at {w : World} {b s : Nat} {c : Array Value} {f : TypeId} {lo hi : Nat} (hb : w.heap[b]? = some (.cells c f (lo, hi))) :
    (w.freeze ⟨b, s, none⟩ 1).heap[b]? = some (.cells c f (if lo == hi then (s, s + 1) else (min lo s, max hi (s + 1)))) := by
  have hlt : b < w.heap.size := (Array.getElem?_eq_some_iff.1 hb).1
  simp [World.freeze, Array.getElem?_modify, hb]
theorem freeze_old {w : World} {b s j : Nat} (hj : j ≠ b) : (w.freeze ⟨b, s, none⟩ 1).heap[j]? = w.heap[j]? := by
  simp [World.freeze, Array.getElem?_modify, Ne.symm hj]
theorem out_stri {d : Nat} {x : Arg} (h : HR c ρ [] [] st w) (hev : Ev ρ st a) (hi : inOk P N o (.stri d x) = true) (hk : insK E (.stri d x) st k) : Out P N o a c ρ st w k := by
  simp only [inOk, Bool.and_eq_true] at hi
  obtain ⟨h1, h2⟩ := hi
  obtain ⟨hd, hn⟩ := dOk_out h1
  split at h2
  case h_2 => cases h2
  rename_i s t y hop
  simp only [Bool.and_eq_true] at h2
  obtain ⟨⟨hx, hst⟩, ht⟩ := h2
  have hst := Nat.eq_of_beq_eq_true hst
  subst hst
  split at ht
  case h_2 => cases ht
  rename_i e hut
  have he := u8Ok_out ht
  obtain ⟨p, hp, hk1⟩ := asC_ev hev hx hk
  split at hk1
  case h_2 => exact hk1.elim
  rename_i nn σ b
  split at hk1
  case h_2 => exact hk1.elim
  rename_i τ cap xs hg
  split at hk1
  case h_2 => exact hk1.elim
  rename_i hft
  have hft := ftEq_eq hft
  subst hft
  split at hk1
  case h_2 => exact hk1.elim
  rename_i hu8
  have hu8 : σ.u8 = true := by have := ftEq_eq hu8; subst this; rfl
  obtain ⟨hpos, hk2⟩ := chk_o hk1
  obtain ⟨hqf, hk4⟩ := md_out hk2
  have hk3 := setB_out hk4
  have hp' := hp
  obtain ⟨l, A, hl, hv, hle, hA0, hA1, hnn⟩ := hp'
  obtain ⟨l', hl', hB⟩ := h.bk b _ hg
  rw [hl] at hl'
  cases hl'
  obtain ⟨b1, b2, b3, b4, b5⟩ := hB
  have hc0 : 0 < l.cap := by omega
  have hAe := hA1 hc0
  have hsz : 0 < l.cap * σ.sz := Nat.mul_pos hc0 (sz_pos σ)
  obtain ⟨th, un⟩ := b5 rfl
  have hun := un hsz
  have h0 := (th (l.cap * σ.sz - 1) (by omega)).1
  -- the block
  have hblk : ∃ cs f lo hi, w.heap[l.blk]? = some (.cells cs f (lo, hi)) ∧ l.off + l.cap * σ.sz ≤ cs.size := by
    unfold World.cell? at h0
    split at h0
    · rename_i cs f fr hh
      obtain ⟨lo, hi⟩ := fr
      refine ⟨cs, f, lo, hi, hh, ?_⟩
      simp at h0
      omega
    all_goals (first | (simp at h0; done) | (rename_i hh; simp at h0))
  obtain ⟨cs, f, lo, hi, hh, hsize⟩ := hblk
  have hrun := run_stri (P := P) (w := w) (b := l.blk) (o := l.off) (len := l.len) (cap := l.cap) hh hut he (n := 0)
  have hfa := freeze_at (s := cs.size) hh
  have hunb : Unbar (w.freeze ⟨l.blk, cs.size, none⟩ 1) l.blk (l.off + l.cap * σ.sz) σ.u8 := fun c' e' lo' hi' hh' => by
    rw [hfa] at hh'
    simp only [Option.some.injEq, Obj.cells.injEq] at hh'
    obtain ⟨_, _, hf⟩ := hh'
    have : lo = hi ∨ l.off + l.cap * σ.sz ≤ lo := (hun cs f lo hi hh).imp id And.right
    refine (?_ : lo' = hi' ∨ l.off + l.cap * σ.sz ≤ lo').imp id (fun h => ⟨hu8, h⟩)
    split at hf
    · simp only [Prod.mk.injEq] at hf; omega
    · rename_i hne
      simp only [beq_iff_eq] at hne
      simp only [Prod.mk.injEq] at hf; omega
  generalize (if lo == hi then (cs.size, cs.size + 1) else (min lo cs.size, max hi (cs.size + 1))) = fr' at hfa
  obtain ⟨lo', hi'⟩ := fr'
  have hcell : ∀ j, (w.freeze ⟨l.blk, cs.size, none⟩ 1).cell? ⟨l.blk, j, none⟩ = w.cell? ⟨l.blk, j, none⟩ := fun j => by
    unfold World.cell?; simp only [hfa, hh]
  have hfz : ∀ j, j < l.cap * σ.sz → (w.freeze ⟨l.blk, cs.size, none⟩ 1).frozen? ⟨l.blk, l.off + j, none⟩ = false := fun j hj => by
    have hlo := (hunb _ _ _ _ hfa).imp id And.right
    unfold World.frozen?
    simp only [hfa]
    rcases hlo with e | e
    · rw [Bool.and_eq_false_iff]; simp only [decide_eq_false_iff_not]; omega
    · rw [Bool.and_eq_false_iff]; simp only [decide_eq_false_iff_not]; left; omega
  have hB' : BlkR (w.freeze ⟨l.blk, cs.size, none⟩ 1) ρ l (.flat true σ cap xs) := by
    obtain ⟨vals, hra, hr⟩ := b4
    exact ⟨b1, b2, b3, ⟨vals, fun j v hj => by rw [hcell]; exact hra j v hj, hr⟩, fun _ => ⟨fun j hj => ⟨by rw [hcell]; exact (th j hj).1, hfz j hj⟩, fun _ => hunb⟩⟩
  have hfr : (w.freeze ⟨l.blk, cs.size, none⟩ 1).os = w.os ∧ (w.freeze ⟨l.blk, cs.size, none⟩ 1).tape = w.tape ∧ (w.freeze ⟨l.blk, cs.size, none⟩ 1).output = w.output := by
    unfold World.freeze; split <;> exact ⟨rfl, rfl, rfl⟩
  have hsz2 : (w.freeze ⟨l.blk, cs.size, none⟩ 1).heap.size = w.heap.size := by simp [World.freeze]
  have hh2 : HR c ρ [] [] ⟨st.tm, (b, some (.flat true σ cap xs)) :: st.hp, st.nx, st.ar, st.q, st.fr⟩ (w.freeze ⟨l.blk, cs.size, none⟩ 1) :=
    HR.upd h hg hl rfl rfl hB' hfr hsz2 (fun z hz => freeze_old (fun e => hz (by subst e; simp [Blk.foot, hc0]))) rfl hqf
  exact ⟨fun e he => by rw [hd] at he; cases he; exact hn, .inl ⟨_, _, by simp only [execOp, hop, hv, hAe, Sem.run_bind, hrun, Result.andThen_ok, Sem.run_pure], ρ, _, .v (.c (.sl nn σ b)), hh2, Map.le_refl ρ, ⟨rfl, rfl, rfl⟩, ⟨l, some ⟨l.blk, l.off, none⟩, hl, rfl, hle, (fun e => by cases e), fun _ => rfl, fun _ e => by cases e⟩, by rw [hd]; exact hk3, fun hq j hj => by
    refine freeze_old (fun e => ?_)
    exact h.qf hq b (hqf hq) _ _ hg hl l.blk (by simp [Blk.foot, hc0]) (e ▸ hj)⟩⟩

theorem asW_out {τ : FT} {x : Cell} {v : Value} {f : Bool → Nat → Option Nat → List τ.Ty → Nat → Nat → Prop} (h : HR c ρ [] [] st w) (hv : CellR ρ x v) (hk : asW st τ x f) :
    ∃ nn b cap xs off len l A, st.hget b = some (.flat true τ cap xs) ∧ ρ b = some l ∧ BlkR w ρ l (.flat true τ cap xs) ∧ v = .slice A len (l.cap - off) ∧ off + len ≤ xs.length ∧ (A = none → l.cap - off = 0) ∧
      (0 < l.cap - off → A = some ⟨l.blk, l.off + off * τ.sz, none⟩) ∧ (nn = true → A ≠ none) ∧ f nn b cap xs off len := by
  unfold asW at hk
  split at hk
  · rename_i nn ς b
    split at hk
    · rename_i hft
      have hft := ftEq_eq hft
      subst hft
      split at hk
      · rename_i σ cap xs hg
        obtain ⟨hst, hk⟩ := castF_out hk
        subst hst
        obtain ⟨l, A, hl, hval, hle, hA0, hA1, hnn⟩ := hv
        obtain ⟨l', hl', hB⟩ := h.bk b _ hg
        rw [hl] at hl'
        cases hl'
        have b1 : l.len = xs.length := hB.1
        exact ⟨nn, b, cap, xs, 0, xs.length, l, A, hg, hl, hB, by rw [hval, b1]; rfl, by omega, by simpa using hA0, by simpa using hA1, hnn, hk⟩
      · exact hk.elim
    · exact hk.elim
  · rename_i nn ς b off len
    split at hk
    · rename_i hft
      have hft := ftEq_eq hft
      subst hft
      split at hk
      · rename_i σ cap xs hg
        obtain ⟨hst, hk⟩ := castF_out hk
        subst hst
        obtain ⟨l, A, hl, hval, hle, hle2, hA0, hA1, hnn⟩ := hv
        obtain ⟨l', hl', hB⟩ := h.bk b _ hg
        rw [hl] at hl'
        cases hl'
        have b1 : l.len = xs.length := hB.1
        exact ⟨nn, b, cap, xs, off, len, l, A, hg, hl, hB, hval, by omega, hA0, hA1, hnn, hk⟩
      · exact hk.elim
    · exact hk.elim
  · exact hk.elim
theorem flats_over (τ : FT) (xs zs : List τ.Ty) (p : Nat) : flats τ (over xs p zs) = (flats τ xs).take (p * τ.sz) ++ flats τ zs ++ (flats τ xs).drop (p * τ.sz + zs.length * τ.sz) := by
  have e1 : (flats τ xs).take (p * τ.sz) = flats τ (xs.take p) := by
    have := win_flats τ 0 p xs
    simpa [win] using this.symm
  have e2 : (flats τ xs).drop (p * τ.sz + zs.length * τ.sz) = flats τ (xs.drop (p + zs.length)) := by
    have := win_flats τ (p + zs.length) xs.length xs
    rw [Nat.add_mul] at this
    unfold win at this
    rw [List.take_of_length_le (by simp), List.take_of_length_le (by rw [List.length_drop, flats_length]; omega)] at this
    exact this.symm
  rw [e1, e2]
  simp [over, flats]
theorem over_out {b p : Nat} {τ : FT} {cap : Option Nat} {xs zs : List τ.Ty} {news : List Value} {l : Loc} (h : HR c ρ [] [] st w) (hg : st.hget b = some (.flat true τ cap xs)) (hl : ρ b = some l) (hB : BlkR w ρ l (.flat true τ cap xs))
    (hfit : p + zs.length ≤ xs.length) (hz : CellsR none0 (flats τ zs) news) (hq : st.q = true → b ∈ st.fr) :
    w.there l.blk (l.off + p * τ.sz) news.length ∧ HR c ρ [] [] ⟨st.tm, (b, some (.flat true τ cap (over xs p zs))) :: st.hp, st.nx, st.ar, st.q, st.fr⟩ (w.setCells l.blk (l.off + p * τ.sz) news) ∧
      (st.q = true → ∀ n, c.qs n → (w.setCells l.blk (l.off + p * τ.sz) news).heap[n]? = w.heap[n]?) := by
  obtain ⟨b1, b2, b3, ⟨us, hra, hr⟩, b5⟩ := hB
  have hul := All2.length hr
  have hnl := All2.length hz
  rw [flats_length] at hul hnl
  have hm : p * τ.sz + zs.length * τ.sz ≤ xs.length * τ.sz := by rw [← Nat.add_mul]; exact Nat.mul_le_mul_right _ hfit
  have hcapm : xs.length * τ.sz ≤ l.cap * τ.sz := Nat.mul_le_mul_right _ (by omega)
  have hth : w.there l.blk (l.off + p * τ.sz) news.length := there_sub (b5 rfl).1 (by omega)
  refine ⟨hth, ?_, fun hqq n hn => ?_⟩
  · by_cases hc0 : 0 < l.cap
    · refine HR.upd h hg hl (B' := .flat true τ cap (over xs p zs)) rfl rfl ⟨by rw [b1]; simp [over]; omega, b2, b3, ⟨_, rangeAt_set hra (by omega) hth, ?_⟩, fun _ => (b5 rfl).set _ _⟩
        ⟨(setCells_all _ _ _ _).1, (setCells_all _ _ _ _).2.1, (setCells_all _ _ _ _).2.2.1⟩ (setCells_all _ _ _ _).2.2.2.1 (fun x hx => (setCells_all _ _ _ _).2.2.2.2 x (fun e => hx (by simp [Blk.foot, e, hc0]))) rfl hq
      rw [flats_over, ← hnl]
      exact All2.append (All2.append (All2.take _ hr) hz) (All2.drop _ hr)
    · have hx : xs = [] := List.eq_nil_of_length_eq_zero (by omega)
      have hzz : zs = [] := List.eq_nil_of_length_eq_zero (by omega)
      subst hx; subst hzz
      have hn0 : news = [] := List.eq_nil_of_length_eq_zero (by simpa using hnl.symm)
      subst hn0
      refine HR.upd h hg hl (B' := .flat true τ cap (over [] p [])) (w' := w) rfl rfl ⟨by simpa [over] using b1, b2, b3, ⟨us, hra, by simpa [over] using hr⟩, b5⟩ ⟨rfl, rfl, rfl⟩ rfl (fun _ _ => rfl) rfl hq
  · by_cases hn0 : news = []
    · subst hn0; rfl
    · have hpos : 0 < news.length := List.length_pos_iff.2 hn0
      have hcap : 0 < l.cap := by
        rcases Nat.eq_zero_or_pos l.cap with e | e
        · rw [e] at b2; have : xs.length = 0 := by omega
          have : zs.length = 0 := by omega
          rw [this] at hnl; omega
        · exact e
      have := h.qf hqq b (hq hqq) _ _ hg hl l.blk (by simp [Blk.foot, hcap])
      exact (setCells_all _ _ _ _).2.2.2.2 n (fun e => this (e ▸ hn))
theorem sz_one {P : Program} {t : Nat} {τ : FT} (h : slOk P t τ = true) : ∃ e, P.underlying t = some (.slice e) ∧ ∀ w, (sizeOf e).run P w = .ok τ.sz w := by
  obtain ⟨e, inf, hu, hinf, hsz⟩ := slOk_out h
  exact ⟨e, hu, fun w => by simp [sizeOf, run_typeInfo w hinf, hsz]⟩
theorem store_over {b o : Nat} {vs : List Value} (h1 : ∀ u ∈ vs, u.oneCell' = true) (ht : w.there b o vs.length) : (storeCells ⟨b, o, none⟩ vs).run P w = .ok () (w.setCells b o vs) := by
  have := run_storeCells_cells (P := P) b o vs 0 w (fun j hj => by simpa using (ht j hj).1) (fun j hj => by simpa using (ht j hj).2) h1
  simpa using this
theorem two_args {cl : Go.Call} {x y : Arg} (ha : argsOk [x, y] cl.args.toList = true) : ∃ x' y', cl.args = #[x', y'] ∧ argOk x x' = true ∧ argOk y y' = true := by
  cases hl : cl.args.toList with
  | nil => rw [hl] at ha; cases ha
  | cons x' l =>
    cases l with
    | nil => rw [hl] at ha; simp [argsOk] at ha
    | cons y' l =>
      cases l with
      | cons _ _ => rw [hl] at ha; simp [argsOk] at ha
      | nil =>
        rw [hl] at ha
        simp only [argsOk, Bool.and_true, Bool.and_eq_true] at ha
        exact ⟨x', y', by apply Array.toList_inj.1; simpa using hl, ha.1, ha.2⟩
theorem out_cpy {d : Option Nat} {τ : FT} {x y : Arg} (h : HR c ρ [] [] st w) (hev : Ev ρ st a) (hi : inOk P N o (.cpy d τ x y) = true) (hk : insK E (.cpy d τ x y) st k) : Out P N o a c ρ st w k := by
  simp only [inOk, Bool.and_eq_true] at hi
  obtain ⟨h1, h2⟩ := hi
  obtain ⟨hd, hn⟩ := ddOk_out h1
  split at h2
  · rename_i cl hop
    simp only [Bool.and_eq_true] at h2
    obtain ⟨⟨hb, ha⟩, ht⟩ := h2
    split at hb
    case h_2 => cases hb
    rename_i hcal
    obtain ⟨x', y', hargs, hax, hay⟩ := two_args ha
    split at ht
    case h_2 => cases ht
    rename_i t tx htl
    have hts : cl.argTypes = #[t, tx] := by
      apply Array.toList_inj.1; simpa using htl
    simp only [Bool.and_eq_true] at ht
    obtain ⟨e, hu, hs⟩ := sz_one ht.1
    obtain ⟨p, hp, hk1⟩ := asC_ev hev hax hk
    obtain ⟨q, hq, hk2⟩ := asC_ev hev hay hk1
    obtain ⟨ys, hk3, ⟨B, cap', vals, hyv, hyc, hyr, hyx⟩⟩ := elems_out h hq hk2
    obtain ⟨nn, b, cap, xs, off, len, l, A, hg, hl, hB, hv, hle, hA0, hA1, hnn, hk4⟩ := asW_out h hp hk3
    obtain ⟨hqf, hk5⟩ := md_out hk4
    have hk6 := setB_out hk5
    have hyl := All2.length hyr
    rw [flats_length] at hyl
    have htk : (flats τ (ys.take len)) = (flats τ ys).take (len * τ.sz) := by
      have := win_flats τ 0 len ys
      simpa [win] using this
    have hz : CellsR none0 (flats τ (ys.take len)) (vals.take (len * τ.sz)) := by rw [htk]; exact All2.take _ hyr
    have hzl : (ys.take len).length = min ys.length len := by rw [List.length_take, Nat.min_comm]
    have hfit : off + (ys.take len).length ≤ xs.length := by rw [hzl]; omega
    obtain ⟨g1, g2, g3⟩ := over_out h hg hl hB hfit hz hqf
    have hmin : (vals.take (len * τ.sz)).length = min ys.length len * τ.sz := by
      rw [← All2.length hz, flats_length, hzl]
    have hrun : (Builtin.copy_ #[t, tx] o.type #[a.eval x', a.eval y']).run P w = .ok (goInt ((min ys.length len : Nat) : Int)) (w.setCells l.blk (l.off + off * τ.sz) (vals.take (len * τ.sz))) := by
      have hload : (Builtin.firstCells τ.sz (min ys.length len) (.slice B ys.length cap')).run P w = .ok (vals.take (len * τ.sz)).toArray w := by
        cases B with
        | none =>
          have h0 : ¬ 0 < ys.length := fun hp => by obtain ⟨_, _, e, _⟩ := hyx hp; cases e
          have : vals.take (len * τ.sz) = [] := List.eq_nil_of_length_eq_zero (by rw [hmin]; simp [show ys.length = 0 by omega])
          rw [this]; exact run_firstCells_none w _ _ _ _
        | some aa =>
          refine run_firstCells_some w τ.sz (min ys.length len) aa ys.length cap' _ hmin (fun j u hj => ?_)
          have hp : 0 < ys.length := by
            have := (List.getElem?_eq_some_iff.1 hj).1
            rw [hmin] at this
            rcases Nat.eq_zero_or_pos ys.length with e | e
            · rw [e] at this; simp at this
            · exact e
          obtain ⟨b', o', e, hra⟩ := hyx hp
          cases e
          rw [Addr.add_mid]
          rw [List.getElem?_take] at hj
          split at hj
          · exact hra j u hj
          · cases hj
      rw [hyv, hv]
      cases A with
      | none =>
        have h0 := hA0 rfl
        have hb2 : l.len = xs.length ∧ l.len ≤ l.cap := ⟨hB.1, hB.2.1⟩
        have hnil : vals.take (len * τ.sz) = [] := List.eq_nil_of_length_eq_zero (by rw [hmin, show len = 0 by omega]; simp)
        simp only [Builtin.copy_, Sem.run_bind, List.getElem?_toArray, List.getElem?_cons_zero, List.getElem?_cons_succ, run_underlying hu, Result.andThen_ok, Builtin.lenOf, Sem.run_pure, hs, hload]
        rw [hnil]; rfl
      | some aa =>
        by_cases hc0 : 0 < l.cap - off
        · cases hA1 hc0
          have hst := store_over (P := P) (w := w) (b := l.blk) (o := l.off + off * τ.sz) (vs := vals.take (len * τ.sz)) (CellsR.one hz) g1
          simp only [Builtin.copy_, Sem.run_bind, List.getElem?_toArray, List.getElem?_cons_zero, List.getElem?_cons_succ, run_underlying hu, Result.andThen_ok, Builtin.lenOf, Sem.run_pure, hs, hload, hst]
        · have hb2 : l.len = xs.length ∧ l.len ≤ l.cap := ⟨hB.1, hB.2.1⟩
          have hnil : vals.take (len * τ.sz) = [] := List.eq_nil_of_length_eq_zero (by rw [hmin, show len = 0 by omega]; simp)
          simp only [Builtin.copy_, Sem.run_bind, List.getElem?_toArray, List.getElem?_cons_zero, List.getElem?_cons_succ, run_underlying hu, Result.andThen_ok, Builtin.lenOf, Sem.run_pure, hs, hload]
          rw [hnil]; rfl
    exact ⟨fun e he => hn e (by rw [← hd]; exact he), .inl ⟨goInt ((min ys.length len : Nat) : Int), _, by simp only [execOp, hop, resolve, hcal, hargs, hts, invoke, builtin, Sem.run_bind, Sem.run_pure, Result.andThen_ok, List.map_toArray, List.map_cons, List.map_nil, hrun], ρ, _, .v (.c (.int .i64 ((min ys.length len : Nat) : Int))), g2, Map.le_refl ρ, ⟨rfl, rfl, rfl⟩, rfl, by rw [hd]; exact hk6, g3⟩⟩
  · cases h2
theorem one_arg {cl : Go.Call} {x : Arg} (ha : argsOk [x] cl.args.toList = true) : ∃ x', cl.args = #[x'] ∧ argOk x x' = true := by
  cases hl : cl.args.toList with
  | nil => rw [hl] at ha; cases ha
  | cons x' l =>
    cases l with
    | cons _ _ => rw [hl] at ha; simp [argsOk] at ha
    | nil =>
      rw [hl] at ha
      simp only [argsOk, Bool.and_true] at ha
      exact ⟨x', by apply Array.toList_inj.1; simpa using hl, ha⟩
theorem zero_rep {τ : FT} {z : Array Value} (hr : CellsR none0 (τ.flat τ.zero) z.toList) (n : Nat) : CellsR none0 (flats τ (List.replicate n τ.zero)) (Builtin.zeroCells z n).toList := by
  have hz : z.size = τ.sz := by have := All2.length hr; rw [flat_length] at this; simpa using this.symm
  have := flats_zero hr n
  unfold madeCells at this
  unfold Builtin.zeroCells
  rw [show n * z.size = n * τ.sz by rw [hz]]
  exact this
theorem out_clr {τ : FT} {x : Arg} (h : HR c ρ [] [] st w) (hev : Ev ρ st a) (hi : inOk P N o (.clr τ x) = true) (hk : insK E (.clr τ x) st k) : Out P N o a c ρ st w k := by
  simp only [inOk, Bool.and_eq_true] at hi
  obtain ⟨h1, h2⟩ := hi
  obtain ⟨hd, hn⟩ := ddOk_out h1
  split at h2
  · rename_i cl hop
    simp only [Bool.and_eq_true] at h2
    obtain ⟨⟨hb, ha⟩, ht⟩ := h2
    split at hb
    case h_2 => cases hb
    rename_i hcal
    obtain ⟨x', hargs, hax⟩ := one_arg ha
    split at ht
    case h_2 => cases ht
    rename_i t htl
    have hts : cl.argTypes = #[t] := by
      apply Array.toList_inj.1; simpa using htl
    simp only [Bool.and_eq_true] at ht
    obtain ⟨e, hu, hs⟩ := sz_one ht.1
    obtain ⟨_, ht2⟩ := ht
    rw [hu] at ht2
    obtain ⟨zv, hzv, _, hzr⟩ := zeroOk_out ht2
    obtain ⟨p, hp, hk3⟩ := asC_ev hev hax hk
    obtain ⟨nn, b, cap, xs, off, len, l, A, hg, hl, hB, hv, hle, hA0, hA1, hnn, hk4⟩ := asW_out h hp hk3
    obtain ⟨hqf, hk5⟩ := md_out hk4
    have hk6 := setB_out hk5
    have hz := zero_rep hzr len
    obtain ⟨g1, g2, g3⟩ := over_out h hg hl hB (p := off) (zs := List.replicate len τ.zero) (by simpa using hle) hz hqf
    have hzl : (Builtin.zeroCells zv.cells len).toList.length = len * τ.sz := by rw [← All2.length hz, flats_length]; simp
    have hrun : (Builtin.clear_ #[t] o.type #[a.eval x']).run P w = .ok (.tuple #[]) (w.setCells l.blk (l.off + off * τ.sz) (Builtin.zeroCells zv.cells len).toList) := by
      rw [hv]
      rcases Nat.eq_zero_or_pos len with e0 | hpos
      · subst e0
        have hnil : (Builtin.zeroCells zv.cells 0).toList = [] := List.eq_nil_of_length_eq_zero (by rw [hzl]; simp)
        rw [hnil]
        cases A <;> simp [Builtin.clear_, run_underlying hu, World.setCells]
      · have hc0 : 0 < l.cap - off := by have := hB.1; have := hB.2.1; omega
        cases hA1 hc0
        have hst := store_over (P := P) (w := w) (b := l.blk) (o := l.off + off * τ.sz) (vs := (Builtin.zeroCells zv.cells len).toList) (CellsR.one hz) g1
        obtain ⟨m, rfl⟩ : ∃ m, len = m + 1 := ⟨len - 1, by omega⟩
        simp [Builtin.clear_, run_underlying hu, hzv w, hst]
    exact ⟨fun e he => hn e (by rw [← hd]; exact he),   .inl ⟨.tuple #[], _, by simp only [execOp, hop, resolve, hcal, hargs, hts, invoke, builtin, Sem.run_bind, Sem.run_pure, Result.andThen_ok, List.map_toArray, List.map_cons, List.map_nil, hrun], ρ, _, .unk, g2, Map.le_refl ρ, ⟨rfl, rfl, rfl⟩, trivial, by rw [hd]; exact hk6, g3⟩⟩
  · cases h2
theorem out_appi {d : Nat} {τ : FT} {x y : Arg} (h : HR c ρ [] [] st w) (hev : Ev ρ st a) (hi : inOk P N o (.appi d τ x y) = true) (hk : insK E (.appi d τ x y) st k) : Out P N o a c ρ st w k := by
  simp only [inOk, Bool.and_eq_true] at hi
  obtain ⟨h1, h2⟩ := hi
  obtain ⟨hd, hn⟩ := dOk_out h1
  split at h2
  · rename_i cl hop
    simp only [Bool.and_eq_true] at h2
    obtain ⟨⟨hb, ha⟩, ht⟩ := h2
    split at hb
    case h_2 => cases hb
    rename_i hcal
    obtain ⟨x', y', hargs, hax, hay⟩ := two_args ha
    split at ht
    case h_2 => cases ht
    rename_i t tx htl
    have hts : cl.argTypes = #[t, tx] := by
      apply Array.toList_inj.1; simpa using htl
    simp only [Bool.and_eq_true] at ht
    obtain ⟨e, inf, hu, hinf, hsz⟩ := slOk_out ht.1
    obtain ⟨e', inf', hu', _, _⟩ := slOk_out ht.2
    obtain ⟨p, hp, hk1⟩ := asC_ev hev hax hk
    obtain ⟨q, hq, hk2⟩ := asC_ev hev hay hk1
    obtain ⟨ys, hk3, hrow⟩ := elems_out h hq hk2
    obtain ⟨nn, b, cap, xs, off, len, l, A, hg, hl, hB, hv, hle, hA0, hA1, hnn, hk4⟩ := asW_out h hp hk3
    obtain ⟨hfit, hk5⟩ := chk_o hk4
    obtain ⟨hqf, hk6⟩ := md_out hk5
    have hk7 := setB_out hk6
    have hb1 := hB.1
    have hb2 := hB.2.1
    obtain ⟨news, hsrc, hcn⟩ := src_of hu' hrow
    rw [← hsz] at hsrc
    obtain ⟨g1, g2, g3⟩ := over_out h hg hl hB (p := off + len) hfit hcn hqf
    have hroom : len + ys.length ≤ l.cap - off := by omega
    have hlay : (over xs (off + len) ys).length = xs.length := by simp [over]; omega
    have hrun : (Builtin.append_ #[t, tx] o.type #[a.eval x', a.eval y']).run P w = .ok (.slice A (len + ys.length) (l.cap - off)) (w.setCells l.blk (l.off + (off + len) * τ.sz) news) := by
      rw [hv]
      by_cases hy0 : ys = []
      · subst hy0
        have hn0 : news = [] := List.eq_nil_of_length_eq_zero (by have := All2.length hcn; rw [flats_length] at this; simpa using this.symm)
        subst hn0
        exact run_append_nothing (P := P) w t tx o.type e inf hu hinf A len (l.cap - off) (by omega) _ hsrc
      · have hpos : 0 < ys.length := List.length_pos_iff.2 hy0
        cases hA1 (by omega)
        have g1' : w.there l.blk (l.off + off * τ.sz + len * τ.sz) news.length := by rw [Nat.add_assoc, ← Nat.add_mul]; exact g1
        have := run_append_room_src (P := P) w t tx o.type e inf hu hinf l.blk (l.off + off * τ.sz) len (l.cap - off) (a.eval y') ys.length news hsrc hroom (fun j hj => by rw [hsz]; exact (g1' j hj).1) (fun j hj => by rw [hsz]; exact (g1' j hj).2)
        rw [hsz, Nat.add_assoc l.off, ← Nat.add_mul] at this
        exact this
    exact ⟨fun e he => by rw [hd] at he; cases he; exact hn, .inl ⟨_, _, by simp [execOp, hop, resolve, hcal, hargs, hts, invoke, builtin, hrun], ρ, _, .v (.c (.slp nn τ b off (len + ys.length))), g2, Map.le_refl ρ, ⟨rfl, rfl, rfl⟩,
      ⟨l, A, hl, rfl, by omega, hb2, hA0, hA1, hnn⟩, by rw [hd]; exact hk7, g3⟩⟩
  · cases h2
theorem cut_run {t e : TypeId} {A : Option Addr} {len cap m q s : Nat} {kl kh : IntKind} (hu : P.underlying t = some (.slice e)) (hs : ∀ w, (sizeOf e).run P w = .ok s w) (h1 : m ≤ q) (h2 : q ≤ cap) (w : World) :
    (Instr.sliceAt t (.slice A len cap) (some (.int kl (m : Int))) (some (.int kh (q : Int))) none).run P w = .ok (.slice (if cap = m then A else A.map (·.add (m * s))) (q - m) (cap - m)) w := by
  have sb : ∀ (kk : IntKind) (n y : Nat) (code : BoundsCode), n ≤ y → (Instr.sliceBound (.int kk (n : Int)) y code).run P w = .ok n w := fun kk n y code hy => by
    simp [Instr.sliceBound, asIntOf, hy]
  simp [Instr.sliceAt, Instr.slice, run_underlying hu, hs w, Instr.sliceBounds, sb kh q cap _ h2, sb kl m q _ h1]
theorem out_slcb {d : Nat} {τ : FT} {x lo hi : Arg} (h : HR c ρ [] [] st w) (hev : Ev ρ st a) (hi' : inOk P N o (.slcb d τ x lo hi) = true) (hk : insK E (.slcb d τ x lo hi) st k) : Out P N o a c ρ st w k := by
  simp only [inOk, Bool.and_eq_true] at hi'
  obtain ⟨h1, h2⟩ := hi'
  obtain ⟨hd, hn⟩ := dOk_out h1
  split at h2
  · rename_i t y lo' hi2 mx hop
    simp only [Bool.and_eq_true] at h2
    obtain ⟨⟨⟨⟨hx, hlo⟩, hhi⟩, hmx⟩, ht⟩ := h2
    cases mx with
    | some _ => cases hmx
    | none =>
    cases lo' with
    | none => cases hlo
    | some lo' =>
    cases hi2 with
    | none => cases hhi
    | some hi2 =>
    obtain ⟨e, hu, hs⟩ := sz_one ht
    obtain ⟨p, hp, hk1⟩ := asC_ev hev hx hk
    obtain ⟨z1, hz1, hk2⟩ := asC_ev hev hlo hk1
    obtain ⟨z2, hz2, hk3⟩ := asC_ev hev hhi hk2
    split at hk3
    case h_2 => exact hk3.elim
    rename_i kl n
    split at hk3
    case h_2 => exact hk3.elim
    rename_i kh q
    have hlv : a.eval lo' = .int kl n := hz1
    have hhv : a.eval hi2 = .int kh q := hz2
    obtain ⟨nn, b, cap, xs, off, len, l, A, hg, hl, hB, hv, hle, hA0, hA1, hnn, hk4⟩ := asW_out h hp hk3
    obtain ⟨⟨c1, c2, c3⟩, hk5⟩ := chk_o hk4
    have hb1 := hB.1
    have hb2 := hB.2.1
    obtain ⟨m, rfl⟩ : ∃ m : Nat, n = m := ⟨n.toNat, by omega⟩
    obtain ⟨q, rfl⟩ : ∃ j : Nat, q = j := ⟨q.toNat, by omega⟩
    have hrun := cut_run (P := P) (A := A) (len := len) (cap := l.cap - off) (m := m) (q := q) (kl := kl) (kh := kh) hu hs (by omega) (by omega) w
    refine ⟨fun e he => by rw [hd] at he; cases he; exact hn, .inl ⟨.slice (if l.cap - off = m then A else A.map (·.add (m * τ.sz))) (q - m) (l.cap - off - m), w, by simp [execOp, hop, hv, hlv, hhv, hrun], ρ, st, .v (.c (.slp nn τ b (off + (m : Int).toNat) ((q : Int) - m).toNat)), h, Map.le_refl ρ, Same.refl st, ?_, by rw [hd]; exact hk5, fun _ _ _ => rfl⟩⟩
    have e1 : ((q : Int) - m).toNat = q - m := by omega
    have e2 : (m : Int).toNat = m := by omega
    rw [e1, e2]
    refine ⟨l, if l.cap - off = m then A else A.map (·.add (m * τ.sz)), hl, by rw [Nat.sub_sub], by omega, hb2, fun e => ?_, fun hpos => ?_, fun e1 e2 => ?_⟩
    · split at e
      · have := hA0 e; omega
      · rw [Option.map_eq_none_iff] at e; have := hA0 e; omega
    · rw [if_neg (by omega), hA1 (by omega)]
      simp only [Option.map_some, Addr.add_mid]
      rw [Nat.add_mul, Nat.add_assoc]
    · split at e2
      · exact hnn e1 e2
      · rw [Option.map_eq_none_iff] at e2; exact hnn e1 e2
  · cases h2
theorem cut3_run {t e : TypeId} {A : Option Addr} {len cap m q z s : Nat} {kl kh km : IntKind} (lo : Option Value) (hlo : lo = none ∧ m = 0 ∨ lo = some (.int kl (m : Int))) (hu : P.underlying t = some (.slice e)) (hs : ∀ w, (sizeOf e).run P w = .ok s w) (h1 : m ≤ q) (h2 : q ≤ z) (h3 : z ≤ cap) (w : World) :
    (Instr.sliceAt t (.slice A len cap) lo (some (.int kh (q : Int))) (some (.int km (z : Int)))).run P w = .ok (.slice (if z = m then A else A.map (·.add (m * s))) (q - m) (z - m)) w := by
  have sb : ∀ (kk : IntKind) (n y : Nat) (code : BoundsCode), n ≤ y → (Instr.sliceBound (.int kk (n : Int)) y code).run P w = .ok n w := fun kk n y code hy => by
    simp [Instr.sliceBound, asIntOf, hy]
  rcases hlo with ⟨rfl, rfl⟩ | rfl
  · simp [Instr.sliceAt, Instr.slice, run_underlying hu, hs w, Instr.sliceBounds, sb km z cap _ h3, sb kh q z _ h2]
  · simp [Instr.sliceAt, Instr.slice, run_underlying hu, hs w, Instr.sliceBounds, sb km z cap _ h3, sb kh q z _ h2, sb kl m q _ h1]
theorem out_slcu {d : Nat} {τ : FT} {x lo hi mx : Arg} (h : HR c ρ [] [] st w) (hev : Ev ρ st a) (hi' : inOk P N o (.slcu d τ x lo hi mx) = true) (hk : insK E (.slcu d τ x lo hi mx) st k) : Out P N o a c ρ st w k := by
  simp only [inOk, Bool.and_eq_true] at hi'
  obtain ⟨h1, h2⟩ := hi'
  obtain ⟨hd, hn⟩ := dOk_out h1
  split at h2
  · rename_i t y lo' hi2 mx' hop
    simp only [Bool.and_eq_true] at h2
    obtain ⟨⟨⟨⟨hx, hlo⟩, hhi⟩, hmx⟩, ht⟩ := h2
    cases mx' with
    | none => cases hmx
    | some mx' =>
    cases lo' with
    | none => cases hlo
    | some lo' =>
    cases hi2 with
    | none => cases hhi
    | some hi2 =>
    obtain ⟨e, hu, hs⟩ := sz_one ht
    obtain ⟨p, hp, hk1⟩ := asC_ev hev hx hk
    obtain ⟨z1, hz1, hk2⟩ := asC_ev hev hlo hk1
    obtain ⟨z2, hz2, hk3a⟩ := asC_ev hev hhi hk2
    obtain ⟨z3, hz3, hk3⟩ := asC_ev hev hmx hk3a
    clear hk3a hk2 hk1
    split at hk3
    case h_2 => exact hk3.elim
    rename_i kl n
    split at hk3
    case h_2 => exact hk3.elim
    rename_i kh q
    split at hk3
    case h_2 => exact hk3.elim
    rename_i km z
    have hlv : a.eval lo' = .int kl n := hz1
    have hhv : a.eval hi2 = .int kh q := hz2
    have hmv : a.eval mx' = .int km z := hz3
    obtain ⟨nn, b, cap, xs, off, len, l, A, hg, hl, hB, hv, hle, hA0, hA1, hnn, hk4⟩ := asW_out h hp hk3
    obtain ⟨⟨c1, c2, c3, c4⟩, hk5⟩ := chk_o hk4
    have hb1 := hB.1
    have hb2 := hB.2.1
    obtain ⟨m, rfl⟩ : ∃ m : Nat, n = m := ⟨n.toNat, by omega⟩
    obtain ⟨q, rfl⟩ : ∃ j : Nat, q = j := ⟨q.toNat, by omega⟩
    obtain ⟨z, rfl⟩ : ∃ j : Nat, z = j := ⟨z.toNat, by omega⟩
    have hrun := cut3_run (P := P) (A := A) (len := len) (cap := l.cap - off) (m := m) (q := q) (z := z) (kl := kl) (kh := kh) (km := km) _ (.inr rfl) hu hs (by omega) (by omega) (by omega) w
    exact ⟨fun e he => by rw [hd] at he; cases he; exact hn, .inl ⟨.slice (if z = m then A else A.map (·.add (m * τ.sz))) (q - m) (z - m), w, by simp [execOp, hop, hv, hlv, hhv, hmv, hrun], ρ, st, .unk, h, Map.le_refl ρ, Same.refl st, trivial, by rw [hd]; exact hk5, fun _ _ _ => rfl⟩⟩
  · cases h2
theorem out_slc3 {d : Nat} {τ : FT} {x hi mx : Arg} (h : HR c ρ [] [] st w) (hev : Ev ρ st a) (hi' : inOk P N o (.slc3 d τ x hi mx) = true) (hk : insK E (.slc3 d τ x hi mx) st k) : Out P N o a c ρ st w k := by
  simp only [inOk, Bool.and_eq_true] at hi'
  obtain ⟨h1, h2⟩ := hi'
  obtain ⟨hd, hn⟩ := dOk_out h1
  split at h2
  · rename_i t y lo' hi2 mx' hop
    simp only [Bool.and_eq_true] at h2
    obtain ⟨⟨⟨⟨hx, hlo⟩, hhi⟩, hmx⟩, ht⟩ := h2
    cases mx' with
    | none => cases hmx
    | some mx' =>
    cases lo' with
    | some _ => cases hlo
    | none =>
    cases hi2 with
    | none => cases hhi
    | some hi2 =>
    obtain ⟨e, hu, hs⟩ := sz_one ht
    obtain ⟨p, hp, hk1⟩ := asC_ev hev hx hk
    obtain ⟨z2, hz2, hk3a⟩ := asC_ev hev hhi hk1
    obtain ⟨z3, hz3, hk3⟩ := asC_ev hev hmx hk3a
    clear hk3a hk1
    split at hk3
    case h_2 => exact hk3.elim
    rename_i kh q
    split at hk3
    case h_2 => exact hk3.elim
    rename_i km z
    have hhv : a.eval hi2 = .int kh q := hz2
    have hmv : a.eval mx' = .int km z := hz3
    obtain ⟨nn, b, cap, xs, off, len, l, A, hg, hl, hB, hv, hle, hA0, hA1, hnn, hk4⟩ := asW_out h hp hk3
    obtain ⟨⟨rfl, c2, rfl, rfl⟩, hk5⟩ := chk_o hk4
    obtain ⟨hqf, hk6⟩ := md_out hk5
    have hk7 := setB_out hk6
    obtain ⟨i, nx, hnx, hk8⟩ := new_out hk7
    obtain ⟨b1, b2, b3, ⟨vals, hra, hr⟩, b5⟩ := hB
    have hrun := cut3_run (P := P) (A := A) (len := len) (cap := l.cap - 0) (m := 0) (q := len) (z := len) (kl := .i64) (kh := kh) (km := km) none (.inl ⟨rfl, rfl⟩) hu hs (by omega) (by omega) (by omega) w
    have hrel : HR c ρ ((Blk.flat true τ cap xs).foot l ++ []) [] ⟨st.tm, (b, none) :: st.hp, st.nx, st.ar, st.q, st.fr⟩ w := h.release hg hl (fun x => hget_cons rfl x) rfl rfl rfl hqf
    have hrel2 : HR c ρ ((Blk.flat true τ none xs).foot ⟨l.blk, l.off, len, len, []⟩ ++ []) [] ⟨st.tm, (b, none) :: st.hp, st.nx, st.ar, st.q, st.fr⟩ w := by
      by_cases h0 : 0 < len
      · have e1 : (Blk.flat true τ none xs).foot ⟨l.blk, l.off, len, len, []⟩ = (Blk.flat true τ cap xs).foot l := by
          simp [Blk.foot, h0]; omega
        rw [e1]; exact hrel
      · have e1 : (Blk.flat true τ none xs).foot ⟨l.blk, l.off, len, len, []⟩ = [] := by simp [Blk.foot, h0]
        rw [e1]; exact hrel.less
    obtain ⟨g1, g2⟩ := HR.made (B := .flat true τ none xs) (Z := []) (l := ⟨l.blk, l.off, len, len, []⟩) hnx hrel2 ⟨by simpa using c2, Nat.le_refl _, (fun _ e => by cases e), ⟨vals, hra, hr⟩, fun e => by
      obtain ⟨t1, t2⟩ := b5 e
      have hm : len * τ.sz ≤ l.cap * τ.sz := Nat.mul_le_mul_right _ (by omega)
      exact ⟨fun j hj => t1 j (by dsimp only at hj; omega), fun hp => (t2 (by dsimp only at hp; omega)).le (by dsimp only; omega)⟩⟩ (fun x hx => by simp [Blk.shw] at hx)
    refine ⟨fun e he => by rw [hd] at he; cases he; exact hn, .inl ⟨.slice (if len = 0 then A else A.map (·.add (0 * τ.sz))) (len - 0) (len - 0), w, by
      simp only [execOp, hop, hv, hhv, hmv, Option.map_some, Option.map_none, Sem.run_bind, hrun, Result.andThen_ok, Sem.run_pure], _, _, .v (.c (.sl nn τ i)), g1, g2, ⟨rfl, rfl, rfl⟩, ?_, by rw [hd]; exact hk8, fun _ _ _ => rfl⟩⟩
    refine ⟨⟨l.blk, l.off, len, len, []⟩, if len = 0 then A else A.map (·.add (0 * τ.sz)), Map.add_same _ _ _, rfl, Nat.le_refl _, fun e => ?_, fun hpos => ?_, fun e1 e2 => ?_⟩
    · split at e
      · assumption
      · rw [Option.map_eq_none_iff] at e; have := hA0 e; dsimp only; omega
    · dsimp only at hpos ⊢
      rw [if_neg (by omega), hA1 (by omega)]
      simp [Addr.add_mid]
    · split at e2
      · exact hnn e1 e2
      · rw [Option.map_eq_none_iff] at e2; exact hnn e1 e2
  · cases h2

theorem ins_out {i : In} (hE : EnvOk P E) (h : HR c ρ [] [] st w) (hev : Ev ρ st a) (hi : inOk P N o i = true) (hk : insK E i st k) : Out P N o a c ρ st w k := by
  cases hp : pureI i with
  | true => exact (pure_out h hev hi hp hk).out h
  | false =>
    cases i with
    | alloc d z => exact out_alloc h hi hk
    | box d x => exact out_box h hev hi hk
    | bs d τ xs => exact out_bs h hev hi hk
    | bsr d xs => exact out_bsr h hev hi hk
    | no => exact hk.elim
    | load d agg sz x => exact out_load h hev hi hk
    | store sz p x => exact out_store h hev hi hk
    | mkS d τ n => exact out_mkS h hev hi hk
    | call d f xs => exact out_call hE h hev hi hk
    | callv d f xs => exact out_callv hE h hev hi hk
    | app d τ x y => exact out_app h hev hi hk
    | s2b d x => exact out_s2b h hev hi hk
    | b2s d x => exact out_b2s h hev hi hk
    | stri d x => exact out_stri h hev hi hk
    | cap d x => exact out_cap h hev hi hk
    | appz d τ x n => exact out_appz h hev hi hk
    | slcz d τ x n => exact out_slcz h hev hi hk
    | bsw d τ => exact out_bsw h hi hk
    | appw d τ x y => exact out_appw h hev hi hk
    | cpy d τ x y => exact out_cpy h hev hi hk
    | clr τ x => exact out_clr h hev hi hk
    | appi d τ x y => exact out_appi h hev hi hk
    | slcb d τ x lo hi' => exact out_slcb h hev hi hk
    | slcu d τ x lo hi' mx => exact out_slcu h hev hi hk
    | slc3 d τ x hi' mx => exact out_slc3 h hev hi hk
    | _ => cases hp
end
end Go.Pi
