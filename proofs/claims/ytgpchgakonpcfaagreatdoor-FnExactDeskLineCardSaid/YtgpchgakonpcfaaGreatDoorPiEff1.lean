/- Instructions that read or write memory: loads, stores, variables made. No conditions. -/
import Derived.Test.YtgpchgakonpcfaaGreatDoorPiEq
import Derived.Deep.OwnRows
namespace Go.Pi
set_option linter.unusedVariables false
set_option linter.unusedSimpArgs false
set_option linter.constructorNameAsVariable false

theorem setCells_all (b : Nat) : ∀ (vs : List Value) (o : Nat) (w : World), (w.setCells b o vs).os = w.os ∧ (w.setCells b o vs).tape = w.tape ∧ (w.setCells b o vs).output = w.output ∧
    (w.setCells b o vs).heap.size = w.heap.size ∧ ∀ k, k ≠ b → (w.setCells b o vs).heap[k]? = w.heap[k]?
  | [], _, _ => ⟨rfl, rfl, rfl, rfl, fun _ _ => rfl⟩
  | v :: vs, o, w => by
    obtain ⟨h1, h2, h3, h4, h5⟩ := setCells_all b vs (o + 1) (w.setCell ⟨b, o, none⟩ v)
    rw [World.setCells]
    refine ⟨h1, h2, h3, by rw [h4]; simp, fun k hk => ?_⟩
    rw [h5 k hk]
    simp only [World.setCell, Array.getElem?_modify]
    rw [if_neg (Ne.symm hk)]

theorem rangeAt_set {w : World} {b o cc : Nat} {us vals : List Value} (h : w.rangeAt b o us) (hle : cc + vals.length ≤ us.length) (ht : w.there b (o + cc) vals.length) :
    (w.setCells b (o + cc) vals).rangeAt b o (us.take cc ++ vals ++ us.drop (cc + vals.length)) := fun j v hj => by
  by_cases h1 : j < cc
  · rw [World.cell?_setCells_out _ _ _ _ _ (fun _ _ => .inl (by simp; omega))]
    refine h j v ?_
    rw [List.append_assoc, List.getElem?_append_left (by simp; omega), List.getElem?_take, if_pos h1] at hj
    exact hj
  · by_cases h2 : j < cc + vals.length
    · have := World.cell?_setCells_in b vals (o + cc) w (fun i hi => (ht i hi).1) (j - cc) (by omega)
      rw [show o + cc + (j - cc) = o + j by omega] at this
      rw [this]
      rw [List.getElem?_append_left (by simp; omega), List.getElem?_append_right (by simp; omega)] at hj
      simp only [List.length_take] at hj
      rw [show min cc us.length = cc by omega, List.getElem?_eq_getElem (by omega)] at hj
      exact hj
    · rw [World.cell?_setCells_out _ _ _ _ _ (fun _ _ => .inr (by simp; omega))]
      refine h j v ?_
      rw [List.getElem?_append_right (by simp; omega)] at hj
      simp only [List.length_append, List.length_take, List.getElem?_drop] at hj
      rw [show cc + vals.length + (j - (min cc us.length + vals.length)) = j by omega] at hj
      exact hj

theorem flats_at (τ : FT) (xs : List τ.Ty) (i : Nat) (hi : i < xs.length) : ((flats τ xs).drop (i * τ.sz)).take τ.sz = τ.flat (xs.getD i τ.zero) := by
  have := win_flats τ i 1 xs
  rw [Nat.one_mul] at this
  rw [← this]
  have hw : win xs i 1 = [xs[i]] := by unfold win; rw [List.drop_eq_getElem_cons hi]; rfl
  rw [hw]
  simp [flats, List.getD_eq_getElem?_getD, hi]

section
variable {P : Program} {N : Nat} {o : Oper} {a : Act} {E : List Fun} {c : Ctx P} {ρ : Map} {Z Y : List Nat} {st : St} {w : World} {k : St → Prop}

def Did {P : Program} (c : Ctx P) (ρ : Map) (st : St) (w : World) (d : Option Nat) (k : St → Prop) (v : Value) (w' : World) : Prop :=
  ∃ ρ' st' x, HR c ρ' [] [] st' w' ∧ ρ.le ρ' ∧ Same st st' ∧ TVR ρ' x v ∧ putD st' d x k ∧ (st.q = true → ∀ n, c.qs n → w'.heap[n]? = w.heap[n]?)
def Out (P : Program) (N : Nat) (o : Oper) (a : Act) (c : Ctx P) (ρ : Map) (st : St) (w : World) (k : St → Prop) : Prop :=
  (∀ e, o.dst = some e → e < N) ∧
  ((∃ v w', (execOp a.eval o).run P w = .ok (.value v) w' ∧ Did c ρ st w o.dst k v w') ∨
   (∃ w', (execOp a.eval o).run P w = .ok .skip w' ∧ o.dst = none ∧ Did c ρ st w none k undef w') ∨
   (∃ f args, (execOp a.eval o).run P w = .ok (.enter f args) w ∧ Calls P f args w fun e w' => ∃ v, e = .returned v ∧ Did c ρ st w o.dst k v w'))
theorem Yld.out (h : HR c ρ [] [] st w) (y : Yld P N o a ρ st k) : Out P N o a c ρ st w k := by
  obtain ⟨d, v, x, hd, hn, hx, hk, hr⟩ := y
  exact ⟨fun e he => by rw [hd] at he; cases he; exact hn, .inl ⟨v, w, hr w, ρ, st, x, h, Map.le_refl ρ, Same.refl st, hx, by rw [hd]; exact hk, fun _ _ _ => rfl⟩⟩

theorem run_loadVar_cells (w : World) (b o : Nat) (t : TypeId) (agg : Bool) (us : List Value) (h : w.rangeAt b o us) (hs : szOk P t us.length = true) (ha : aggOk P t agg = true) (h1 : agg = false → us.length = 1) :
    ∃ v, (loadVar t ⟨b, o, none⟩).run P w = .ok v w ∧ (agg = true → v = .agg us.toArray) ∧ (agg = false → us = [v]) := by
  obtain ⟨i, hi, hsz⟩ := szOk_out hs
  cases agg with
  | true =>
    have hl : (loadCells ⟨b, o, none⟩ us.length).run P w = .ok us.toArray w :=
      run_loadCells_list (P := P) w ⟨b, o, none⟩ us (fun j v hv => by rw [Addr.add_mid]; exact h j v hv)
    exact ⟨.agg us.toArray, by simp [loadVar, aggOk_out ha w, sizeOf, run_typeInfo w hi, hsz, hl], fun _ => rfl, fun e => by cases e⟩
  | false =>
    cases us with
    | nil => exact absurd (h1 rfl) (by simp)
    | cons u us =>
      cases us with
      | cons _ _ => exact absurd (h1 rfl) (by simp)
      | nil =>
        have := h 0 u rfl
        exact ⟨u, by simp only [Nat.add_zero] at this; simp [loadVar, aggOk_out ha w, this], (fun e => by cases e), fun _ => rfl⟩

def ptrOf : Cell → Option Nat
  | .ptr b _ => some b | .eptr _ b _ _ => some b | .rel _ b _ _ _ => some b | _ => none
def Kept (st : St) (ρ : Map) (p : Cell) (w w' : World) : Prop := ∀ b B l, ptrOf p = some b → st.hget b = some B → ρ b = some l → ∀ x, (x ∈ B.foot l ∨ x ∈ B.shw l) → w'.heap[x]? = w.heap[x]?
theorem Kept.refl (st : St) (ρ : Map) (p : Cell) (w : World) : Kept st ρ p w w := fun _ _ _ _ _ _ _ _ => rfl
theorem load_val {agg : Bool} {sz : Nat} {p : Cell} {v : Value} {t : TypeId} {f : V1 → Prop} {ρ' : Map} (h : HR c ρ Z Y st w) (hle : ρ.le ρ') (hp : CellR ρ' p v) (hk : loadK st agg sz p f) (hs : szOk P t sz = true) (ha : aggOk P t agg = true) (h1 : agg = false → sz = 1) :
    ∃ x u, f x ∧ V1R ρ x u ∧ ∀ w' : World, Kept st ρ p w w' → (Instr.loadAt t v).run P w' = .ok u w' := by
  -- from cells that lie in the memory
  have fin : ∀ (b off : Nat) (cs : List Cell), v = .pointer (some ⟨b, off, none⟩) → Lie w ρ b off cs → cs.length = sz → mk1 agg cs f → (∀ w', Kept st ρ p w w' → w'.heap[b]? = w.heap[b]?) →
      ∃ x u, f x ∧ V1R ρ x u ∧ ∀ w' : World, Kept st ρ p w w' → (Instr.loadAt t v).run P w' = .ok u w' := by
    intro b off cs hv hL hlen hm hkp
    obtain ⟨us, hra, hr⟩ := hL
    have hul : us.length = sz := by rw [← All2.length hr, hlen]
    have hra' : ∀ w' : World, Kept st ρ p w w' → w'.rangeAt b off us := fun w' hw => by
      cases hcs : cs with
      | nil => rw [hcs] at hr; cases All2.nil_left hr; intro j v hj; simp at hj
      | cons x r => exact rangeAt_block (hkp w' hw) hra
    have run : ∀ w' : World, Kept st ρ p w w' → ∃ u, (Instr.loadAt t v).run P w' = .ok u w' ∧ (agg = true → u = .agg us.toArray) ∧ (agg = false → us = [u]) := fun w' hw => by
      obtain ⟨u, g1, g2, g3⟩ := run_loadVar_cells (P := P) w' b off t agg us (hra' w' hw) (by rw [hul]; exact hs) ha (fun e => by rw [hul]; exact h1 e)
      exact ⟨u, by simp [hv, Instr.loadAt, Instr.sureAddr, g1], g2, g3⟩
    rcases mk1_out hm with ⟨rfl, hk1⟩ | ⟨rfl, cc, hcc, hk1⟩
    · exact ⟨_, .agg us.toArray, hk1, ⟨us, rfl, hr⟩, fun w' hw => by obtain ⟨u, g1, g2, _⟩ := run w' hw; rw [g1, g2 rfl]⟩
    · obtain ⟨u0, _, _, g3⟩ := run w (Kept.refl _ _ _ _)
      have g3 := g3 rfl
      subst hcc
      rw [g3] at hr
      exact ⟨_, u0, hk1, hr.1, fun w' hw => by
        obtain ⟨u, g1, _, g4⟩ := run w' hw
        have := g4 rfl
        rw [g3] at this
        cases this; exact g1⟩
  unfold loadK at hk
  split at hk
  · rename_i b cc
    split at hk
    · rename_i rw' cs hg
      obtain ⟨l, hl, hB, _⟩ := h.bk b _ hg
      obtain ⟨l', hl', hv⟩ := hp
      have := hle _ _ hl
      rw [hl'] at this
      cases this
      obtain ⟨hle', hk1⟩ := tk_out _ _ _ _ hk
      exact fin _ _ _ hv (hB.sub cc sz) (by simp; omega) hk1 (fun w' hw => hw b _ l rfl hg hl l.blk (by cases rw' <;> simp [Blk.foot, Blk.shw]))
    · exact hk.elim
  · rename_i σ b i cc
    split at hk
    · rename_i rw' τ cap xs hg
      split at hk
      · rename_i hft
        have hft := ftEq_eq hft
        subst hft
        obtain ⟨hi, hk0⟩ := chk_o hk
        rw [fL_iff] at hk0
        obtain ⟨l, hl, hB⟩ := h.bk b _ hg
        obtain ⟨l', hl', hv⟩ := hp
        have := hle _ _ hl
        rw [hl'] at this
        cases this
        obtain ⟨hle', hk1⟩ := tk_out _ _ _ _ hk0
        have hL := hB.2.2.2.1.sub (i * σ.sz) σ.sz
        rw [flats_at σ xs i hi] at hL
        exact fin _ _ _ hv ((hL.mono (none0_le ρ)).sub cc sz) (by rw [List.length_take, List.length_drop]; omega) hk1 (fun w' hw => hw b _ l rfl hg hl l.blk (by
          have e1 := hB.1; have e2 := hB.2.1
          cases rw' with
          | true => left; simp only [Blk.foot]; rw [if_pos (by omega)]; simp
          | false => right; simp only [Blk.shw]; rw [if_pos (by omega)]; simp))
      · exact hk.elim
    · rename_i rw' τ xss hg
      split at hk
      case h_2 => exact hk.elim
      split at hk
      case h_2 => exact hk.elim
      split at hk
      case h_2 => exact hk.elim
      split at hk
      case h_2 => exact hk.elim
      obtain ⟨hi, hk1⟩ := chk_o hk
      obtain ⟨l, hl, hB⟩ := h.bk b _ hg
      obtain ⟨l', hl', hv⟩ := hp
      have := hle _ _ hl
      rw [hl'] at this
      cases this
      obtain ⟨b1, b2, ⟨vs, hra, hvs⟩, b4, b5⟩ := hB
      have hil : i < l.ins.length := by rw [b4.length]; exact hi
      have hq : l.ins[i]? = some l.ins[i] := List.getElem?_eq_getElem hil
      obtain ⟨u, hu, hru⟩ := All2.get hvs hq
      refine fin l.blk (l.off + i * FT.sz .str + 0) [.rsl τ b i] hv ⟨[u], fun j v hj => ?_, ⟨⟨l, _, hl, hq, hru⟩, trivial⟩⟩ rfl hk1 (fun w' hw => hw b _ l rfl hg hl l.blk ?_)
      · cases j with
        | succ j => simp at hj
        | zero =>
          simp only [List.getElem?_cons_zero, Option.some.injEq] at hj
          subst hj
          have := hra i _ hu
          simpa [FT.sz] using this
      · cases rw' with
        | true => left; simp only [Blk.foot, rowsFoot]; exact List.mem_append_left _ (by rw [if_pos (by omega)]; simp)
        | false => right; simp only [Blk.shw, rowsShw]; exact List.mem_append_left _ (by rw [if_pos (by omega)]; simp)
    · exact hk.elim
  · rename_i σ b i j cc
    split at hk
    · rename_i rw' τ xss hg
      split at hk
      · rename_i hft
        have hft := ftEq_eq hft
        subst hft
        obtain ⟨hi, hk0⟩ := chk_o hk
        rw [fL_iff] at hk0
        obtain ⟨l, hl, hB⟩ := h.bk b _ hg
        obtain ⟨l', q, hl', hq, hv⟩ := hp
        have := hle _ _ hl
        rw [hl'] at this
        cases this
        obtain ⟨hle', hk1⟩ := tk_out _ _ _ _ hk0
        obtain ⟨_, c1, c2, c3, c4⟩ := all2_get (z := []) hB.2.2.2.1 hq
        have hL := c3.sub (j * σ.sz) σ.sz
        rw [flats_at σ _ j hi] at hL
        have hmem : q ∈ l.ins := List.mem_of_getElem? hq
        exact fin _ _ _ hv ((hL.mono (none0_le ρ)).sub cc sz) (by rw [List.length_take, List.length_drop]; omega) hk1 (fun w' hw => hw b _ l rfl hg hl q.blk (by
          cases rw' with
          | true => left; simp only [Blk.foot, rowsFoot, rowFeet]; exact List.mem_append_right _ (List.mem_flatMap.2 ⟨q, hmem, by rw [if_pos (by omega)]; simp⟩)
          | false => right; simp only [Blk.shw, rowsShw, rowShws]; exact List.mem_append_right _ (List.mem_flatMap.2 ⟨q, hmem, by rw [if_pos (by omega)]; simp⟩)))
      · exact hk.elim
    · exact hk.elim
  · exact hk.elim

theorem load_chk {d : Nat} {agg : Bool} {sz : Nat} {x : Arg} (hi : inOk P N o (.load d agg sz x) = true) :
    ∃ t y, o.op = .load t y ∧ o.dst = some d ∧ d < N ∧ argOk x y = true ∧ szOk P t sz = true ∧ aggOk P t agg = true ∧ (agg = false → sz = 1) := by
  simp only [inOk, Bool.and_eq_true] at hi
  obtain ⟨h1, h2⟩ := hi
  obtain ⟨hd, hn⟩ := dOk_out h1
  split at h2
  · rename_i t y hop
    simp only [Bool.and_eq_true, Bool.or_eq_true] at h2
    obtain ⟨⟨⟨h3, h4⟩, h5⟩, h6⟩ := h2
    exact ⟨t, y, hop, hd, hn, h3, h4, h5, fun e => by subst e; simpa using h6⟩
  · cases h2

theorem out_load {d : Nat} {agg : Bool} {sz : Nat} {x : Arg} (h : HR c ρ [] [] st w) (hev : Ev ρ st a) (hi : inOk P N o (.load d agg sz x) = true) (hk : insK E (.load d agg sz x) st k) : Out P N o a c ρ st w k := by
  obtain ⟨t, y, hop, hd, hn, h3, h4, h5, h6⟩ := load_chk hi
  obtain ⟨p, hp, hk1⟩ := asC_ev hev h3 hk
  obtain ⟨z, u, g1, g2, g3⟩ := load_val h (Map.le_refl ρ) hp hk1 h4 h5 h6
  exact ⟨fun e he => by rw [hd] at he; cases he; exact hn, .inl ⟨u, w, by simp [execOp, hop, g3 w (Kept.refl _ _ _ _)], ρ, st, .v z, h, Map.le_refl ρ, Same.refl st, g2, by rw [hd]; exact g1, fun _ _ _ => rfl⟩⟩

theorem far_out {O : List Nat} {p : Cell} {k : Prop} (h : far O p k) : (∀ b, ptrOf p = some b → b ∉ O) ∧ k := by
  unfold far at h
  split at h
  · split at h
    · exact h.elim
    · rename_i hm; exact ⟨fun b e => by cases e; exact (mem_false _ _).1 hm, h⟩
  · split at h
    · exact h.elim
    · rename_i hm; exact ⟨fun b e => by cases e; exact (mem_false _ _).1 hm, h⟩
  · split at h
    · exact h.elim
    · rename_i hm; exact ⟨fun b e => by cases e; exact (mem_false _ _).1 hm, h⟩
  · rename_i h1 h2 h3
    exact ⟨fun b e => by cases p <;> first | (cases e; done) | (exact absurd rfl (h1 _ _)) | (exact absurd rfl (h2 _ _ _ _)) | (exact absurd rfl (h3 _ _ _ _ _)), h⟩
theorem take_load {c0 : Ctx P} {ρ0 : Map} {st0 : St} {W0 : World} {h0 : List (Nat × Option Blk)} {O : List Nat} {q : Nat → Prop} {d : Nat} {agg : Bool} {sz : Nat} {x : Arg} (hh : st0.hp = h0) (h : HR c0 ρ0 [] [] st0 W0) (hq : ∀ m, m < W0.heap.size → m ∉ feet ρ0 st0 O → q m) (hle : ρ0.le ρ) (hev : Ev ρ st a)
    (hi : inOk P N o (.load d agg sz x) = true) (hk : takeI O h0 (.load d agg sz x) st k) :
    ∃ v z, o.dst = some d ∧ d < N ∧ TVR ρ z v ∧ put st d z k ∧ ∀ w' : World, (∀ n, q n → w'.heap[n]? = W0.heap[n]?) → (execOp a.eval o).run P w' = .ok (.value v) w' := by
  obtain ⟨t, y, hop, hd, hn, h3, h4, h5, h6⟩ := load_chk hi
  have hk0 : asC (st.ev x) (fun p => far O p (loadK ⟨[], h0, [], [], false, []⟩ agg sz p fun v => put st d (.v v) k)) := hk
  obtain ⟨p, hp, hk1⟩ := asC_ev hev h3 hk0
  obtain ⟨hfar, hk1⟩ := far_out hk1
  have hget : ∀ b, St.hget ⟨[], h0, [], [], false, []⟩ b = st0.hget b := fun b => by unfold St.hget; rw [hh]
  have h' : HR c0 ρ0 [] [] ⟨[], h0, [], [], false, []⟩ W0 :=
    ⟨fun b B hg => h.bk b B (by rw [← hget]; exact hg), fun b B l b' B' l' hg hl hg' hl' => h.sp b B l b' B' l' (by rw [← hget]; exact hg) hl (by rw [← hget]; exact hg') hl',
     fun b B l hg => h.ow b B l (by rw [← hget]; exact hg), List.nodup_nil, fun z hz => (by cases hz), fun z hz => (by cases hz), List.nodup_nil, fun z hz => (by cases hz), h.fr, fun e => (by cases e), fun e => (by cases e), fun e => (by cases e)⟩
  obtain ⟨z, u, g1, g2, g3⟩ := load_val h' hle hp hk1 h4 h5 h6
  refine ⟨u, .v z, hd, hn, g2.mono hle, g1, fun w' hw => ?_⟩
  have hkept : Kept ⟨[], h0, [], [], false, []⟩ ρ0 p W0 w' := fun b B l hpb hg hl x hin => by
    rw [hget] at hg
    refine hw _ (hq _ ?_ fun hm => ?_)
    · obtain ⟨o1, o2⟩ := h.ow b B l hg hl
      rcases hin with hin | hin
      · exact (o1 _ hin).1
      · exact (o2 _ hin).1
    · obtain ⟨b', hb', hf⟩ := List.mem_flatMap.1 hm
      obtain ⟨B', l', hB', hl', hx⟩ := footOf_mem hf
      have hne : b' ≠ b := fun e => hfar b hpb (e ▸ hb')
      obtain ⟨s1, s2⟩ := h.sp b' B' l' b B l hB' hl' hg hl hne _ hx
      rcases hin with hin | hin
      · exact s1 hin
      · exact s2 hin
  simp [execOp, hop, g3 w' hkept]

theorem HR.upd {b : Nat} {B B' : Blk} {l : Loc} {st' : St} {w' : World} (h : HR c ρ [] [] st w) (hg : st.hget b = some B) (hl : ρ b = some l) (hf : B'.foot l = B.foot l) (hs : B'.shw l = [])
    (hB' : BlkR w' ρ l B') (hos : w'.os = w.os ∧ w'.tape = w.tape ∧ w'.output = w.output) (hsz : w'.heap.size = w.heap.size) (hoth : ∀ x, x ∉ B.foot l → w'.heap[x]? = w.heap[x]?)
    (hst : st' = ⟨st.tm, (b, some B') :: st.hp, st.nx, st.ar, st.q, st.fr⟩) (hq : st.q = true → b ∈ st.fr) : HR c ρ [] [] st' w' := by
  subst hst
  have h1 : HR c ρ (B.foot l ++ []) [] ⟨st.tm, (b, none) :: st.hp, st.nx, st.ar, st.q, st.fr⟩ w :=
    h.release hg hl (fun x => hget_cons rfl x) rfl rfl rfl hq
  have hlt : ∀ x ∈ B.foot l, x < w.heap.size := fun x hx => ((h.ow _ _ _ hg hl).1 x hx).1
  have h2 : HR c ρ (B'.foot l ++ []) [] ⟨st.tm, (b, none) :: st.hp, st.nx, st.ar, st.q, st.fr⟩ w' := by
    refine h1.world (Z' := B'.foot l ++ []) (Y' := []) ⟨hos.1, hos.2.1, hos.2.2, by omega, fun x _ hx => hoth x (fun hm => hx (by simpa using hm))⟩ ?_ (fun z hz => ?_) (fun y hy => by cases hy)
    · rw [hf]; exact h1.zn
    · rw [hf] at hz
      exact ⟨by rw [hsz]; exact hlt z (by simpa using hz), .inl hz, fun hy => by cases hy⟩
  have hbn : b ∉ st.nx := fun hm => by rw [h.nf b hm] at hl; cases hl
  refine HR.attach (b := b) (B := B') (l := l) (st := ⟨st.tm, (b, none) :: st.hp, st.nx, st.ar, st.q, st.fr⟩) (Map.le_refl ρ) (fun _ _ => rfl) hl (by rw [hget_cons rfl, if_pos rfl]) h2 hB' (by rw [hs]; intro x hx; cases hx) (fun x => ?_) ⟨[], rfl⟩ hbn rfl (fun i hi => .inl hi)
  rw [hget_cons rfl, hget_cons rfl]
  by_cases e : x = b
  · simp [e]
  · simp [e]

theorem rows_set {w w' : World} {ρ : Map} {l : Loc} {τ : FT} {xss : List (List τ.Ty)} {i : Nat} {q : RLoc} {ys : List τ.Ty} (h : BlkR w ρ l (.rows true τ xss)) (hq : l.ins[i]? = some q) (hc : 0 < q.cap) (hnew : RowR w' true τ q ys)
    (hoth : ∀ x, x ≠ q.blk → w'.heap[x]? = w.heap[x]?) : BlkR w' ρ l (.rows true τ (xss.set i ys)) := by
  obtain ⟨h1, h2, ⟨vs, h3, h3'⟩, h4, h5⟩ := h
  obtain ⟨h6, h7⟩ := h5 rfl
  obtain ⟨n1, n2, n3⟩ := List.nodup_append.1 h7
  have hil : i < l.ins.length := by
    rcases Nat.lt_or_ge i l.ins.length with g | g
    · exact g
    · rw [List.getElem?_eq_none g] at hq; cases hq
  have hcl : 0 < l.cap := by have := h4.length; omega
  have hqm : q.blk ∈ rowFeet l.ins := List.mem_flatMap.2 ⟨q, List.mem_of_getElem? hq, by rw [if_pos hc]; simp⟩
  have hne : l.blk ≠ q.blk := n3 _ (by rw [if_pos hcl]; simp) _ hqm
  have hb := hoth l.blk hne
  refine ⟨by simpa using h1, h2, ⟨vs, rangeAt_block hb h3, h3'⟩, all2_set h4 (fun a ha => by rw [hq] at ha; cases ha; exact hnew) (fun j a b hj ha hr => hr.block fun hp => hoth _ ?_), fun _ => ⟨h6.block hb, h7⟩⟩
  exact fun e => rowFeet_ne n2 hq ha (Ne.symm hj) hc (by simpa using hp) e.symm

theorem run_store_cells (w : World) (b o : Nat) (t : TypeId) (v : Value) (hs : szOk P t v.cells.size = true) (h1 : ∀ u ∈ v.cells.toList, u.oneCell' = true) (ht : w.there b o v.cells.size) :
    (Instr.storeAt t (.pointer (some ⟨b, o, none⟩)) v).run P w = .ok () (w.setCells b o v.cells.toList) := by
  obtain ⟨i, hi, hsz⟩ := szOk_out hs
  have := run_storeCells_cells (P := P) b o v.cells.toList 0 w (fun j hj => by simpa using (ht j (by simpa using hj)).1) (fun j hj => by simpa using (ht j (by simpa using hj)).2) h1
  simp only [Nat.add_zero] at this
  simp [Instr.storeAt, Instr.sureAddr, storeVar, sizeOf, run_typeInfo w hi, hsz, this]

theorem there_sub {w : World} {b o n : Nat} (h : w.there b o n) {cc m : Nat} (hm : cc + m ≤ n) : w.there b (o + cc) m := fun j hj => by
  rw [Nat.add_assoc]; exact h (cc + j) (by omega)
theorem there_set {w : World} {b o n : Nat} (h : w.there b o n) (o' : Nat) (vs : List Value) : (w.setCells b o' vs).there b o n := World.there_setCells h b o' vs

theorem setCell_fr {w : World} {b o : Nat} {v : Value} {c : Array Value} {e : TypeId} {f : Nat × Nat} (h : (w.setCell ⟨b, o, none⟩ v).heap[b]? = some (.cells c e f)) : ∃ c', w.heap[b]? = some (.cells c' e f) := by
  unfold World.setCell at h
  simp only [Array.getElem?_modify, if_true] at h
  cases hw : w.heap[b]? with
  | none => rw [hw] at h; simp at h
  | some ob =>
    rw [hw] at h
    cases ob with
    | cells c' e' f' =>
      simp only [Option.map_some, Option.some.injEq, Obj.cells.injEq] at h
      obtain ⟨_, rfl, rfl⟩ := h
      exact ⟨c', rfl⟩
    | _ => simp at h
theorem setCells_fr {b : Nat} {c : Array Value} {e : TypeId} {f : Nat × Nat} : ∀ (vs : List Value) (o : Nat) (w : World), (w.setCells b o vs).heap[b]? = some (.cells c e f) → ∃ c', w.heap[b]? = some (.cells c' e f)
  | [], _, w, h => ⟨c, h⟩
  | v :: vs, o, w, h => by
    rw [World.setCells] at h
    obtain ⟨c1, h1⟩ := setCells_fr vs (o + 1) _ h
    exact setCell_fr h1
theorem Ther.set {w : World} {b o n : Nat} {u : Bool} (h : Ther w b o n u) (o' : Nat) (vs : List Value) : Ther (w.setCells b o' vs) b o n u :=
  ⟨there_set h.1 o' vs, fun hn c e lo hi hh => by obtain ⟨c', h1⟩ := setCells_fr vs o' w hh; exact h.2 hn c' e lo hi h1⟩

theorem out_store {sz : Nat} {p x : Arg} (h : HR c ρ [] [] st w) (hev : Ev ρ st a) (hi : inOk P N o (.store sz p x) = true) (hk : insK E (.store sz p x) st k) : Out P N o a c ρ st w k := by
  simp only [inOk, Bool.and_eq_true] at hi
  obtain ⟨h1, h2⟩ := hi
  obtain ⟨hd, _⟩ := ddOk_out h1
  split at h2
  · rename_i t y z hop
    simp only [Bool.and_eq_true] at h2
    obtain ⟨⟨hp, hx⟩, hsz⟩ := h2
    obtain ⟨pc, hpc, hk1⟩ := asC_ev hev hp hk
    obtain ⟨xv, hxv, hk2⟩ := asV_ev hev hx hk1
    obtain ⟨hlen, hk3⟩ := lenIs_out _ _ _ (cells1_out hk2)
    have hcr := hxv.cells
    have hvl : (a.eval z).cells.size = sz := by rw [← hlen, All2.length hcr]; simp
    have hone := hcr.one
    refine ⟨fun e he => (by rw [hd] at he; cases he), .inr (.inl ?_)⟩
    -- the store, and what is left
    have fin : ∀ (b off : Nat) (st' : St), a.eval y = .pointer (some ⟨b, off, none⟩) → w.there b off sz → (HR c ρ [] [] st' (w.setCells b off (a.eval z).cells.toList)) → Same st st' → k st' → (st.q = true → ¬ c.qs b ∨ sz = 0) →
        ∃ w', (execOp a.eval o).run P w = .ok .skip w' ∧ o.dst = none ∧ Did c ρ st w none k undef w' := by
      intro b off st' hv hth hhr hsame hk' hq
      have hrun := run_store_cells (P := P) w b off t (a.eval z) (by rw [hvl]; exact hsz) hone (by rw [hvl]; exact hth)
      refine ⟨_, by simp [execOp, hop, hv, hrun], hd, ρ, st', .unk, hhr, Map.le_refl ρ, hsame, trivial, hk', fun hqq n hn => ?_⟩
      rcases hq hqq with hb | h0
      · exact (setCells_all b _ off w).2.2.2.2 n (fun e => hb (e ▸ hn))
      · have : (a.eval z).cells.toList = [] := List.eq_nil_of_length_eq_zero (by rw [Array.length_toList, hvl, h0])
        rw [this]; rfl
    unfold storeK at hk3
    split at hk3
    · rename_i b cc
      split at hk3
      · rename_i cs hg
        obtain ⟨hq, hk4⟩ := md_out hk3
        obtain ⟨hle, hk5⟩ := sp_out _ _ _ _ hk4
        obtain ⟨l, hl, hB, hth⟩ := h.bk b _ hg
        obtain ⟨l', hl', hv⟩ := hpc
        rw [hl] at hl'
        cases hl'
        obtain ⟨us, hra, hr⟩ := hB
        have hul := All2.length hr
        have hvl' : (a.eval z).cells.toList.length = sz := by simpa using hvl
        have hth' : w.there l.blk (l.off + cc) (a.eval z).cells.toList.length := there_sub (hth rfl) (by omega)
        refine fin _ _ _ hv (by rw [← hvl']; exact hth') (HR.upd h hg hl (B' := .box true (cs.take cc ++ cellsOf1 xv ++ cs.drop (cc + (cellsOf1 xv).length))) rfl rfl ⟨⟨_, rangeAt_set hra (by omega) hth', ?_⟩, fun _ => ?_⟩
          ⟨(setCells_all _ _ _ _).1, (setCells_all _ _ _ _).2.1, (setCells_all _ _ _ _).2.2.1⟩ (setCells_all _ _ _ _).2.2.2.1 (fun x hx => (setCells_all _ _ _ _).2.2.2.2 x (fun e => hx (by simp [Blk.foot, e]))) rfl hq) ⟨rfl, rfl, rfl⟩ hk5 (fun hqq => .inl (h.qf hqq b (hq hqq) _ _ hg hl l.blk (by simp [Blk.foot])))
        · rw [hvl', ← hlen]; exact All2.append (All2.append (All2.take _ hr) hcr) (All2.drop _ hr)
        · have : (cs.take cc ++ cellsOf1 xv ++ cs.drop (cc + (cellsOf1 xv).length)).length = cs.length := by simp; omega
          rw [this]; exact there_set (hth rfl) _ _
      · exact hk3.elim
    · rename_i σ b i cc
      split at hk3
      · rename_i τ cap xs hg
        split at hk3
        · rename_i hft
          have hft := ftEq_eq hft
          subst hft
          obtain ⟨hi, hk3⟩ := chk_o hk3
          obtain ⟨hq, hk4⟩ := md_out hk3
          rw [fL_iff] at hk4
          obtain ⟨hle, hk5⟩ := sp_out _ _ _ _ hk4
          obtain ⟨x', hk6, hceq⟩ := parse_out hk5
          obtain ⟨l, hl, hB⟩ := h.bk b _ hg
          obtain ⟨l', hl', hv⟩ := hpc
          rw [hl] at hl'
          cases hl'
          obtain ⟨b1, b2, b3, ⟨us, hra, hr⟩, b5⟩ := hB
          have hul := All2.length hr
          rw [flats_length] at hul
          rw [flat_length] at hle
          have hvl' : (a.eval z).cells.toList.length = sz := by simpa using hvl
          have hmul : i * σ.sz + σ.sz ≤ xs.length * σ.sz := by rw [← Nat.succ_mul]; exact Nat.mul_le_mul_right _ hi
          have hcapm : xs.length * σ.sz ≤ l.cap * σ.sz := Nat.mul_le_mul_right _ (by omega)
          have hth' : w.there l.blk (l.off + (i * σ.sz + cc)) (a.eval z).cells.toList.length := there_sub (b5 rfl).1 (by omega)
          have hcap : 0 < l.cap := by omega
          have hset := rangeAt_set hra (cc := i * σ.sz + cc) (by omega) hth'
          rw [← Nat.add_assoc] at hset hth'
          refine fin _ _ _ hv (by rw [← hvl']; exact hth') (HR.upd h hg hl (B' := .flat true σ cap (xs.set i x')) rfl rfl ⟨by simpa using b1, b2, b3, ⟨_, hset, ?_⟩, fun _ => (b5 rfl).set _ _⟩
            ⟨(setCells_all _ _ _ _).1, (setCells_all _ _ _ _).2.1, (setCells_all _ _ _ _).2.2.1⟩ (setCells_all _ _ _ _).2.2.2.1 (fun x hx => (setCells_all _ _ _ _).2.2.2.2 x (fun e => hx (by simp [Blk.foot, e, hcap]))) rfl hq) ⟨rfl, rfl, rfl⟩ hk6 (fun hqq => .inl (h.qf hqq b (hq hqq) _ _ hg hl l.blk (by simp [Blk.foot, hcap])))
          -- the cells of the changed element among the others
          have hel : CellsR none0 (σ.flat (xs.getD i σ.zero)) ((us.drop (i * σ.sz)).take σ.sz) := by
            rw [← flats_at σ xs i hi]; exact All2.take _ (All2.drop _ hr)
          have hnew : CellsR none0 (σ.flat x') (((us.drop (i * σ.sz)).take σ.sz).take cc ++ (a.eval z).cells.toList ++ ((us.drop (i * σ.sz)).take σ.sz).drop (cc + sz)) := by
            refine hceq.cells (ρ := ρ) ?_
            rw [hlen]
            exact All2.append (All2.append (All2.take _ (hel.mono (none0_le ρ))) hcr) (All2.drop _ (hel.mono (none0_le ρ)))
          have hfl : flats σ (xs.set i x') = (flats σ xs).take (i * σ.sz) ++ σ.flat x' ++ (flats σ xs).drop (i * σ.sz + σ.sz) := by
            have e1 : (flats σ xs).take (i * σ.sz) = flats σ (xs.take i) := by
              have := win_flats σ 0 i xs
              simpa [win] using this.symm
            have e2 : (flats σ xs).drop (i * σ.sz + σ.sz) = flats σ (xs.drop (i + 1)) := by
              have := win_flats σ (i + 1) xs.length xs
              rw [Nat.succ_mul] at this
              unfold win at this
              rw [List.take_of_length_le (by simp), List.take_of_length_le (by rw [List.length_drop, flats_length]; omega)] at this
              exact this.symm
            rw [e1, e2, List.set_eq_take_append_cons_drop, if_pos hi]
            simp [flats]
          rw [hfl]
          have hus : us.take (i * σ.sz + cc) ++ (a.eval z).cells.toList ++ us.drop (i * σ.sz + cc + (a.eval z).cells.toList.length) =
              us.take (i * σ.sz) ++ (((us.drop (i * σ.sz)).take σ.sz).take cc ++ (a.eval z).cells.toList ++ ((us.drop (i * σ.sz)).take σ.sz).drop (cc + sz)) ++ us.drop (i * σ.sz + σ.sz) := by
            rw [hvl']
            have f1 : us.take (i * σ.sz + cc) = us.take (i * σ.sz) ++ ((us.drop (i * σ.sz)).take σ.sz).take cc := by
              rw [List.take_take, show min cc σ.sz = cc by omega, List.take_add]
            have f2 : us.drop (i * σ.sz + cc + sz) = ((us.drop (i * σ.sz)).take σ.sz).drop (cc + sz) ++ us.drop (i * σ.sz + σ.sz) := by
              rw [List.drop_take, List.drop_drop, ← Nat.add_assoc]
              have : us.drop (i * σ.sz + σ.sz) = (us.drop (i * σ.sz + cc + sz)).drop (σ.sz - (cc + sz)) := by rw [List.drop_drop]; congr 1; omega
              rw [this, List.take_append_drop]
            rw [f1, f2]; simp [List.append_assoc]
          rw [hus]
          exact All2.append (All2.append (All2.take _ hr) hnew) (All2.drop _ hr)
        · exact hk3.elim
      · exact hk3.elim
    · rename_i σ b r i cc
      split at hk3
      · rename_i τ xss hg
        split at hk3
        · rename_i hft
          have hft := ftEq_eq hft
          subst hft
          obtain ⟨hi, hk3⟩ := chk_o hk3
          obtain ⟨hq, hk4⟩ := md_out hk3
          rw [fL_iff] at hk4
          obtain ⟨hle, hk5⟩ := sp_out _ _ _ _ hk4
          obtain ⟨x', hk6, hceq⟩ := parse_out hk5
          obtain ⟨l, hl, hB⟩ := h.bk b _ hg
          obtain ⟨l', q, hl', hqq, hv⟩ := hpc
          rw [hl] at hl'
          cases hl'
          obtain ⟨_, b1, b2, ⟨us, hra, hr⟩, b5⟩ := all2_get (z := []) hB.2.2.2.1 hqq
          generalize hxs : xss.getD r [] = xs at *
          have hul := All2.length hr
          rw [flats_length] at hul
          rw [flat_length] at hle
          have hvl' : (a.eval z).cells.toList.length = sz := by simpa using hvl
          have hmul : i * σ.sz + σ.sz ≤ xs.length * σ.sz := by rw [← Nat.succ_mul]; exact Nat.mul_le_mul_right _ hi
          have hcapm : xs.length * σ.sz ≤ q.cap * σ.sz := Nat.mul_le_mul_right _ (by omega)
          have hth' : w.there q.blk (q.off + (i * σ.sz + cc)) (a.eval z).cells.toList.length := there_sub (b5 rfl).1 (by omega)
          have hcap : 0 < q.cap := by omega
          have hset := rangeAt_set hra (cc := i * σ.sz + cc) (by omega) hth'
          rw [← Nat.add_assoc] at hset hth'
          have hmem : q.blk ∈ rowsFoot l := List.mem_append_right _ (List.mem_flatMap.2 ⟨q, List.mem_of_getElem? hqq, by rw [if_pos hcap]; simp⟩)
          have hother := (setCells_all q.blk (a.eval z).cells.toList (q.off + i * σ.sz + cc) w).2.2.2.2
          refine fin _ _ _ hv (by rw [← hvl']; exact hth') (HR.upd h hg hl (B' := .rows true σ (xss.set r (xs.set i x'))) rfl rfl (rows_set hB hqq hcap ⟨by simpa using b1, b2, ⟨_, hset, ?_⟩, fun _ => (b5 rfl).set _ _⟩ (fun x hx => hother x hx))
            ⟨(setCells_all _ _ _ _).1, (setCells_all _ _ _ _).2.1, (setCells_all _ _ _ _).2.2.1⟩ (setCells_all _ _ _ _).2.2.2.1 (fun x hx => hother x (fun e => hx (by rw [e]; exact hmem))) rfl hq) ⟨rfl, rfl, rfl⟩ hk6 (fun hqq2 => .inl (h.qf hqq2 b (hq hqq2) _ _ hg hl q.blk hmem))
          -- the cells of the changed element among the others
          have hel : CellsR none0 (σ.flat (xs.getD i σ.zero)) ((us.drop (i * σ.sz)).take σ.sz) := by
            rw [← flats_at σ xs i hi]; exact All2.take _ (All2.drop _ hr)
          have hnew : CellsR none0 (σ.flat x') (((us.drop (i * σ.sz)).take σ.sz).take cc ++ (a.eval z).cells.toList ++ ((us.drop (i * σ.sz)).take σ.sz).drop (cc + sz)) := by
            refine hceq.cells (ρ := ρ) ?_
            rw [hlen]
            exact All2.append (All2.append (All2.take _ (hel.mono (none0_le ρ))) hcr) (All2.drop _ (hel.mono (none0_le ρ)))
          have hfl : flats σ (xs.set i x') = (flats σ xs).take (i * σ.sz) ++ σ.flat x' ++ (flats σ xs).drop (i * σ.sz + σ.sz) := by
            have e1 : (flats σ xs).take (i * σ.sz) = flats σ (xs.take i) := by
              have := win_flats σ 0 i xs
              simpa [win] using this.symm
            have e2 : (flats σ xs).drop (i * σ.sz + σ.sz) = flats σ (xs.drop (i + 1)) := by
              have := win_flats σ (i + 1) xs.length xs
              rw [Nat.succ_mul] at this
              unfold win at this
              rw [List.take_of_length_le (by simp), List.take_of_length_le (by rw [List.length_drop, flats_length]; omega)] at this
              exact this.symm
            rw [e1, e2, List.set_eq_take_append_cons_drop, if_pos hi]
            simp [flats]
          rw [hfl]
          have hus : us.take (i * σ.sz + cc) ++ (a.eval z).cells.toList ++ us.drop (i * σ.sz + cc + (a.eval z).cells.toList.length) =
              us.take (i * σ.sz) ++ (((us.drop (i * σ.sz)).take σ.sz).take cc ++ (a.eval z).cells.toList ++ ((us.drop (i * σ.sz)).take σ.sz).drop (cc + sz)) ++ us.drop (i * σ.sz + σ.sz) := by
            rw [hvl']
            have f1 : us.take (i * σ.sz + cc) = us.take (i * σ.sz) ++ ((us.drop (i * σ.sz)).take σ.sz).take cc := by
              rw [List.take_take, show min cc σ.sz = cc by omega, List.take_add]
            have f2 : us.drop (i * σ.sz + cc + sz) = ((us.drop (i * σ.sz)).take σ.sz).drop (cc + sz) ++ us.drop (i * σ.sz + σ.sz) := by
              rw [List.drop_take, List.drop_drop, ← Nat.add_assoc]
              have : us.drop (i * σ.sz + σ.sz) = (us.drop (i * σ.sz + cc + sz)).drop (σ.sz - (cc + sz)) := by rw [List.drop_drop]; congr 1; omega
              rw [this, List.take_append_drop]
            rw [f1, f2]; simp [List.append_assoc]
          rw [hus]
          exact All2.append (All2.append (All2.take _ hr) hnew) (All2.drop _ hr)
        · exact hk3.elim
      · exact hk3.elim
    · exact hk3.elim
  · cases h2
end
end Go.Pi
