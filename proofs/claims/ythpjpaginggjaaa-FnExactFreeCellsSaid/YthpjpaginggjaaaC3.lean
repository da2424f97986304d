/- Contracts of functions, each out of its run by PI. No conditions. -/
import Derived.Test.YthpjpaginggjaaaC2
namespace Go.Pi
open Go.Proofs
set_option linter.unusedVariables false
set_option linter.unusedSimpArgs false
set_option maxRecDepth 100000
attribute [local irreducible] iterN
def arZ (τ : FT) (t : Tree) (k : Unit → Prop) : Prop := match t with | .v (.c (.nl σ)) => (match ftEq σ τ with | true => k () | false => False) | _ => False
theorem arZ_out {τ : FT} {t : Tree} {k : Unit → Prop} (h : arZ τ t k) : ∃ x : Unit, t = .v (.c (.nl τ)) ∧ k x := by
  unfold arZ at h
  split at h
  · split at h
    · rename_i hf; rw [ftEq_eq hf]; exact ⟨(), rfl, h⟩
    · exact h.elim
  · exact h.elim
def pR2 (cs : List TC) (f : List Span → List Span → Prop) : Prop := pL .span cs fun a r => pL .span r fun b r => match r with | [] => f a b | _ :: _ => False
def arR2 (t : Tree) (f : List Span × List Span → Prop) : Prop := match t with
  | .rows n cs => (match Nat.beq n 2 with | true => pR2 cs fun a b => f (a, b) | false => False)
  | _ => False
theorem arR2_out {t : Tree} {f : List Span × List Span → Prop} (h : arR2 t f) : ∃ x : List Span × List Span, t = .rows 2 [tl false .span x.1, tl false .span x.2] ∧ f x := by
  unfold arR2 at h
  split at h
  · split at h
    · rename_i hn
      rw [Nat.eq_of_beq_eq_true hn]
      unfold pR2 at h
      obtain ⟨a, r, e1, h1⟩ := rd_l .span _ _ h
      obtain ⟨b, r2, e2, h2⟩ := rd_l .span _ _ h1
      subst e1 e2
      cases r2 with
      | nil => exact ⟨(a, b), rfl, h2⟩
      | cons _ _ => exact h2.elim
    · exact h.elim
  · exact h.elim

def pf_slices_Grow_Span : PF := ⟨[.t 4], .seq (.reg [.s (.mv 4 (.k (.v (.c (.nils .span)))))]) (.seq (.seq (.reg [.s (.mv 5 (.t 1)), .s (.bin 6 .lss (.t 5) (.k (.v (.c (.int .i64 0)))))]) (.cond (.t 6) (.reg [.s (.no), .s (.no)]) (.skip))) (.seq (.seq (.reg [.s (.mv 8 (.t 1)), .s (.mv 9 (.t 0)), .s (.cap 10 (.t 9)), .s (.mv 11 (.t 0)), .s (.len 12 false (.t 11)), .s (.bin 13 .sub (.t 10) (.t 12)), .s (.bin 14 .sub (.t 8) (.t 13)), .s (.mv 1 (.t 14))]) (.seq (.reg [.s (.mv 15 (.t 1)), .s (.bin 16 .gtr (.t 15) (.k (.v (.c (.int .i64 0)))))]) (.cond (.t 16) (.reg [.s (.mv 17 (.t 0)), .s (.mv 18 (.t 0)), .s (.cap 19 (.t 18)), .s (.slcz 20 .span (.t 17) (.t 19)), .s (.mv 21 (.t 1)), .s (.appz 22 .span (.t 20) (.t 21)), .s (.mv 23 (.t 0)), .s (.len 24 false (.t 23)), .s (.slc 25 .span (.t 22) none (some (.t 24))), .s (.mv 0 (.t 25))]) (.skip)))) (.seq (.reg [.s (.mv 26 (.t 0)), .s (.mv 4 (.t 26))]) (.ret))))⟩
def c_slices_Grow_Span : Fun := ⟨221, [], fun ts K => as2 ts fun t0 t1 => arZ .span t0 fun s => arC (pI .i64) t1 fun n => chk (0 ≤ n ∧ n ≤ 10000000) (K (tL true .span []) [])⟩
theorem run_slices_Grow_Span (s : Unit) (n : Int) (hpre : 0 ≤ n ∧ n ≤ 10000000) : runK [] (0) [] pf_slices_Grow_Span [.v (.c (.nl .span)), tI .i64 n] fun r o => r = tL true .span [] ∧ o = [] := by
  have e0 : IntKind.i64.wrap (0 - 0) = 0 := by decide
  have e1 : IntKind.i64.wrap (n - 0) = n := by rw [Int.sub_zero]; exact wrap_id (by omega) (by omega)
  conv => whnf
  repeat' (first | (refine sel_i (fun h => ?_) (fun h => ?_) <;> conv => whnf) | (refine chk_c ?_ ?_ <;> conv => whnf) | (refine And.intro ?_ rfl) | (refine And.intro ?_ ?_ <;> conv => whnf))
  all_goals (try simp only [e0, e1, decide_eq_true_eq, decide_eq_false_iff_not, gt_iff_lt] at *)
  all_goals first
    | rfl
    | trivial
    | (refine ⟨?_⟩; omega)
    | (exfalso; omega)
    | (refine ⟨?_⟩; simp; done)
    | (refine ⟨?_⟩; simp; omega)
    | trace_state
theorem ok_slices_Grow_Span : FunOk Try.prog c_slices_Grow_Span := funOk (E := []) (envOk_nil) mixd Try.func221 (pf := pf_slices_Grow_Span) (by kernel_rfl) fun ts K h => by
  obtain ⟨t0, t1, e0, hp⟩ := as2_out h
  clear h
  subst e0
  have h := hp
  clear hp
  obtain ⟨s, e1, hq⟩ := arZ_out h
  clear h
  subst e1
  have h := hq
  clear hq
  obtain ⟨n, e1, hq⟩ := arC_out (rd_int .i64) h
  clear h
  subst e1
  have h := hq
  clear hq
  obtain ⟨hpre, h⟩ := chk_o h
  exact ⟨_, _, h, Nat.le_of_ble_eq_true (show Nat.ble 2 Try.f221.ntmps = true by kernel_rfl), _, run_slices_Grow_Span s n hpre⟩

def lb_slices_Concat_Span_0 : PC := .seq (.reg [.s (.bin 12 .lss (.t 11) (.t 10))]) (.seq (.cond (.t 12) (.skip) (.exit 0)) (.seq (.blk 1 (.seq (.reg [.s (.iar 13 (.t 9) (.t 11)), .s (.load 14 false 1 (.t 13)), .s (.mv 5 (.t 14))]) (.seq (.reg [.s (.mv 15 (.t 3)), .s (.mv 16 (.t 5)), .s (.len 17 false (.t 16)), .s (.bin 18 .add (.t 15) (.t 17)), .s (.mv 3 (.t 18))]) (.seq (.reg [.s (.mv 19 (.t 3)), .s (.bin 20 .lss (.t 19) (.k (.v (.c (.int .i64 0)))))]) (.cond (.t 20) (.reg [.s (.no), .s (.no)]) (.skip)))))) (.reg [.s (.bin 22 .add (.t 11) (.k (.v (.c (.int .i64 1))))), .s (.mv 11 (.t 22))])))
def lb_slices_Concat_Span_1 : PC := .seq (.reg [.s (.bin 28 .lss (.t 27) (.t 26))]) (.seq (.cond (.t 28) (.skip) (.exit 2)) (.seq (.blk 3 (.seq (.reg [.s (.iar 29 (.t 25) (.t 27)), .s (.load 30 false 1 (.t 29)), .s (.mv 8 (.t 30))]) (.reg [.s (.mv 31 (.t 6)), .s (.mv 32 (.t 8)), .s (.app 33 .span (.t 31) (.t 32)), .s (.mv 6 (.t 33))]))) (.reg [.s (.bin 34 .add (.t 27) (.k (.v (.c (.int .i64 1))))), .s (.mv 27 (.t 34))])))
def pf_slices_Concat_Span : PF := ⟨[.t 2], .seq (.reg [.s (.mv 2 (.k (.v (.c (.nils .span)))))]) (.seq (.reg [.s (.mv 3 (.k (.v (.c (.int .i64 0)))))]) (.seq (.seq (.reg [.s (.mv 9 (.t 0)), .s (.lenr 10 (.t 9)), .s (.mv 11 (.k (.v (.c (.int .i64 0)))))]) (.blk 0 (.loop [0, 3, 9, 10, 11] lb_slices_Concat_Span_0))) (.seq (.reg [.s (.mv 23 (.t 3)), .s (.call (some 24) 221 [(.k (.v (.c (.nilz .span)))), (.t 23)]), .s (.mv 6 (.t 24))]) (.seq (.seq (.reg [.s (.mv 25 (.t 0)), .s (.lenr 26 (.t 25)), .s (.mv 27 (.k (.v (.c (.int .i64 0)))))]) (.blk 2 (.loop [6, 25, 26, 27] lb_slices_Concat_Span_1))) (.seq (.reg [.s (.mv 35 (.t 6)), .s (.mv 2 (.t 35))]) (.ret))))))⟩
def c_slices_Concat_Span : Fun := ⟨186, [], fun ts K => as1 ts fun t0 => arR2 t0 fun q => chk (q.1.length ≤ 1048576 ∧ q.2.length ≤ 1048576) (K (tL true .span (q.1 ++ q.2)) [])⟩
theorem run_slices_Concat_Span (q : List Span × List Span) (hpre : q.1.length ≤ 1048576 ∧ q.2.length ≤ 1048576) : runK [c_slices_Grow_Span] (10) [] pf_slices_Concat_Span [.rows 2 [tl false .span (q).1, tl false .span (q).2]] fun r o => r = tL true .span (q.1 ++ q.2) ∧ o = [] := by
  obtain ⟨a, b⟩ := q
  obtain ⟨l1, l2⟩ := hpre
  dsimp only at l1 l2 ⊢
  have e1 : IntKind.i64.wrap (0 + (a.length : Int)) = a.length := by rw [Int.zero_add]; exact wrap_id (by omega) (by omega)
  have e2 : IntKind.i64.wrap ((a.length : Int) + (b.length : Int)) = a.length + b.length := wrap_id (by omega) (by omega)
  have e3 : IntKind.i64.wrap (0 + 1) = 1 := by decide
  have e4 : IntKind.i64.wrap (1 + 1) = 2 := by decide
  conv => whnf
  repeat' (first | (refine sel_i (fun h => ?_) (fun h => ?_) <;> first | (exfalso; revert h; decide) | conv => whnf) | (refine chk_c ?_ ?_ <;> conv => whnf) | (refine iter_s ?_; conv => whnf) | (refine And.intro ?_ rfl) | (refine And.intro ?_ ?_ <;> conv => whnf))
  all_goals (try simp only [e1, e2, e3, e4, decide_eq_true_eq, decide_eq_false_iff_not, gt_iff_lt] at *)
  all_goals first
    | rfl
    | trivial
    | (refine ⟨?_⟩; omega)
    | (exfalso; omega)
    | (refine ⟨?_⟩; simp; done)
    | (refine ⟨?_⟩; simp; omega)
    | trace_state
theorem ok_slices_Concat_Span : FunOk Try.prog c_slices_Concat_Span := funOk (E := [c_slices_Grow_Span]) (envOk_cons ok_slices_Grow_Span (envOk_nil)) mixd Try.func186 (pf := pf_slices_Concat_Span) (by kernel_rfl) fun ts K h => by
  obtain ⟨t0, e0, hp⟩ := as1_out h
  clear h
  subst e0
  have h := hp
  clear hp
  obtain ⟨q, e1, hq⟩ := arR2_out h
  clear h
  subst e1
  have h := hq
  clear hq
  obtain ⟨hpre, h⟩ := chk_o h
  exact ⟨_, _, h, Nat.le_of_ble_eq_true (show Nat.ble 1 Try.f186.ntmps = true by kernel_rfl), _, run_slices_Concat_Span q hpre⟩

def useOf (l : List Span) : List Bool := (List.range 24).map (fun c => decide (0 < cnt l c))
theorem useOf_len (l : List Span) : (useOf l).length = 24 := by simp [useOf]
theorem useOf_get (l : List Span) {c : Nat} (hc : c < 24) : (useOf l).getD c false = decide (0 < cnt l c) := by
  simp [useOf, List.getD_eq_getElem?_getD, hc]
theorem useOf_nil : useOf [] = List.replicate 24 false := by
  have : (fun c => decide (0 < cnt [] c)) = fun _ => false := by funext c; simp [cnt]
  unfold useOf; rw [this]; rfl
theorem use_ext {u : List Bool} {l : List Span} (h : u.length = 24) (h2 : ∀ c, c < 24 → u.getD c false = decide (0 < cnt l c)) : u = useOf l := by
  apply List.ext_getElem?
  intro c
  by_cases hc : c < 24
  · have e1 : u[c]? = some (u.getD c false) := by simp [List.getD_eq_getElem?_getD, h, hc]
    have e2 : (useOf l)[c]? = some ((useOf l).getD c false) := by simp [List.getD_eq_getElem?_getD, useOf_len, hc]
    rw [e1, e2, h2 c hc, useOf_get l hc]
  · rw [List.getElem?_eq_none (by omega), List.getElem?_eq_none (by rw [useOf_len]; omega)]
theorem spanD_mem {l : List Span} {i : Nat} (h : i < l.length) : l.getD i (FT.zero .span) ∈ l := by
  rw [List.getD_eq_getElem?_getD, List.getElem?_eq_getElem h]; exact List.getElem_mem h
theorem cnt_take {l : List Span} {i : Nat} (h : i < l.length) (c : Nat) : cnt (l.take (i + 1)) c = cnt (l.take i) c + (if inS (l.getD i (FT.zero .span)) c then 1 else 0) := by
  have e : l[i]? = some (l.getD i (FT.zero .span)) := by simp [List.getD_eq_getElem?_getD, h]
  rw [List.take_add_one, e, cnt_app]
  show _ + cnt [l.getD i (FT.zero .span)] c = _
  rw [cnt_cons]
  simp [cnt]

def lb_impl_usedCells_0 : PC := .seq (.seq (.reg [.s (.mv 21 (.t 6)), .s (.fa 22 (.t 5) 0), .s (.load 23 false 1 (.t 22)), .s (.fa 24 (.t 5) 1), .s (.load 25 false 1 (.t 24)), .s (.bin 26 .add (.t 23) (.t 25)), .s (.bin 27 .lss (.t 21) (.t 26))]) (.cond (.t 27) (.skip) (.exit 2))) (.seq (.blk 3 (.reg [.s (.mv 30 (.t 3)), .s (.mv 31 (.t 6)), .s (.ia 32 .bool (.t 30) (.t 31)), .s (.store 1 (.t 32) (.k (.v (.c .tt))))])) (.reg [.s (.mv 28 (.t 6)), .s (.bin 29 .add (.t 28) (.k (.v (.c (.int .i64 1))))), .s (.mv 6 (.t 29))]))
def lb_impl_usedCells_1 : PC := .seq (.reg [.s (.bin 16 .lss (.t 15) (.t 14))]) (.seq (.cond (.t 16) (.skip) (.exit 0)) (.seq (.blk 1 (.seq (.reg [.s (.ia 17 .span (.t 13) (.t 15)), .s (.load 18 true 2 (.t 17)), .s (.alloc 5 [.int .i64 0, .int .i64 0]), .s (.store 2 (.t 5) (.t 18))]) (.seq (.reg [.s (.fa 19 (.t 5) 0), .s (.load 20 false 1 (.t 19)), .s (.mv 6 (.t 20))]) (.blk 2 (.loop [3, 5, 6, 13, 14, 15] lb_impl_usedCells_0))))) (.reg [.s (.bin 33 .add (.t 15) (.k (.v (.c (.int .i64 1))))), .s (.mv 15 (.t 33))])))
def pf_impl_usedCells : PF := ⟨[.t 2], .seq (.reg [.s (.box 1 (.t 0)), .s (.mv 2 (.k (.v (.c (.nils .bool)))))]) (.seq (.reg [.s (.mkS 7 .bool (.k (.v (.c (.int .i64 24))))), .s (.mv 3 (.t 7))]) (.seq (.seq (.reg [.s (.fa 8 (.t 1) 2), .s (.load 9 false 1 (.t 8)), .s (.fa 10 (.t 1) 3), .s (.load 11 false 1 (.t 10)), .s (.bsr 12 [(.t 9), (.t 11)]), .s (.call (some 13) 186 [(.t 12)]), .s (.len 14 false (.t 13)), .s (.mv 15 (.k (.v (.c (.int .i64 0)))))]) (.blk 0 (.loop [3, 13, 14, 15] lb_impl_usedCells_1))) (.seq (.reg [.s (.mv 34 (.t 3)), .s (.mv 2 (.t 34))]) (.ret))))⟩
def c_impl_usedCells : Fun := ⟨135, [], fun ts K => as1 ts fun t0 => arG pHeapT t0 fun t => chk (LHeap t 1048576 ∧ ∀ s ∈ t.live ++ t.waits, spanOk s = true) (K (tL true .bool (useOf (t.live ++ t.waits))) [])⟩
theorem run_impl_usedCells (t : Heap) (hpre : LHeap t 1048576 ∧ ∀ s ∈ t.live ++ t.waits, spanOk s = true) : runK [c_slices_Concat_Span] (t.live.length + t.waits.length + 30) [] pf_impl_usedCells [tG (t.tc false [])] fun r o => r = tL true .bool (useOf (t.live ++ t.waits)) ∧ o = [] := by
  obtain ⟨⟨⟨l1, l4⟩, l2, l3⟩, hsp⟩ := hpre
  conv => whnf
  repeat' (first | (refine sel_i (fun h => ?_) (fun h => ?_) <;> conv => whnf) | (refine chk_c ?_ ?_ <;> conv => whnf) | (refine And.intro ?_ rfl) | (refine And.intro ?_ ?_ <;> conv => whnf))
  all_goals first
    | (refine ⟨?_⟩; exact ⟨l2, l3⟩)
    | (refine ⟨?_⟩; exact (show (0 : Int) ≤ 24 ∧ (24 : Int) ≤ 2147483647 by decide))
    | skip
  obtain ⟨all, hall⟩ : ∃ a : List Span, a = t.live ++ t.waits := ⟨_, rfl⟩
  have hlen : all.length = t.live.length + t.waits.length := by rw [hall, List.length_append]
  rw [show (t.live, t.waits).1 ++ (t.live, t.waits).2 = all from hall.symm]
  rw [← hall] at hsp
  try rw [← hall]
  refine loop (α := Nat × List Bool) (fun q => ⟨[(3, .v (.c (.sl true .bool 0))), (13, .v (.c (.sl false .span 1))), (14, .v (.c (.int .i64 (all.length : Int)))), (15, .v (.c (.int .i64 (q.1 : Int))))],
        [(1, some (.flat true .span none all)), (0, some (.flat true .bool none q.2))], nums.tail.tail, [], false, []⟩)
      (fun q => q.1 ≤ all.length ∧ q.2 = useOf (all.take q.1)) (fun q => all.length - q.1) (fun q R hI hR => ?_) (0, List.replicate 24 false) _ ⟨Nat.zero_le _, by rw [List.take_zero, useOf_nil]⟩ (by show all.length - 0 < _; omega)
  obtain ⟨i, u⟩ := q
  obtain ⟨hi, hu⟩ := hI
  dsimp only at hi hu ⊢
  have hul : u.length = 24 := by rw [hu, useOf_len]
  conv => whnf
  refine sel_i (fun h => ?_) (fun h => ?_)
  · have hlt : i < all.length := by have h := of_decide_eq_true h; omega
    clear h
    have hs := hsp _ (spanD_mem hlt)
    have hct := cnt_take hlt
    have hin := inS_nat hs
    have hge : all.getD i (FT.zero .span) = all.getD i (FT.zero .span) := rfl
    have ho : (0 ≤ (all.getD i (FT.zero .span)).at_ ∧ (all.getD i (FT.zero .span)).at_ ≤ 23) ∧ 1 ≤ (all.getD i (FT.zero .span)).len ∧ (all.getD i (FT.zero .span)).len ≤ 24 - (all.getD i (FT.zero .span)).at_ := by
      have := hs
      simp only [spanOk, Bool.and_eq_true, inR_t] at this
      exact this
    conv => whnf
    repeat' (first | (refine sel_i (fun h => ?_) (fun h => ?_) <;> conv => whnf) | (refine chk_c ?_ ?_ <;> conv => whnf) | (refine And.intro ?_ rfl) | (refine And.intro ?_ ?_ <;> conv => whnf))
    all_goals (try simp only [Int.toNat_natCast] at *)
    all_goals generalize hsd : all.getD i (FT.zero .span) = s at *
    all_goals try (refine ⟨?_⟩; omega)
    obtain ⟨sa, sl⟩ := s
    dsimp only at ho hin hct ⊢
    obtain ⟨a, rfl⟩ := Int.eq_ofNat_of_zero_le ho.1.1
    obtain ⟨m, rfl⟩ := Int.eq_ofNat_of_zero_le (show 0 ≤ sl by omega)
    simp only [Int.toNat_natCast] at hin
    have w1 : IntKind.i64.wrap ((a : Int) + (m : Int)) = (a : Int) + (m : Int) := wrap_id (by omega) (by omega)
    refine loop (α := Nat × List Bool) (fun q => ⟨[(3, .v (.c (.sl true .bool 0))), (5, .v (.c (.ptr 1 0))), (6, .v (.c (.int .i64 (q.1 : Int)))), (13, .v (.c (.sl false .span 2))), (14, .v (.c (.int .i64 (all.length : Int)))), (15, .v (.c (.int .i64 (i : Int))))],
          [(2, some (.flat true .span none all)), (1, some (.box true [.int .i64 (a : Int), .int .i64 (m : Int)])), (0, some (.flat true .bool none q.2))], nums.tail.tail.tail, [], false, []⟩)
        (fun q => (a ≤ q.1 ∧ q.1 ≤ a + m) ∧ q.2.length = 24 ∧ ∀ c, c < 24 → q.2.getD c false = decide (0 < cnt (all.take i) c ∨ (a ≤ c ∧ c < q.1))) (fun q => a + m - q.1) (fun q R2 hI2 hR2 => ?_) (a, u) _
        ⟨⟨Nat.le_refl _, Nat.le_add_right _ _⟩, hul, fun c hc => by rw [hu, useOf_get _ hc]; exact decide_eq_decide.2 ⟨.inl, fun h => h.elim id (fun h => absurd h.2 (by dsimp only; omega))⟩⟩ (by show a + m - a < t.live.length + t.waits.length + 30; omega)
    obtain ⟨n, v⟩ := q
    obtain ⟨⟨gn1, gn2⟩, gl, gv⟩ := hI2
    dsimp only at gn1 gn2 gl gv ⊢
    conv => whnf
    rw [w1]
    refine sel_i (fun h => ?_) (fun h => ?_)
    · have hn : n < a + m := by have h := of_decide_eq_true h; omega
      clear h
      conv => whnf
      repeat' (first | (refine sel_i (fun h => ?_) (fun h => ?_) <;> conv => whnf) | (refine chk_c ?_ ?_ <;> conv => whnf) | (refine And.intro ?_ rfl) | (refine And.intro ?_ ?_ <;> conv => whnf))
      all_goals (try simp only [Int.toNat_natCast] at *)
      all_goals first
        | (refine ⟨?_⟩; omega)
        | skip
      rw [wrap_id (n := (n : Int) + 1) (by omega) (by omega)]
      refine hR2 (n + 1, v.set n true) ⟨⟨by dsimp only; omega, by dsimp only; omega⟩, by simpa using gl, fun c hc => ?_⟩ (by dsimp only; omega)
      dsimp only
      by_cases e : n = c
      · subst e
        simp only [List.getD_eq_getElem?_getD, List.getElem?_set, if_true]
        rw [if_pos (by omega)]
        simp; right; omega
      · have : (v.set n true).getD c false = v.getD c false := by simp only [List.getD_eq_getElem?_getD, List.getElem?_set, if_neg e]
        rw [this, gv c hc]
        exact decide_eq_decide.2 ⟨fun h => h.imp id (fun h => ⟨h.1, by omega⟩), fun h => h.imp id (fun h => ⟨h.1, by omega⟩)⟩
    · have hn : n = a + m := by have h := of_decide_eq_false h; omega
      conv => whnf
      rw [wrap_id (n := (i : Int) + 1) (by omega) (by omega)]
      refine hR (i + 1, v) ⟨hlt, use_ext gl fun c hc => ?_⟩ (by dsimp only; omega)
      dsimp only
      rw [gv c hc, hct c, hin c]
      apply decide_eq_decide.2
      simp only [Bool.and_eq_true, decide_eq_true_eq]
      split <;> omega
  · have e : i = all.length := by have h := of_decide_eq_false h; omega
    subst e
    conv => whnf
    rw [hu, List.take_length]
    exact ⟨rfl, rfl⟩
theorem ok_impl_usedCells : FunOk Try.prog c_impl_usedCells := funOk (E := [c_slices_Concat_Span]) (envOk_cons ok_slices_Concat_Span (envOk_nil)) mixd Try.func135 (pf := pf_impl_usedCells) (by kernel_rfl) fun ts K h => by
  obtain ⟨t0, e0, h⟩ := as1_out h
  subst e0
  obtain ⟨t, e1, hq⟩ := arG_out rd_heap h
  clear h
  subst e1
  have h := hq
  clear hq
  obtain ⟨hpre, h⟩ := chk_o h
  exact ⟨_, _, h, Nat.le_of_ble_eq_true (show Nat.ble 1 Try.f135.ntmps = true by kernel_rfl), _, run_impl_usedCells t hpre⟩

def freeN (t : Heap) : Int := if heapOk t then (((List.range 24).countP (fun c => cnt (t.live ++ t.waits) c == 0) : Nat) : Int) else 0
theorem heapOk_spans {t : Heap} (h : heapOk t = true) : ∀ s ∈ t.live ++ t.waits, spanOk s = true := fun s hs => by
  simp only [heapOk, Bool.and_eq_true] at h
  rcases List.mem_append.1 hs with q | q
  · exact spansOk_mem h.1.1.2 s q
  · exact spansOk_mem h.1.2 s q
theorem countP_range {p : Nat → Bool} {i : Nat} : (List.range (i + 1)).countP p = (List.range i).countP p + (if p i then 1 else 0) := by
  rw [List.range_succ, List.countP_append]; simp [List.countP_cons]

def lb_impl_FreeCells_0 : PC := .seq (.reg [.s (.bin 13 .lss (.t 12) (.t 11))]) (.seq (.cond (.t 13) (.skip) (.exit 0)) (.seq (.blk 1 (.seq (.reg [.s (.ia 14 .bool (.t 10) (.t 12)), .s (.load 15 false 1 (.t 14)), .s (.mv 5 (.t 15))]) (.seq (.reg [.s (.mv 16 (.t 5)), .s (.bnot 17 (.t 16))]) (.cond (.t 17) (.reg [.s (.mv 18 (.t 3)), .s (.bin 19 .add (.t 18) (.k (.v (.c (.int .i64 1))))), .s (.mv 3 (.t 19))]) (.skip))))) (.reg [.s (.bin 20 .add (.t 12) (.k (.v (.c (.int .i64 1))))), .s (.mv 12 (.t 20))])))
def pf_impl_FreeCells : PF := ⟨[.t 2], .seq (.reg [.s (.box 1 (.t 0)), .s (.mv 2 (.k (.v (.c (.int .i64 0)))))]) (.seq (.seq (.reg [.s (.load 6 true 4 (.t 1)), .s (.call (some 7) 74 [(.t 6)]), .s (.bnot 8 (.t 7))]) (.cond (.t 8) (.seq (.reg [.s (.mv 2 (.k (.v (.c (.int .i64 0)))))]) (.ret)) (.skip))) (.seq (.reg [.s (.mv 3 (.k (.v (.c (.int .i64 0)))))]) (.seq (.seq (.reg [.s (.load 9 true 4 (.t 1)), .s (.call (some 10) 135 [(.t 9)]), .s (.len 11 false (.t 10)), .s (.mv 12 (.k (.v (.c (.int .i64 0)))))]) (.blk 0 (.loop [3, 10, 11, 12] lb_impl_FreeCells_0))) (.seq (.reg [.s (.mv 21 (.t 3)), .s (.mv 2 (.t 21))]) (.ret)))))⟩
def c_impl_FreeCells : Fun := ⟨64, [], fun ts K => as1 ts fun t0 => arG pHeapT t0 fun t => chk (LHeap t 1048576) (K (tN (freeN t)) [])⟩
theorem run_impl_FreeCells (t : Heap) (hpre : LHeap t 1048576) : runK [c_impl_HeapOk, c_impl_usedCells] (30) [] pf_impl_FreeCells [tG (t.tc false [])] fun r o => r = tN (freeN t) ∧ o = [] := by
  conv => whnf
  repeat' (first | (refine sel_i (fun h => ?_) (fun h => ?_) <;> conv => whnf) | (refine chk_c ?_ ?_ <;> conv => whnf) | (refine And.intro ?_ rfl) | (refine And.intro ?_ ?_ <;> conv => whnf))
  all_goals (try simp only [etaMemory, etaHeap, Bool.not_eq_true', Bool.not_eq_false'] at *)
  all_goals first
    | (refine ⟨?_⟩; exact hpre)
    | (refine ⟨?_⟩; exact ⟨hpre, heapOk_spans (by assumption)⟩)
    | (unfold freeN; rw [show heapOk t = false by assumption]; rfl)
    | skip
  have hok : heapOk t = true := by assumption
  have hr : freeN t = (((List.range 24).countP (fun c => cnt (t.live ++ t.waits) c == 0) : Nat) : Int) := by unfold freeN; rw [hok]; rfl
  rw [hr]
  clear hr h
  have hul := useOf_len (t.live ++ t.waits)
  have hug := fun c (hc : c < 24) => useOf_get (t.live ++ t.waits) hc
  generalize useOf (t.live ++ t.waits) = U at *
  generalize t.live ++ t.waits = all at *
  refine loop (α := Nat) (fun i => ⟨[(3, .v (.c (.int .i64 (((List.range i).countP (fun c => cnt all c == 0) : Nat) : Int)))), (10, .v (.c (.sl false .bool 0))), (11, .v (.c (.int .i64 (U.length : Int)))), (12, .v (.c (.int .i64 (i : Int))))],
        [(0, some (.flat true .bool none U))], nums.tail, [], false, []⟩)
      (fun i => i ≤ 24) (fun i => 24 - i) (fun i R hI hR => ?_) 0 _ (Nat.zero_le _) (by show 24 - 0 < 30; omega)
  have hcl := List.countP_le_length (p := fun c => cnt all c == 0) (l := List.range i)
  rw [List.length_range] at hcl
  conv => whnf
  repeat' (first | (refine sel_i (fun h => ?_) (fun h => ?_) <;> conv => whnf) | (refine chk_c ?_ ?_ <;> conv => whnf) | (refine And.intro ?_ rfl) | (refine And.intro ?_ ?_ <;> conv => whnf))
  all_goals (try simp only [Int.toNat_natCast, Bool.not_eq_true', Bool.not_eq_false', decide_eq_true_eq, decide_eq_false_iff_not] at *)
  all_goals first
    | (refine ⟨?_⟩; omega)
    | (have hg := hug i (by omega)
       have h0 : U.getD i false = false := h
       rw [h0] at hg
       have hz : cnt all i = 0 := by have := of_decide_eq_false hg.symm; omega
       have hc : (List.range (i + 1)).countP (fun c => cnt all c == 0) = (List.range i).countP (fun c => cnt all c == 0) + 1 := by rw [countP_range, if_pos (by rw [hz]; rfl)]
       have hR2 := hR (i + 1) (by omega) (by omega)
       rw [hc] at hR2
       rw [wrap_id (n := (i : Int) + 1) (by omega) (by omega), wrap_id (by omega) (by omega)]
       exact hR2)
    | (have hg := hug i (by omega)
       have h0 : U.getD i false = true := h
       rw [h0] at hg
       have hz : 0 < cnt all i := of_decide_eq_true hg.symm
       have hc : (List.range (i + 1)).countP (fun c => cnt all c == 0) = (List.range i).countP (fun c => cnt all c == 0) := by rw [countP_range, if_neg (by simp; omega), Nat.add_zero]
       have hR2 := hR (i + 1) (by omega) (by omega)
       rw [hc] at hR2
       rw [wrap_id (n := (i : Int) + 1) (by omega) (by omega)]
       exact hR2)
    | (rw [show i = 24 by omega]; rfl)
    | (rw [show i = 24 by omega]; done)
    | trace_state
theorem ok_impl_FreeCells : FunOk Try.prog c_impl_FreeCells := funOk (E := [c_impl_HeapOk, c_impl_usedCells]) (envOk_cons ok_impl_HeapOk (envOk_cons ok_impl_usedCells (envOk_nil))) mixd Try.func64 (pf := pf_impl_FreeCells) (by kernel_rfl) fun ts K h => by
  obtain ⟨t0, e0, h⟩ := as1_out h
  subst e0
  obtain ⟨t, e1, hq⟩ := arG_out rd_heap h
  clear h
  subst e1
  have h := hq
  clear hq
  obtain ⟨hpre, h⟩ := chk_o h
  exact ⟨_, _, h, Nat.le_of_ble_eq_true (show Nat.ble 1 Try.f64.ntmps = true by kernel_rfl), _, run_impl_FreeCells t hpre⟩

def lb_spec_FreeCells_0 : PC := .seq (.seq (.reg [.s (.mv 8 (.t 5)), .s (.bin 9 .lss (.t 8) (.k (.v (.c (.int .i64 24))))), .s (.mv 10 (.t 9)), .g 10 true (some 11) (.load 11 true 4 (.t 1)), .g 10 true (some 12) (.call (some 12) 132 [(.t 11)]), .s (.pick 13 (.t 10) (.t 12) (.k (.v (.c .ff))))]) (.cond (.t 13) (.skip) (.exit 0))) (.seq (.blk 1 (.seq (.reg [.s (.mv 16 (.t 4)), .s (.mv 17 (.t 5)), .s (.ia 18 (.int .i64) (.t 16) (.t 17)), .s (.load 19 false 1 (.t 18)), .s (.bin 20 .eql (.t 19) (.k (.v (.c (.int .i64 0)))))]) (.cond (.t 20) (.reg [.s (.mv 21 (.t 3)), .s (.bin 22 .add (.t 21) (.k (.v (.c (.int .i64 1))))), .s (.mv 3 (.t 22))]) (.skip)))) (.reg [.s (.mv 14 (.t 5)), .s (.bin 15 .add (.t 14) (.k (.v (.c (.int .i64 1))))), .s (.mv 5 (.t 15))]))
def pf_spec_FreeCells : PF := ⟨[.t 2], .seq (.reg [.s (.box 1 (.t 0)), .s (.mv 2 (.k (.v (.c (.int .i64 0)))))]) (.seq (.reg [.s (.mv 3 (.k (.v (.c (.int .i64 0)))))]) (.seq (.reg [.s (.load 6 true 4 (.t 1)), .s (.call (some 7) 131 [(.t 6)]), .s (.mv 4 (.t 7))]) (.seq (.seq (.reg [.s (.mv 5 (.k (.v (.c (.int .i64 0)))))]) (.blk 0 (.loop [1, 3, 4, 5] lb_spec_FreeCells_0))) (.seq (.reg [.s (.mv 23 (.t 3)), .s (.mv 2 (.t 23))]) (.ret)))))⟩
def c_spec_FreeCells : Fun := ⟨62, [], fun ts K => as1 ts fun t0 => arG pHeapT t0 fun t => chk (LHeap t 1048576) (K (tN (freeN t)) [])⟩
theorem run_spec_FreeCells (t : Heap) (hpre : LHeap t 1048576) : runK [c_spec_l23Owners, c_spec_HeapOk] (30) [] pf_spec_FreeCells [tG (t.tc false [])] fun r o => r = tN (freeN t) ∧ o = [] := by
  have l2 := hpre.2.1
  have l3 := hpre.2.2
  conv => whnf
  repeat' (first | (refine sel_i (fun h => ?_) (fun h => ?_) <;> conv => whnf) | (refine chk_c ?_ ?_ <;> conv => whnf) | (refine And.intro ?_ rfl) | (refine And.intro ?_ ?_ <;> conv => whnf))
  all_goals (try simp only [etaMemory, etaHeap, Bool.not_eq_true', Bool.not_eq_false'] at *)
  all_goals first
    | (refine ⟨?_⟩; exact hpre)
    | skip
  have how := owners_len (t.live ++ t.waits)
  have hos : heapOk t = true → ∀ j, j < 24 → (owners (t.live ++ t.waits)).getD j 0 = (cnt (t.live ++ t.waits) j : Int) := fun hk j hj => owners_spec (heapOk_spans hk) (by rw [List.length_append]; omega) hj
  generalize owners (t.live ++ t.waits) = ow at *
  refine loop (α := Nat) (fun i => ⟨[(1, .v (.c (.ptr 0 0))), (3, .v (.c (.int .i64 (((List.range i).countP (fun c => cnt (t.live ++ t.waits) c == 0) : Nat) : Int)))), (4, .v (.c (.sl false (.int .i64) 5))), (5, .v (.c (.int .i64 (i : Int))))],
        [(5, some (.flat true (.int .i64) none ow)), (4, some (.flat false .span none t.waits)), (3, some (.flat false .span none t.live)), (2, some (.flat false .bool none t.mem.gone)), (1, some (.flat false .word none t.mem.words)), (0, some (.box true [.sl false .word 1, .sl false .bool 2, .sl false .span 3, .sl false .span 4]))], nums.tail.tail.tail.tail.tail.tail, [], false, []⟩)
      (fun i => i ≤ 24 ∧ (heapOk t = false → i = 0)) (fun i => 24 - i) (fun i R hI hR => ?_) 0 _ ⟨Nat.zero_le _, fun _ => rfl⟩ (by show 24 - 0 < 30; omega)
  obtain ⟨hI, hi0⟩ := hI
  have hcl := List.countP_le_length (p := fun c => cnt (t.live ++ t.waits) c == 0) (l := List.range i)
  rw [List.length_range] at hcl
  conv => whnf
  repeat' (first | (refine sel_i (fun h => ?_) (fun h => ?_) <;> conv => whnf) | (refine chk_c ?_ ?_ <;> conv => whnf) | (refine And.intro ?_ rfl) | (refine And.intro ?_ ?_ <;> conv => whnf))
  all_goals (try simp only [etaMemory, etaHeap, Int.toNat_natCast, Bool.not_eq_true', Bool.not_eq_false', beq_iff_eq, beq_eq_false_iff_ne, decide_eq_true_eq, decide_eq_false_iff_not] at *)
  all_goals first
    | (refine ⟨?_⟩; exact hpre)
    | (refine ⟨?_⟩; omega)
    | (have hg := hos (by assumption) i (by omega)
       have h0 : ow.getD i 0 = 0 := h
       have hz : cnt (t.live ++ t.waits) i = 0 := by omega
       have hc : (List.range (i + 1)).countP (fun c => cnt (t.live ++ t.waits) c == 0) = (List.range i).countP (fun c => cnt (t.live ++ t.waits) c == 0) + 1 := by rw [countP_range, if_pos (by rw [hz]; rfl)]
       have hR2 := hR (i + 1) ⟨by omega, fun e => by rw [show heapOk t = true by assumption] at e; cases e⟩ (by omega)
       rw [hc] at hR2
       rw [wrap_id (n := (i : Int) + 1) (by omega) (by omega), wrap_id (by omega) (by omega)]
       exact hR2)
    | (have hg := hos (by assumption) i (by omega)
       have h0 : ¬ ow.getD i 0 = 0 := h
       have hz : ¬ cnt (t.live ++ t.waits) i = 0 := by omega
       have hc : (List.range (i + 1)).countP (fun c => cnt (t.live ++ t.waits) c == 0) = (List.range i).countP (fun c => cnt (t.live ++ t.waits) c == 0) := by rw [countP_range, if_neg (by simpa using hz), Nat.add_zero]
       have hR2 := hR (i + 1) ⟨by omega, fun e => by rw [show heapOk t = true by assumption] at e; cases e⟩ (by omega)
       rw [hc] at hR2
       rw [wrap_id (n := (i : Int) + 1) (by omega) (by omega)]
       exact hR2)
    | (have hf : heapOk t = false := by assumption
       have := hi0 hf
       subst this
       unfold freeN; rw [hf]; rfl)
    | (have e : i = 24 := by omega
       subst e
       have hk : heapOk t = true := by cases hh : heapOk t with | true => rfl | false => exact absurd (hi0 hh) (by decide)
       unfold freeN; rw [hk]; try rfl)
    | trace_state
theorem ok_spec_FreeCells : FunOk Try.prog c_spec_FreeCells := funOk (E := [c_spec_l23Owners, c_spec_HeapOk]) (envOk_cons ok_spec_l23Owners (envOk_cons ok_spec_HeapOk (envOk_nil))) mixd Try.func62 (pf := pf_spec_FreeCells) (by kernel_rfl) fun ts K h => by
  obtain ⟨t0, e0, h⟩ := as1_out h
  subst e0
  obtain ⟨t, e1, hq⟩ := arG_out rd_heap h
  clear h
  subst e1
  have h := hq
  clear hq
  obtain ⟨hpre, h⟩ := chk_o h
  exact ⟨_, _, h, Nat.le_of_ble_eq_true (show Nat.ble 1 Try.f62.ntmps = true by kernel_rfl), _, run_spec_FreeCells t hpre⟩
end Go.Pi
