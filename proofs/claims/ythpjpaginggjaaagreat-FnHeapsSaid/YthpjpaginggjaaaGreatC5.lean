/- Contracts of functions, each out of its run by PI. No conditions. -/
import Derived.Test.YthpjpaginggjaaaGreatC4
namespace Go.Pi
open Go.Proofs
set_option linter.unusedVariables false
set_option linter.unusedSimpArgs false
set_option maxRecDepth 100000
attribute [local irreducible] iterN
theorem win_any {l : List Span} {n a : Nat} (h : a + n ≤ 24) : (win (useOf l) a n).any (fun x => true == x) = !freeAt l n a := by
  have mem : ∀ j, j < n → (win (useOf l) a n)[j]? = some (decide (0 < cnt l (a + j))) := fun j hj => by
    unfold win
    rw [List.getElem?_take_of_lt hj, List.getElem?_drop]
    have := useOf_get l (c := a + j) (by omega)
    rw [List.getD_eq_getElem?_getD, List.getElem?_eq_getElem (by rw [useOf_len]; omega)] at this
    rw [List.getElem?_eq_getElem (by rw [useOf_len]; omega)]
    exact congrArg some this
  cases hf : freeAt l n a with
  | true =>
    rw [Bool.not_true, List.any_eq_false]
    intro x hx
    obtain ⟨j, hj⟩ := List.mem_iff_getElem?.1 hx
    have hjn : j < n := by
      have := (List.getElem?_eq_some_iff.1 hj).1
      unfold win at this
      rw [List.length_take] at this
      omega
    rw [mem j hjn] at hj
    have h0 := freeAt_t.1 hf (a + j) (by omega) (by omega)
    rw [h0] at hj
    cases hj
    simp
  | false =>
    rw [Bool.not_false]
    cases ha : (win (useOf l) a n).any (fun x => true == x) with
    | true => rfl
    | false =>
      exfalso
      have : freeAt l n a = true := freeAt_t.2 fun j h1 h2 => by
        by_cases h0 : cnt l j = 0
        · exact h0
        · exfalso
          have hm := mem (j - a) (by omega)
          rw [show a + (j - a) = j by omega, decide_eq_true (show 0 < cnt l j by omega)] at hm
          exact absurd (List.any_eq_false.1 ha true (List.mem_of_getElem? hm)) (by simp)
      rw [hf] at this
      cases this

def lb_impl_Grant_0 : PC := .seq (.seq (.reg [.s (.mv 24 (.t 9)), .s (.mv 25 (.t 1)), .s (.bin 26 .add (.t 24) (.t 25)), .s (.bin 27 .leq (.t 26) (.k (.v (.c (.int .i64 24)))))]) (.cond (.t 27) (.skip) (.exit 0))) (.seq (.blk 1 (.seq (.seq (.reg [.s (.mv 30 (.t 8)), .s (.mv 31 (.t 9)), .s (.mv 32 (.t 9)), .s (.mv 33 (.t 1)), .s (.bin 34 .add (.t 32) (.t 33)), .s (.slc 35 .bool (.t 30) (some (.t 31)) (some (.t 34))), .s (.call (some 36) 30 [(.t 35), (.k (.v (.c .tt)))])]) (.cond (.t 36) (.exit 1) (.skip))) (.seq (.reg [.s (.fa 37 (.t 7) 2), .s (.load 38 false 1 (.t 37)), .s (.mv 39 (.t 9)), .s (.mv 40 (.t 1)), .s (.build 41 [.int .i64 0, .int .i64 0] [(0, 1, (.t 39)), (1, 1, (.t 40))]), .s (.call (some 42) 31 [(.t 38), (.t 41)]), .s (.fa 43 (.t 7) 2), .s (.store 1 (.t 43) (.t 42))]) (.seq (.rgd [] [.s (.load 44 true 4 (.t 7)), .s (.mv 45 (.t 9)), .s (.mv 46 (.t 9)), .s (.mv 47 (.t 1)), .s (.bin 48 .add (.t 46) (.t 47)), .s (.build 49 [.int .i64 0, .int .i64 0, .int .i64 0, .int .i64 0] [(0, 1, (.t 45)), (1, 1, (.t 48)), (2, 1, (.k (.v (.c (.int .i64 27)))))]), .s (.call (some 50) 32 [(.t 49), (.k (.v (.c (.int .i64 0))))]), .s (.store 4 (.t 4) (.t 44)), .s (.store 6 (.t 5) (.t 50)), .s (.mv 6 (.k (.v (.c .tt))))] (.tk 0 (.tk 1 (.tk 2 (.tk 3 (.tk 4 (.tk 5 (.one 6 false (.one 7 true (.one 8 true (.tk 9 (.done none)))))))))))) (.ret))))) (.reg [.s (.mv 28 (.t 9)), .s (.bin 29 .add (.t 28) (.k (.v (.c (.int .i64 1))))), .s (.mv 9 (.t 29))]))
def pf_impl_Grant : PF := ⟨[.c 4 true 4, .c 5 true 6, .t 6], .seq (.reg [.s (.box 2 (.t 0)), .s (.alloc 4 [.nils .word, .nils .bool, .nils .span, .nils .span]), .s (.alloc 5 [.int .i64 0, .ff, .int .i64 0, .int .i64 0, .int .i64 0, .int .i64 0]), .s (.mv 6 (.k (.v (.c .ff))))]) (.seq (.reg [.s (.load 10 true 4 (.t 2)), .s (.call (some 11) 27 [(.t 10)]), .s (.alloc 7 [.nils .word, .nils .bool, .nils .span, .nils .span]), .s (.store 4 (.t 7) (.t 11))]) (.seq (.seq (.reg [.s (.load 12 true 4 (.t 2)), .s (.call (some 13) 18 [(.t 12)]), .s (.bnot 14 (.t 13)), .s (.mv 15 (.t 14)), .g 15 false (some 16) (.mv 16 (.t 1)), .g 15 false (some 17) (.call (some 17) 28 [(.t 16), (.k (.v (.c (.int .i64 1)))), (.k (.v (.c (.int .i64 24))))]), .g 15 false (some 18) (.bnot 18 (.t 17)), .s (.pick 19 (.t 15) (.k (.v (.c .tt))) (.t 18))]) (.cond (.t 19) (.seq (.reg [.s (.load 20 true 4 (.t 7)), .s (.build 21 [.int .i64 0, .ff, .int .i64 0, .int .i64 0, .int .i64 0, .int .i64 0] []), .s (.store 4 (.t 4) (.t 20)), .s (.store 6 (.t 5) (.t 21)), .s (.mv 6 (.k (.v (.c .ff))))]) (.ret)) (.skip))) (.seq (.reg [.s (.load 22 true 4 (.t 2)), .s (.call (some 23) 29 [(.t 22)]), .s (.mv 8 (.t 23))]) (.seq (.seq (.reg [.s (.mv 9 (.k (.v (.c (.int .i64 0)))))]) (.blk 0 (.loop [1, 4, 5, 7, 8, 9] lb_impl_Grant_0))) (.seq (.reg [.s (.load 51 true 4 (.t 7)), .s (.build 52 [.int .i64 0, .ff, .int .i64 0, .int .i64 0, .int .i64 0, .int .i64 0] []), .s (.store 4 (.t 4) (.t 51)), .s (.store 6 (.t 5) (.t 52)), .s (.mv 6 (.k (.v (.c .ff))))]) (.ret))))))⟩
def c_impl_Grant : Fun := ⟨6, [], fun ts K => as2 ts fun t0 t1 => arG pHeapT t0 fun t => arC (pI .i64) t1 fun n => chk (LHeap t 1048576) (K (grantT (grant t n)) [])⟩
theorem run_impl_Grant (t : Heap) (n : Int) (hpre : LHeap t 1048576) : runK [c_impl_HeapOk, c_impl_cloneHeap, c_impl_in, c_impl_usedCells, c_slices_Contains_bool, c_impl_placed, c_impl_KeyWord] (30) [] pf_impl_Grant [tG (t.tc false []), tI .i64 n] fun r o => r = grantT (grant t n) ∧ o = [] := by
  have l2 := hpre.2.1
  have l3 := hpre.2.2
  conv => whnf
  repeat' (first | (refine sel_i (fun h => ?_) (fun h => ?_) <;> conv => whnf) | (refine chk_c ?_ ?_ <;> conv => whnf) | (refine And.intro ?_ rfl) | (refine And.intro ?_ ?_ <;> conv => whnf))
  all_goals (try simp only [etaMemory, etaHeap, Bool.not_eq_true', Bool.not_eq_false'] at *)
  all_goals first
    | (refine ⟨?_⟩; exact hpre)
    | (refine ⟨?_⟩; exact hpre.mono (by decide))
    | (refine ⟨?_⟩; exact ⟨hpre, heapOk_spans (by assumption)⟩)
    | (rw [grant_no (by simp [*])]; rfl)
    | skip
  have hk : heapOk t = true := by assumption
  have hn1 := inR_t.1 h
  obtain ⟨N, rfl⟩ := Int.eq_ofNat_of_zero_le (show 0 ≤ n by omega)
  have hg : (heapOk t && inR (N : Int) 1 24) = true := by rw [hk, h]; rfl
  have hl24 := heapOk_len hk
  have hl25 : t.live.length ≤ 24 := hl24.2.1
  have hul := useOf_len (t.live ++ t.waits)
  have hwa := fun a (h1 : a + N ≤ 24) => win_any (l := t.live ++ t.waits) (n := N) (a := a) h1
  have hfs := fun a (h1 : a + N ≤ 24) h2 h3 => grant_some (h := t) (n := (N : Int)) (a := a) hg (first_some (n := N) h1 h2 h3)
  have hfn := fun h2 => grant_none (h := t) (n := (N : Int)) hg (first_none (n := N) h2)
  have hnew : ∀ a, freeAt (t.live ++ t.waits) N a = true → ∀ s ∈ t.live, s.at_ ≠ (a : Int) := fun a ha s hs => free_new ha (by omega) s (List.mem_append_left _ hs) (heapOk_spans hk s (List.mem_append_left _ hs))
  clear h
  generalize useOf (t.live ++ t.waits) = U at *
  generalize t.live ++ t.waits = all at *
  refine loop (α := Nat) (fun a => ⟨[(1, .v (.c (.int .i64 (N : Int)))), (4, .v (.c (.ptr 0 0))), (5, .v (.c (.ptr 1 0))), (7, .v (.c (.ptr 2 0))), (8, .v (.c (.sl false .bool 7))), (9, .v (.c (.int .i64 (a : Int))))],
        [(7, some (.flat true .bool none U)), (6, some (.flat true .span none t.waits)), (5, some (.flat true .span none t.live)), (4, some (.flat true .bool none t.mem.gone)), (3, some (.flat true .word none t.mem.words)), (2, some (.box true [.sl false .word 3, .sl false .bool 4, .sl false .span 5, .sl false .span 6])), (1, some (.box true [.int .i64 0, .ff, .int .i64 0, .int .i64 0, .int .i64 0, .int .i64 0])), (0, some (.box true [.nils .word, .nils .bool, .nils .span, .nils .span]))], nums.tail.tail.tail.tail.tail.tail.tail.tail, [], false, []⟩)
      (fun a => a ≤ 24 ∧ ∀ b, b < a → b + N ≤ 24 → freeAt all N b = false) (fun a => 24 - a) (fun a R hI hR => ?_) 0 _ ⟨Nat.zero_le _, fun b hb => absurd hb (Nat.not_lt_zero _)⟩ (by show 24 - 0 < 30; omega)
  obtain ⟨i1, i2⟩ := hI
  have w1 : IntKind.i64.wrap ((a : Int) + (N : Int)) = (a : Int) + (N : Int) := wrap_id (by omega) (by omega)
  have w2 : IntKind.i64.wrap ((a : Int) + 1) = ((a + 1 : Nat) : Int) := by rw [wrap_id (by omega) (by omega)]; rfl
  have w3 : ((a : Int) + (N : Int) - (a : Int)).toNat = N := by omega
  conv => whnf
  rw [w1]
  refine sel_i (fun h => ?_) (fun h => ?_)
  · have hle : a + N ≤ 24 := by have h := of_decide_eq_true h; omega
    clear h
    have hwb := hwa a hle
    conv => whnf
    repeat' (first | (refine sel_i (fun h => ?_) (fun h => ?_) <;> conv => whnf) | (refine chk_c ?_ ?_ <;> conv => whnf) | (refine And.intro ?_ rfl) | (refine And.intro ?_ ?_ <;> conv => whnf))
    all_goals (try simp only [w1, w2, w3, Nat.zero_add, Int.toNat_natCast, etaMemory, etaHeap] at *)
    · refine ⟨?_⟩; omega
    · refine ⟨?_⟩; unfold win; rw [List.length_take]; omega
    · rw [h] at hwb
      have hf : freeAt all N a = false := by simpa using hwb.symm
      exact hR (a + 1) ⟨by omega, fun b hb hbn => by
        by_cases e : b = a
        · rw [e]; exact hf
        · exact i2 b (by omega) hbn⟩ (by omega)
    · rw [h] at hwb
      have hf : freeAt all N a = true := by simpa using hwb.symm
      exact ⟨⟨by omega, hnew a hf⟩⟩
    · rw [h] at hwb
      have hf : freeAt all N a = true := by simpa using hwb.symm
      rw [hfs a hle hf (fun b hb => i2 b hb (by omega))]
      rfl
  · have hle : ¬ a + N ≤ 24 := by have h := of_decide_eq_false h; omega
    conv => whnf
    rw [hfn (fun b hb => i2 b (by omega) hb)]
    exact ⟨rfl, rfl⟩
theorem ok_impl_Grant : FunOk Tryz.prog c_impl_Grant := funOk (E := [c_impl_HeapOk, c_impl_cloneHeap, c_impl_in, c_impl_usedCells, c_slices_Contains_bool, c_impl_placed, c_impl_KeyWord]) (envOk_cons ok_impl_HeapOk (envOk_cons ok_impl_cloneHeap (envOk_cons ok_impl_in (envOk_cons ok_impl_usedCells (envOk_cons ok_slices_Contains_bool (envOk_cons ok_impl_placed (envOk_cons ok_impl_KeyWord (envOk_nil)))))))) mixd Tryz.func6 (pf := pf_impl_Grant) (by kernel_rfl) fun ts K h => by
  obtain ⟨t0, t1, e0, h⟩ := as2_out h
  subst e0
  obtain ⟨t, e1, hq⟩ := arG_out rd_heap h
  clear h
  subst e1
  have h := hq
  clear hq
  obtain ⟨n, e1, hq⟩ := arC_out (rd_int .i64) h
  clear h
  subst e1
  have h := hq
  clear hq
  obtain ⟨hpre, h⟩ := chk_o h
  exact ⟨_, _, h, Nat.le_of_ble_eq_true (show Nat.ble 2 Tryz.f6.ntmps = true by kernel_rfl), _, run_impl_Grant t n hpre⟩

theorem give_new {h : Heap} {i : Nat} (k : heapOk h = true) (hi : i < h.live.length) : ∀ s ∈ h.waits, s.at_ ≠ (h.live.getD i (FT.zero .span)).at_ := fun s hm he => by
  obtain ⟨h1, h2, h3, h4⟩ := heapOk_iff.1 k
  obtain ⟨s1, s2⟩ := spansOk_ord.1 h2
  obtain ⟨q1, q2⟩ := spansOk_ord.1 h3
  have hs := s1 _ (spanD_mem hi)
  have hin := inS_nat hs
  have hs' := hs
  simp only [spanOk, Bool.and_eq_true, inR_t] at hs'
  have hc24 : (h.live.getD i (FT.zero .span)).at_.toNat < 24 := by omega
  have e1 : inS (h.live.getD i (FT.zero .span)) (h.live.getD i (FT.zero .span)).at_.toNat = true := by rw [hin]; simp only [Bool.and_eq_true, decide_eq_true_eq]; omega
  have hq := q1 s hm
  have e2 : inS s (h.live.getD i (FT.zero .span)).at_.toNat = true := by
    rw [inS_nat hq]
    simp only [spanOk, Bool.and_eq_true, inR_t] at hq
    simp only [Bool.and_eq_true, decide_eq_true_eq]; omega
  have c1 : 0 < cnt h.live (h.live.getD i (FT.zero .span)).at_.toNat := List.countP_pos_iff.2 ⟨_, spanD_mem hi, e1⟩
  have c2 : 0 < cnt h.waits (h.live.getD i (FT.zero .span)).at_.toNat := List.countP_pos_iff.2 ⟨_, hm, e2⟩
  have := (h4 _ hc24).1
  omega

def lb_impl_GiveBack_0 : PC := .seq (.seq (.reg [.s (.mv 43 (.t 9)), .s (.fa 44 (.t 8) 0), .s (.load 45 false 1 (.t 44)), .s (.fa 46 (.t 8) 1), .s (.load 47 false 1 (.t 46)), .s (.bin 48 .add (.t 45) (.t 47)), .s (.bin 49 .lss (.t 43) (.t 48))]) (.cond (.t 49) (.skip) (.exit 0))) (.seq (.blk 1 (.reg [.s (.fa 52 (.t 6) 0), .s (.fa 53 (.t 52) 1), .s (.load 54 false 1 (.t 53)), .s (.mv 55 (.t 9)), .s (.ia 56 .bool (.t 54) (.t 55)), .s (.store 1 (.t 56) (.k (.v (.c .tt))))])) (.reg [.s (.mv 50 (.t 9)), .s (.bin 51 .add (.t 50) (.k (.v (.c (.int .i64 1))))), .s (.mv 9 (.t 51))]))
def pf_impl_GiveBack : PF := ⟨[.c 4 true 4, .t 5], .seq (.reg [.s (.box 2 (.t 0)), .s (.box 3 (.t 1)), .s (.alloc 4 [.nils .word, .nils .bool, .nils .span, .nils .span]), .s (.mv 5 (.k (.v (.c .ff))))]) (.seq (.reg [.s (.load 10 true 4 (.t 2)), .s (.call (some 11) 27 [(.t 10)]), .s (.alloc 6 [.nils .word, .nils .bool, .nils .span, .nils .span]), .s (.store 4 (.t 6) (.t 11))]) (.seq (.reg [.s (.fa 12 (.t 2) 2), .s (.load 13 false 1 (.t 12)), .s (.mkf 14 41 [(.t 3)]), .s (.call (some 15) 40 [(.t 13), (.t 14)]), .s (.mv 7 (.t 15))]) (.seq (.seq (.reg [.s (.load 16 true 4 (.t 2)), .s (.call (some 17) 18 [(.t 16)]), .s (.bnot 18 (.t 17)), .s (.mv 19 (.t 18)), .g 19 false (some 20) (.mv 20 (.t 7)), .g 19 false (some 21) (.bin 21 .lss (.t 20) (.k (.v (.c (.int .i64 0))))), .s (.pick 22 (.t 19) (.k (.v (.c .tt))) (.t 21))]) (.cond (.t 22) (.seq (.reg [.s (.load 23 true 4 (.t 6)), .s (.store 4 (.t 4) (.t 23)), .s (.mv 5 (.k (.v (.c .ff))))]) (.ret)) (.skip))) (.seq (.reg [.s (.fa 24 (.t 2) 2), .s (.load 25 false 1 (.t 24)), .s (.mv 26 (.t 7)), .s (.ia 27 .span (.t 25) (.t 26)), .s (.load 28 true 2 (.t 27)), .s (.alloc 8 [.int .i64 0, .int .i64 0]), .s (.store 2 (.t 8) (.t 28))]) (.seq (.reg [.s (.fa 29 (.t 6) 2), .s (.load 30 false 1 (.t 29)), .s (.mv 31 (.t 7)), .s (.mv 32 (.t 7)), .s (.bin 33 .add (.t 32) (.k (.v (.c (.int .i64 1))))), .s (.call (some 34) 42 [(.t 30), (.t 31), (.t 33)]), .s (.fa 35 (.t 6) 2), .s (.store 1 (.t 35) (.t 34))]) (.seq (.reg [.s (.fa 36 (.t 6) 3), .s (.load 37 false 1 (.t 36)), .s (.load 38 true 2 (.t 8)), .s (.call (some 39) 31 [(.t 37), (.t 38)]), .s (.fa 40 (.t 6) 3), .s (.store 1 (.t 40) (.t 39))]) (.seq (.seq (.reg [.s (.fa 41 (.t 8) 0), .s (.load 42 false 1 (.t 41)), .s (.mv 9 (.t 42))]) (.blk 0 (.loop [4, 6, 8, 9] lb_impl_GiveBack_0))) (.seq (.reg [.s (.load 57 true 4 (.t 6)), .s (.store 4 (.t 4) (.t 57)), .s (.mv 5 (.k (.v (.c .tt))))]) (.ret)))))))))⟩
def c_impl_GiveBack : Fun := ⟨9, [], fun ts K => as2 ts fun t0 t1 => arG pHeapT t0 fun t => arC (pI .i64) t1 fun a => chk (LHeap t 1048576) (K (giveT (giveBack t a)) [])⟩
theorem run_impl_GiveBack (t : Heap) (a : Int) (hpre : LHeap t 1048576) : runK [c_impl_HeapOk, c_impl_cloneHeap, c_impl_placed, c_slices_IndexFunc_Span__impl_GiveBack_1, c_impl_GiveBack_1, c_slices_Delete_Span] (30) [] pf_impl_GiveBack [tG (t.tc false []), tI .i64 a] fun r o => r = giveT (giveBack t a) ∧ o = [] := by
  have l2 := hpre.2.1
  have l3 := hpre.2.2
  have hc := idxOf_cases (fun y : Span => y.at_ == a) (FT.zero .span) t.live
  conv => whnf
  repeat' (first | (refine sel_i (fun h => ?_) (fun h => ?_) <;> conv => whnf) | (refine chk_c ?_ ?_ <;> conv => whnf) | (refine And.intro ?_ rfl) | (refine And.intro ?_ ?_ <;> conv => whnf))
  all_goals (try simp only [etaMemory, etaHeap, etaSpan, Bool.not_eq_true', Bool.not_eq_false'] at *)
  all_goals generalize idxOf (fun y : Span => y.at_ == a) t.live = I at *
  all_goals first
    | (refine ⟨?_⟩; exact hpre)
    | (refine ⟨?_⟩; exact hpre.mono (by decide))
    | (refine ⟨?_⟩; omega)
    | (rw [give_no (by assumption)]; rfl)
    | skip
  · have hn : I < 0 := of_decide_eq_true (by assumption)
    rcases hc with ⟨h1, h2⟩ | ⟨k, rfl, hk, h1, h2⟩
    · rw [give_none (fun j hj => by have := h2 j hj; simpa using this)]; rfl
    · exfalso
      omega
  all_goals (have hn : ¬ I < 0 := of_decide_eq_false (by assumption))
  all_goals (rcases hc with ⟨h1, h2⟩ | ⟨k, rfl, hk, h1, h2⟩; · exfalso; omega)
  all_goals (have w0 : IntKind.i64.wrap ((k : Int) + 1) = ((k + 1 : Nat) : Int) := by rw [wrap_id (by omega) (by omega)]; rfl)
  all_goals (try simp only [w0, Int.toNat_natCast] at *)
  · refine ⟨?_⟩; omega
  · refine ⟨?_⟩; omega
  · refine ⟨?_⟩; omega
  · have hok : heapOk t = true := by assumption
    exact ⟨⟨by have := (heapOk_len hok).2.2; omega, give_new hok hk⟩⟩
  have hok : heapOk t = true := by assumption
  have hsp : ∀ s ∈ t.live, spanOk s = true := fun s hs => heapOk_spans hok s (List.mem_append_left _ hs)
  have hg24 := (memoryOk_n (heapOk_mem hok)).2.1
  have ho : (0 ≤ (t.live.getD k (FT.zero .span)).at_ ∧ (t.live.getD k (FT.zero .span)).at_ ≤ 23) ∧ 1 ≤ (t.live.getD k (FT.zero .span)).len ∧ (t.live.getD k (FT.zero .span)).len ≤ 24 - (t.live.getD k (FT.zero .span)).at_ := by
    have := hsp _ (spanD_mem hk)
    simp only [spanOk, Bool.and_eq_true, inR_t] at this
    exact this
  have hgs := give_some (h := t) (a := a) (i := k) hok hk (by simpa using h1) (fun j hj => by have := h2 j hj; simpa using this)
  rw [hgs]
  clear hgs h1 h2
  generalize t.live.getD k (FT.zero .span) = s at *
  obtain ⟨sa, sl⟩ := s
  dsimp only at ho ⊢
  obtain ⟨b, rfl⟩ := Int.eq_ofNat_of_zero_le ho.1.1
  obtain ⟨m, rfl⟩ := Int.eq_ofNat_of_zero_le (show 0 ≤ sl by omega)
  simp only [Int.toNat_natCast]
  have w2 : IntKind.i64.wrap ((b : Int) + (m : Int)) = (b : Int) + m := wrap_id (by omega) (by omega)
  refine loop (α := Nat × List Bool) (fun q => ⟨[(4, .v (.c (.ptr 0 0))), (6, .v (.c (.ptr 1 0))), (8, .v (.c (.ptr 6 0))), (9, .v (.c (.int .i64 (q.1 : Int))))],
        [(6, some (.box true [.int .i64 (b : Int), .int .i64 (m : Int)])), (5, some (.flat true .span none (putS t.waits ⟨(b : Int), (m : Int)⟩))), (4, some (.flat true .span none (List.take k t.live ++ List.drop (k + 1) t.live))), (3, some (.flat true .bool none q.2)), (2, some (.flat true .word none t.mem.words)), (1, some (.box true [.sl false .word 2, .sl false .bool 3, .sl false .span 4, .sl false .span 5])), (0, some (.box true [.nils .word, .nils .bool, .nils .span, .nils .span]))], nums.tail.tail.tail.tail.tail.tail.tail, [], false, []⟩)
      (fun q => (b ≤ q.1 ∧ q.1 ≤ b + m) ∧ q.2.length = 24 ∧ setRun (b + m - q.1) q.1 q.2 = setRun m b t.mem.gone) (fun q => b + m - q.1) (fun q R2 hI2 hR2 => ?_) (b, t.mem.gone) _
      ⟨⟨Nat.le_refl _, Nat.le_add_right _ _⟩, hg24, by dsimp only; rw [Nat.add_sub_cancel_left]⟩ (by show b + m - b < 30; omega)
  obtain ⟨n, u⟩ := q
  obtain ⟨⟨gn1, gn2⟩, gl, gv⟩ := hI2
  dsimp only at gn1 gn2 gl gv ⊢
  conv => whnf
  rw [w2]
  refine sel_i (fun h => ?_) (fun h => ?_)
  · have hn : n < b + m := by have h := of_decide_eq_true h; omega
    clear h
    rw [show b + m - n = (b + m - (n + 1)) + 1 by omega, setRun] at gv
    conv => whnf
    repeat' (first | (refine sel_i (fun h => ?_) (fun h => ?_) <;> conv => whnf) | (refine chk_c ?_ ?_ <;> conv => whnf) | (refine And.intro ?_ rfl) | (refine And.intro ?_ ?_ <;> conv => whnf))
    all_goals (try simp only [Int.toNat_natCast] at *)
    all_goals first
      | (refine ⟨?_⟩; omega)
      | (rw [wrap_id (n := (n : Int) + 1) (by omega) (by omega)]
         exact hR2 (n + 1, u.set n true) ⟨⟨by dsimp only; omega, by dsimp only; omega⟩, by simpa using gl, gv⟩ (by dsimp only; omega))
      | trace_state
  · have hn : n = b + m := by have h := of_decide_eq_false h; omega
    subst hn
    rw [Nat.sub_self, setRun] at gv
    conv => whnf
    rw [← gv]
    exact ⟨rfl, rfl⟩
theorem ok_impl_GiveBack : FunOk Tryz.prog c_impl_GiveBack := funOk (E := [c_impl_HeapOk, c_impl_cloneHeap, c_impl_placed, c_slices_IndexFunc_Span__impl_GiveBack_1, c_impl_GiveBack_1, c_slices_Delete_Span]) (envOk_cons ok_impl_HeapOk (envOk_cons ok_impl_cloneHeap (envOk_cons ok_impl_placed (envOk_cons ok_slices_IndexFunc_Span__impl_GiveBack_1 (envOk_cons ok_impl_GiveBack_1 (envOk_cons ok_slices_Delete_Span (envOk_nil))))))) mixd Tryz.func9 (pf := pf_impl_GiveBack) (by kernel_rfl) fun ts K h => by
  obtain ⟨t0, t1, e0, h⟩ := as2_out h
  subst e0
  obtain ⟨t, e1, hq⟩ := arG_out rd_heap h
  clear h
  subst e1
  have h := hq
  clear hq
  obtain ⟨a, e1, hq⟩ := arC_out (rd_int .i64) h
  clear h
  subst e1
  have h := hq
  clear hq
  obtain ⟨hpre, h⟩ := chk_o h
  exact ⟨_, _, h, Nat.le_of_ble_eq_true (show Nat.ble 2 Tryz.f9.ntmps = true by kernel_rfl), _, run_impl_GiveBack t a hpre⟩

theorem grant_len {t : Heap} {n : Int} {k : Nat} (h : LHeap t k) (hk : 24 ≤ k) : LHeap (grant t n).1 k := by
  rcases grant_cases (h := t) (n := n) with e | ⟨a, N, rfl, h1, h2, h3, h4, e⟩
  · rw [e]; exact h
  · rw [e]
    exact (heapOk_len (grant_heap h3 h1 h2 h4)).mono hk
theorem give_len {t : Heap} {a : Int} {k : Nat} (h : LHeap t k) (hk : 24 ≤ k) : LHeap (giveBack t a).1 k := by
  rcases give_cases (h := t) (a := a) with e | ⟨i, h1, h2, h3, e⟩
  · rw [e]; exact h
  · rw [e]
    exact (heapOk_len (give_heap h1 h2)).mono hk

theorem eqSpD {a b : Span} : (a.at_ == b.at_ && a.len == b.len) = decide (a = b) := by
  obtain ⟨a1, a2⟩ := a
  obtain ⟨b1, b2⟩ := b
  rw [Bool.eq_iff_iff]
  simp
theorem eqHeapD {a b : Heap} : decide (a = b) = (decide (a.mem = b.mem) && (decide (a.live = b.live) && decide (a.waits = b.waits))) := by
  obtain ⟨a1, a2, a3⟩ := a
  obtain ⟨b1, b2, b3⟩ := b
  rw [Bool.eq_iff_iff]
  simp

def lb_laws_sameSpans_0 : PC := .seq (.seq (.reg [.s (.mv 11 (.t 5)), .s (.mv 12 (.t 0)), .s (.len 13 false (.t 12)), .s (.bin 14 .lss (.t 11) (.t 13))]) (.cond (.t 14) (.skip) (.exit 0))) (.seq (.blk 1 (.seq (.rgd [] [.s (.mv 17 (.t 0)), .s (.mv 18 (.t 5)), .s (.ia 19 .span (.t 17) (.t 18)), .s (.load 20 true 2 (.t 19)), .s (.mv 21 (.t 1)), .s (.mv 22 (.t 5)), .s (.ia 23 .span (.t 21) (.t 22)), .s (.load 24 true 2 (.t 23)), .s (.eqs 25 true [.i, .i] true (.t 20) (.t 24))] (.tk 0 (.tk 1 (.tk 2 (.tk 3 (.tk 4 (.tk 5 (.tk 6 (.tk 7 (.tk 8 (.done none))))))))))) (.cond (.t 25) (.seq (.reg [.s (.mv 4 (.k (.v (.c .ff))))]) (.ret)) (.skip)))) (.reg [.s (.mv 15 (.t 5)), .s (.bin 16 .add (.t 15) (.k (.v (.c (.int .i64 1))))), .s (.mv 5 (.t 16))]))
def pf_laws_sameSpans : PF := ⟨[.t 4], .seq (.reg [.s (.mv 4 (.k (.v (.c .ff))))]) (.seq (.seq (.reg [.s (.mv 6 (.t 0)), .s (.len 7 false (.t 6)), .s (.mv 8 (.t 1)), .s (.len 9 false (.t 8)), .s (.bin 10 .neq (.t 7) (.t 9))]) (.cond (.t 10) (.seq (.reg [.s (.mv 4 (.k (.v (.c .ff))))]) (.ret)) (.skip))) (.seq (.seq (.reg [.s (.mv 5 (.k (.v (.c (.int .i64 0)))))]) (.blk 0 (.loop [0, 1, 5] lb_laws_sameSpans_0))) (.seq (.reg [.s (.mv 4 (.k (.v (.c .tt))))]) (.ret))))⟩
def c_laws_sameSpans : Fun := ⟨50, [], fun ts K => as2 ts fun t0 t1 => arC (pL .span) t0 fun a => arC (pL .span) t1 fun b => chk (a.length ≤ 2147483647 ∧ b.length ≤ 2147483647) (K (tB (decide (a = b))) [])⟩
theorem run_laws_sameSpans (a : List (FT.Ty .span)) (b : List (FT.Ty .span)) (hpre : a.length ≤ 2147483647 ∧ b.length ≤ 2147483647) : runK [] (a.length + 1) [] pf_laws_sameSpans [tL false .span a, tL false .span b] fun r o => r = tB (decide (a = b)) ∧ o = [] := by
  obtain ⟨l1, l2⟩ := hpre
  conv => whnf
  refine sel_i (fun h => ?_) (fun h => ?_) <;> conv => whnf
  · rw [len_ne h]; exact ⟨rfl, rfl⟩
  have hl := len_eq h
  clear h
  refine loop (α := Nat) (fun i => ⟨[(0, .v (.c (.sl false .span 0))), (1, .v (.c (.sl false .span 1))), (5, .v (.c (.int .i64 (i : Int))))], [(1, some (.flat false .span none b)), (0, some (.flat false .span none a))], nums.tail.tail, [], false, []⟩)
      (fun i => i ≤ a.length ∧ a.take i = b.take i) (fun i => a.length - i) (fun i R hI hR => ?_) 0 _ ⟨by simp, by simp⟩ (by omega)
  obtain ⟨hi, hx⟩ := hI
  conv => whnf
  repeat' (first | (refine sel_i (fun h => ?_) (fun h => ?_) <;> conv => whnf) | (refine chk_c ?_ ?_ <;> conv => whnf) | (refine And.intro ?_ rfl) | (refine And.intro ?_ ?_ <;> conv => whnf))
  all_goals (try simp only [eqSpD, etaSpan, Int.toNat_natCast, Bool.not_eq_true', Bool.not_eq_false', decide_eq_true_eq, decide_eq_false_iff_not, bne_iff_ne, bne_eq_false_iff_eq] at *)
  all_goals first
    | (refine ⟨?_⟩; omega)
    | (rw [eq_no (z := (FT.zero .span)) (i := i) (by first | assumption | simpa using h)]; done)
    | (rw [eq_end hl (by omega) hx]; done)
    | (rw [wrap_id (n := (i : Int) + 1) (by omega) (by omega)]; exact hR (i + 1) ⟨by omega, eq_yes (z := (FT.zero .span)) hl (by omega) (by first | assumption | simpa using h) hx⟩ (by omega))
    | trace_state
theorem ok_laws_sameSpans : FunOk Tryz.prog c_laws_sameSpans := funOk (E := []) (envOk_nil) mixd Tryz.func50 (pf := pf_laws_sameSpans) (by kernel_rfl) fun ts K h => by
  obtain ⟨t0, t1, e0, h⟩ := as2_out h
  subst e0
  obtain ⟨a, e1, hq⟩ := arC_out (rd_l .span) h
  clear h
  subst e1
  have h := hq
  clear hq
  obtain ⟨b, e1, hq⟩ := arC_out (rd_l .span) h
  clear h
  subst e1
  have h := hq
  clear hq
  obtain ⟨hpre, h⟩ := chk_o h
  exact ⟨_, _, h, Nat.le_of_ble_eq_true (show Nat.ble 2 Tryz.f50.ntmps = true by kernel_rfl), _, run_laws_sameSpans a b hpre⟩

def pf_laws_sameHeap : PF := ⟨[.t 4], .seq (.reg [.s (.box 2 (.t 0)), .s (.box 3 (.t 1)), .s (.mv 4 (.k (.v (.c .ff))))]) (.seq (.reg [.s (.fa 5 (.t 2) 0), .s (.load 6 true 2 (.t 5)), .s (.fa 7 (.t 3) 0), .s (.load 8 true 2 (.t 7)), .s (.call (some 9) 49 [(.t 6), (.t 8)]), .s (.mv 10 (.t 9)), .g 10 true (some 11) (.fa 11 (.t 2) 2), .g 10 true (some 12) (.load 12 false 1 (.t 11)), .g 10 true (some 13) (.fa 13 (.t 3) 2), .g 10 true (some 14) (.load 14 false 1 (.t 13)), .g 10 true (some 15) (.call (some 15) 50 [(.t 12), (.t 14)]), .s (.pick 16 (.t 10) (.t 15) (.k (.v (.c .ff)))), .s (.mv 17 (.t 16)), .g 17 true (some 18) (.fa 18 (.t 2) 3), .g 17 true (some 19) (.load 19 false 1 (.t 18)), .g 17 true (some 20) (.fa 20 (.t 3) 3), .g 17 true (some 21) (.load 21 false 1 (.t 20)), .g 17 true (some 22) (.call (some 22) 50 [(.t 19), (.t 21)]), .s (.pick 23 (.t 17) (.t 22) (.k (.v (.c .ff)))), .s (.mv 4 (.t 23))]) (.ret))⟩
def c_laws_sameHeap : Fun := ⟨16, [], fun ts K => as2 ts fun t0 t1 => arG pHeapT t0 fun a => arG pHeapT t1 fun b => chk (LHeap a 2147483647 ∧ LHeap b 2147483647) (K (tB (decide (a = b))) [])⟩
theorem run_laws_sameHeap (a : Heap) (b : Heap) (hpre : LHeap a 2147483647 ∧ LHeap b 2147483647) : runK [c_laws_sameMem, c_laws_sameSpans] (0) [] pf_laws_sameHeap [tG (a.tc false []), tG (b.tc false [])] fun r o => r = tB (decide (a = b)) ∧ o = [] := by
  obtain ⟨⟨l1, l2, l3⟩, l4, l5, l6⟩ := hpre
  conv => whnf
  repeat' (first | (refine sel_i (fun h => ?_) (fun h => ?_) <;> conv => whnf) | (refine chk_c ?_ ?_ <;> conv => whnf) | (refine And.intro ?_ rfl) | (refine And.intro ?_ ?_ <;> conv => whnf))
  all_goals (try simp only [etaMemory, etaHeap] at *)
  all_goals first
    | (refine ⟨?_⟩; exact ⟨by assumption, by assumption⟩)
    | (rw [eqHeapD]; simp only [*, Bool.true_and, Bool.false_and, Bool.and_true, Bool.and_false]; done)
    | trace_state
theorem ok_laws_sameHeap : FunOk Tryz.prog c_laws_sameHeap := funOk (E := [c_laws_sameMem, c_laws_sameSpans]) (envOk_cons ok_laws_sameMem (envOk_cons ok_laws_sameSpans (envOk_nil))) mixd Tryz.func16 (pf := pf_laws_sameHeap) (by kernel_rfl) fun ts K h => by
  obtain ⟨t0, t1, e0, h⟩ := as2_out h
  subst e0
  obtain ⟨a, e1, hq⟩ := arG_out rd_heap h
  clear h
  subst e1
  have h := hq
  clear hq
  obtain ⟨b, e1, hq⟩ := arG_out rd_heap h
  clear h
  subst e1
  have h := hq
  clear hq
  obtain ⟨hpre, h⟩ := chk_o h
  exact ⟨_, _, h, Nat.le_of_ble_eq_true (show Nat.ble 2 Tryz.f16.ntmps = true by kernel_rfl), _, run_laws_sameHeap a b hpre⟩


theorem free_run {p q : Nat → Bool} {a n : Nat} (hin : ∀ c, a ≤ c → c < a + n → p c = true ∧ q c = false) (hout : ∀ c, ¬ (a ≤ c ∧ c < a + n) → p c = q c) : ∀ m, (List.range m).countP p = (List.range m).countP q + (min m (a + n) - min m a)
  | 0 => by simp
  | m + 1 => by
    rw [countP_range, countP_range, free_run hin hout m]
    by_cases e : a ≤ m ∧ m < a + n
    · obtain ⟨h1, h2⟩ := hin m e.1 e.2
      rw [h1, h2, if_pos rfl, if_neg (by simp)]
      omega
    · rw [hout m e]
      split <;> omega
theorem free_grant {h : Heap} {n a : Nat} (k : heapOk h = true) (hn : 1 ≤ n) (ha : a + n ≤ 24) (hf : freeAt (h.live ++ h.waits) n a = true) : freeN ⟨h.mem, putS h.live ⟨(a : Int), (n : Int)⟩, h.waits⟩ = freeN h - n := by
  have hk := grant_heap k hn ha hf
  unfold freeN
  rw [k, hk, if_pos rfl, if_pos rfl]
  have hc : ∀ c, cnt (putS h.live ⟨(a : Int), (n : Int)⟩ ++ h.waits) c = cnt (h.live ++ h.waits) c + (if (decide (a ≤ c) && decide (c < a + n)) then 1 else 0) := fun c => by
    rw [cnt_app, putS_cnt, inS_new hn ha, cnt_app]; omega
  have := free_run (p := fun c => cnt (h.live ++ h.waits) c == 0) (q := fun c => cnt (putS h.live ⟨(a : Int), (n : Int)⟩ ++ h.waits) c == 0) (a := a) (n := n)
    (fun c h1 h2 => by
      have h0 := freeAt_t.1 hf c h1 h2
      have e := hc c
      rw [decide_eq_true h1, decide_eq_true h2, if_pos (by rfl)] at e
      exact ⟨by rw [h0]; rfl, by rw [e, h0]; rfl⟩)
    (fun c h1 => by
      have e := hc c
      rw [if_neg (by simp only [Bool.and_eq_true, decide_eq_true_eq]; exact h1)] at e
      rw [e]; rfl) 24
  dsimp only
  rw [this]
  omega
theorem free_give {h : Heap} {i : Nat} (k : heapOk h = true) (hi : i < h.live.length) :
    freeN ⟨⟨h.mem.words, setRun (h.live.getD i (FT.zero .span)).len.toNat (h.live.getD i (FT.zero .span)).at_.toNat h.mem.gone⟩, h.live.take i ++ h.live.drop (i + 1), putS h.waits (h.live.getD i (FT.zero .span))⟩ = freeN h := by
  have hk := give_heap k hi
  unfold freeN
  rw [k, hk, if_pos rfl, if_pos rfl]
  have hc : (fun c => cnt (h.live.take i ++ h.live.drop (i + 1) ++ putS h.waits (h.live.getD i (FT.zero .span))) c == 0) = fun c => cnt (h.live ++ h.waits) c == 0 := by
    funext c
    rw [cnt_app (h.live.take i ++ h.live.drop (i + 1)), putS_cnt, cnt_app h.live, cnt_erase hi c]
    congr 1; omega
  dsimp only
  rw [hc]
theorem free_clean {h : Heap} {rs : List Word} (k : heapOk h = true) : freeN h ≤ freeN (clean h rs).1 := by
  obtain ⟨c1, c2, c3⟩ := clean_heap (rs := rs) k
  unfold freeN
  rw [k, c1, if_pos rfl, if_pos rfl, c2, c3, List.append_nil]
  have : (List.range 24).countP (fun c => cnt (h.live ++ h.waits) c == 0) ≤ (List.range 24).countP (fun c => cnt h.live c == 0) := List.countP_mono_left fun c _ hc => by
    rw [cnt_app] at hc
    simp only [beq_iff_eq] at hc ⊢
    omega
  omega

def pf_spec_l23Draw : PF := ⟨[.c 2 true 4, .t 3], .seq (.reg [.s (.alloc 2 [.nils .word, .nils .bool, .nils .span, .nils .span]), .s (.mv 3 (.k (.v (.c (.nils .word)))))]) (.seq (.reg [.s (.mv 7 (.t 0)), .s (.call (some 8) 57 [(.t 7)]), .s (.mv 6 (.t 8)), .s (.ext 9 (.t 6) 0), .s (.ext 10 (.t 6) 1), .s (.alloc 4 [.nils .word, .nils .bool, .nils .span, .nils .span]), .s (.store 4 (.t 4) (.t 9)), .s (.mv 5 (.t 10))]) (.seq (.seq (.reg [.s (.mv 11 (.t 0)), .s (.call (some 12) 39 [(.t 11), (.k (.v (.c (.int .i64 10))))])]) (.blk 0 (.seq (.reg [.s (.bin 14 .eql (.t 12) (.k (.v (.c (.int .i64 0))))), .s (.mv 13 (.t 14))]) (.cond (.t 13) (.rgd [0] [.s (.fa 15 (.t 4) 2), .s (.load 16 false 1 (.t 15)), .s (.mv 17 (.t 0)), .s (.call (some 18) 39 [(.t 17), (.k (.v (.c (.int .i64 25))))]), .s (.bin 19 .sub (.t 18) (.k (.v (.c (.int .i64 1))))), .s (.mv 20 (.t 0)), .s (.bs 21 (.int .i64) [(.k (.v (.c (.int .i64 0)))), (.k (.v (.c (.int .i64 1)))), (.k (.v (.c (.int .i64 5)))), (.k (.v (.c (.int .i64 9223372036854775807))))]), .s (.call (some 22) 26 [(.t 20), (.t 21)]), .s (.build 23 [.int .i64 0, .int .i64 0] [(0, 1, (.t 19)), (1, 1, (.t 22))]), .s (.bs 24 .span [(.t 23)]), .s (.app 25 .span (.t 16) (.t 24)), .s (.fa 26 (.t 4) 2), .s (.store 1 (.t 26) (.t 25))] (.fin (.tk 0 (.tk 1 (.tk 2 (.tk 5 (.any 3 false (.tk 4 (.one 6 false (.one 7 false (.tk 8 (.one 9 false (.one 10 true (.tk 11 (.one 12 true (.done (some [2, 4, 5])))))))))) (.any 6 false (.one 3 false (.tk 4 (.one 7 false (.tk 8 (.one 9 false (.one 10 true (.tk 11 (.one 12 true (.done (some [2, 4, 5])))))))))) (.nil))))))))) (.seq (.reg [.s (.bin 28 .eql (.t 12) (.k (.v (.c (.int .i64 1))))), .s (.mv 27 (.t 28))]) (.cond (.t 27) (.rgd [0] [.s (.fa 29 (.t 4) 0), .s (.fa 30 (.t 29) 1), .s (.load 31 false 1 (.t 30)), .s (.mv 32 (.t 0)), .s (.call (some 33) 39 [(.t 32), (.k (.v (.c (.int .i64 24))))]), .s (.ia 34 .bool (.t 31) (.t 33)), .s (.store 1 (.t 34) (.k (.v (.c .tt))))] (.tk 0 (.tk 1 (.tk 2 (.tk 3 (.one 4 false (.tk 5 (.one 6 true (.done none))))))))) (.seq (.reg [.s (.bin 36 .eql (.t 12) (.k (.v (.c (.int .i64 2))))), .s (.mv 35 (.t 36))]) (.cond (.t 35) (.reg [.s (.mv 37 (.t 0)), .s (.call (some 38) 58 [(.t 37)]), .s (.fa 39 (.t 4) 0), .s (.store 2 (.t 39) (.t 38))]) (.skip))))))))) (.seq (.reg [.s (.load 40 true 4 (.t 4)), .s (.mv 41 (.t 5)), .s (.store 4 (.t 2) (.t 40)), .s (.mv 3 (.t 41))]) (.ret))))⟩
def c_spec_l23Draw : Fun := ⟨25, [true], fun ts K => as1 ts fun t0 => arQ pCurT t0 fun c => chk (CurOk c) (∀ (h : Heap) (rs : List Word) (d : Cur), ((LHeap h 25 ∧ rs.length ≤ 14) ∧ CurOk d) → K (.tup [.g (h.tc true []), .c (tl true .word rs)]) ([curOut d]))⟩
theorem run_spec_l23Draw (c : Cur) (hpre : CurOk c) {K : Tree → List Tree → Prop} (hK : ∀ (h : Heap) (rs : List Word) (d : Cur), ((LHeap h 25 ∧ rs.length ≤ 14) ∧ CurOk d) → K (.tup [.g (h.tc true []), .c (tl true .word rs)]) ([curOut d])) : runK [c_spec_l1PickInt, c_spec_l1Below, c_spec_l23DrawRight, c_spec_l8Draw] (0) [true] pf_spec_l23Draw [.v (.ptr true 0 (c.tc []))] K := by
  conv => whnf
  refine chk_i hpre ?_
  conv => whnf
  intro H rs e he
  obtain ⟨⟨hg, hl⟩, he⟩ := he
  have hlen := hg.len
  obtain ⟨⟨k1, k2⟩, k3, k4⟩ := hg.len
  conv => whnf
  refine chk_i he ?_
  conv => whnf
  intro z d1 hd1
  obtain ⟨hz, hd1⟩ := hd1
  conv => whnf
  repeat' (first | (refine sel_i (fun h => ?_) (fun h => ?_) <;> conv => whnf) | (refine chk_c ?_ ?_ <;> conv => whnf) | (refine And.intro ?_ rfl) | (refine And.intro ?_ ?_ <;> conv => whnf) | (intro x y z d hd; (try have g1 := And.left hd); (try have g2 := And.right hd); (try have g3 := And.left (And.right hd)); (try have g4 := And.right (And.right hd)); conv => whnf) | (intro x y d hd; (try have g1 := And.left hd); (try have g2 := And.right hd); (try have g3 := And.left (And.right hd)); (try have g4 := And.right (And.right hd)); conv => whnf) | (intro x d hd; (try have g1 := And.left hd); (try have g2 := And.right hd); (try have g3 := And.left (And.right hd)); (try have g4 := And.right (And.right hd)); conv => whnf) | (intro d hd; (try have g1 := And.left hd); (try have g2 := And.right hd); (try have g3 := And.left (And.right hd)); (try have g4 := And.right (And.right hd)); conv => whnf))
  all_goals (try simp only [etaMemory, etaHeap] at *)
  all_goals first
    | (refine ⟨?_⟩; exact hd1)
    | (refine ⟨?_⟩; exact hd.2)
    | (refine ⟨?_⟩; have := (memoryOk_n (heapOk_mem hg.ok)).2.1; omega)
    | (have hh : LHeap ⟨⟨H.mem.words, H.mem.gone.set x.toNat true⟩, H.live, H.waits⟩ 25 := ⟨⟨by show H.mem.words.length ≤ 25; omega, by show (H.mem.gone.set x.toNat true).length ≤ 25; rw [List.length_set]; omega⟩, by show H.live.length ≤ 25; omega, by show H.waits.length ≤ 25; omega⟩
       exact hK _ rs d ⟨⟨hh, hl⟩, hd.2⟩)
    | (have hh : LHeap ⟨x, H.live, H.waits⟩ 25 := ⟨⟨by have := hd.1.1; show x.words.length ≤ 25; omega, by have := hd.1.2; show x.gone.length ≤ 25; omega⟩, by show H.live.length ≤ 25; omega, by show H.waits.length ≤ 25; omega⟩
       exact hK _ rs d ⟨⟨hh, hl⟩, hd.2⟩)
    | exact hK H rs d1 ⟨⟨hlen.mono (by decide), hl⟩, hd1⟩
    | skip
  refine ⟨fun st => ∃ (p q : Int) (d2 : Cur), CurOk d2 ∧ st = ⟨[(2, .v (.c (.ptr 2 0))), (4, .v (.c (.ptr 3 0))), (5, .v (.c (.sl false .word 8)))],
      [(8, some (.flat true .word none rs)), (7, some (.flat true .span none H.waits)), (6, some (.flat true .span none (H.live ++ [⟨p, q⟩]))), (5, some (.flat true .bool none H.mem.gone)), (4, some (.flat true .word none H.mem.words)), (3, some (.box true [.sl false .word 4, .sl false .bool 5, .sl false .span 6, .sl false .span 7])), (2, some (.box true [.nils .word, .nils .bool, .nils .span, .nils .span])),
        (1, some (.flat false (.int .u8) none d2.b)), (0, some (.box true (cuC d2 1)))], nums.tail.tail.tail.tail.tail.tail.tail.tail.tail, [.v (.c (.ptr 0 0))], false, []⟩, ?_, ?_⟩
  · conv => whnf
    repeat' (first | (refine sel_i (fun h => ?_) (fun h => ?_) <;> conv => whnf) | (refine chk_c ?_ ?_ <;> conv => whnf) | (refine And.intro ?_ rfl) | (refine And.intro ?_ ?_ <;> conv => whnf) | (intro x y z d hd; (try have g1 := And.left hd); (try have g2 := And.right hd); (try have g3 := And.left (And.right hd)); (try have g4 := And.right (And.right hd)); conv => whnf) | (intro x y d hd; (try have g1 := And.left hd); (try have g2 := And.right hd); (try have g3 := And.left (And.right hd)); (try have g4 := And.right (And.right hd)); conv => whnf) | (intro x d hd; (try have g1 := And.left hd); (try have g2 := And.right hd); (try have g3 := And.left (And.right hd)); (try have g4 := And.right (And.right hd)); conv => whnf) | (intro d hd; (try have g1 := And.left hd); (try have g2 := And.right hd); (try have g3 := And.left (And.right hd)); (try have g4 := And.right (And.right hd)); conv => whnf))
    all_goals first
      | trivial
      | (refine ⟨?_⟩; exact hd1)
      | (refine ⟨?_⟩; exact ⟨hd1, by decide, by decide⟩)
      | (refine ⟨?_⟩; exact ⟨hd.2, by decide, by decide⟩)
      | (refine ⟨?_⟩; rfl)
      | (refine ⟨?_⟩; simp only [List.length_cons, List.length_nil]; omega)
      | exact ⟨_, _, d, hd.2, rfl⟩
      | trace_state
  · rintro st ⟨p, q, d2, hd2, rfl⟩
    conv => whnf
    repeat' (first | (refine sel_i (fun h => ?_) (fun h => ?_) <;> conv => whnf) | (refine chk_c ?_ ?_ <;> conv => whnf) | (refine And.intro ?_ rfl) | (refine And.intro ?_ ?_ <;> conv => whnf))
    exact hK ⟨H.mem, H.live ++ [⟨p, q⟩], H.waits⟩ rs d2 ⟨⟨⟨⟨by dsimp only; omega, by dsimp only; omega⟩, by simp only [List.length_append, List.length_singleton]; omega, by dsimp only; omega⟩, hl⟩, hd2⟩
theorem ok_spec_l23Draw : FunOk Tryz.prog c_spec_l23Draw := funOkR (E := [c_spec_l1PickInt, c_spec_l1Below, c_spec_l23DrawRight, c_spec_l8Draw]) (envOk_cons ok_spec_l1PickInt (envOk_cons ok_spec_l1Below (envOk_cons ok_spec_l23DrawRight (envOk_cons ok_spec_l8Draw (envOk_nil))))) mixd Tryz.func25 (pf := pf_spec_l23Draw) (by kernel_rfl) fun ts K h => by
  obtain ⟨t0, e0, h⟩ := as1_out h
  subst e0
  obtain ⟨c, e1, hq⟩ := arQ_out rd_cur h
  clear h
  subst e1
  have h := hq
  clear hq
  obtain ⟨hpre, h⟩ := chk_o h
  exact ⟨Nat.le_of_ble_eq_true (show Nat.ble 1 Tryz.f25.ntmps = true by kernel_rfl), _, run_spec_l23Draw c hpre h⟩

def pf_spec_DrawHeapOk : PF := ⟨[.c 2 true 4], .seq (.reg [.s (.alloc 2 [.nils .word, .nils .bool, .nils .span, .nils .span])]) (.seq (.reg [.s (.mv 6 (.t 0)), .s (.call (some 7) 24 [(.t 6)]), .s (.call (some 8) 25 [(.t 7)]), .s (.mv 5 (.t 8)), .s (.ext 9 (.t 5) 0), .s (.ext 10 (.t 5) 1), .s (.alloc 3 [.nils .word, .nils .bool, .nils .span, .nils .span]), .s (.store 4 (.t 3) (.t 9)), .s (.mv 4 (.t 10))]) (.seq (.reg [.s (.load 11 true 4 (.t 3)), .s (.store 4 (.t 2) (.t 11))]) (.ret)))⟩
def c_spec_DrawHeapOk : Fun := ⟨14, [], fun ts K => as1 ts fun t0 => arC (pL (.int .u8)) t0 fun code => chk (code.length ≤ 1048576) (∀ (h : Heap), (LHeap h 25) → K (tG (h.tc true [])) [])⟩
theorem run_spec_DrawHeapOk (code : List (FT.Ty (.int .u8))) (hpre : code.length ≤ 1048576) {K : Tree → List Tree → Prop} (hK : ∀ (h : Heap), (LHeap h 25) → K (tG (h.tc true [])) []) : runK [c_spec_l1New, c_spec_l23Draw] (0) [] pf_spec_DrawHeapOk [tL false (.int .u8) code] K := by
  conv => whnf
  repeat' (first | (refine sel_i (fun h => ?_) (fun h => ?_) <;> conv => whnf) | (refine chk_c ?_ ?_ <;> conv => whnf) | (refine And.intro ?_ rfl) | (refine And.intro ?_ ?_ <;> conv => whnf) | (intro x y z d hd; (try have g1 := And.left hd); (try have g2 := And.right hd); (try have g3 := And.left (And.right hd)); (try have g4 := And.right (And.right hd)); conv => whnf) | (intro x y d hd; (try have g1 := And.left hd); (try have g2 := And.right hd); (try have g3 := And.left (And.right hd)); (try have g4 := And.right (And.right hd)); conv => whnf) | (intro x d hd; (try have g1 := And.left hd); (try have g2 := And.right hd); (try have g3 := And.left (And.right hd)); (try have g4 := And.right (And.right hd)); conv => whnf) | (intro d hd; (try have g1 := And.left hd); (try have g2 := And.right hd); (try have g3 := And.left (And.right hd)); (try have g4 := And.right (And.right hd)); conv => whnf))
  all_goals (try simp only [etaMemory, etaHeap] at *)
  all_goals first
    | (refine ⟨?_⟩; exact hpre)
    | (refine ⟨?_⟩; exact hd)
    | exact hK _ hd.1.1
    | trace_state
theorem ok_spec_DrawHeapOk : FunOk Tryz.prog c_spec_DrawHeapOk := funOkR (E := [c_spec_l1New, c_spec_l23Draw]) (envOk_cons ok_spec_l1New (envOk_cons ok_spec_l23Draw (envOk_nil))) mixd Tryz.func14 (pf := pf_spec_DrawHeapOk) (by kernel_rfl) fun ts K h => by
  obtain ⟨t0, e0, h⟩ := as1_out h
  subst e0
  obtain ⟨code, e1, hq⟩ := arC_out (rd_l (.int .u8)) h
  clear h
  subst e1
  have h := hq
  clear hq
  obtain ⟨hpre, h⟩ := chk_o h
  exact ⟨Nat.le_of_ble_eq_true (show Nat.ble 1 Tryz.f14.ntmps = true by kernel_rfl), _, run_spec_DrawHeapOk code hpre h⟩

def pf_spec_DrawFreeCells : PF := ⟨[.c 2 true 4], .seq (.reg [.s (.alloc 2 [.nils .word, .nils .bool, .nils .span, .nils .span])]) (.seq (.reg [.s (.mv 6 (.t 0)), .s (.call (some 7) 24 [(.t 6)]), .s (.call (some 8) 25 [(.t 7)]), .s (.mv 5 (.t 8)), .s (.ext 9 (.t 5) 0), .s (.ext 10 (.t 5) 1), .s (.alloc 3 [.nils .word, .nils .bool, .nils .span, .nils .span]), .s (.store 4 (.t 3) (.t 9)), .s (.mv 4 (.t 10))]) (.seq (.reg [.s (.load 11 true 4 (.t 3)), .s (.store 4 (.t 2) (.t 11))]) (.ret)))⟩
def c_spec_DrawFreeCells : Fun := ⟨15, [], fun ts K => as1 ts fun t0 => arC (pL (.int .u8)) t0 fun code => chk (code.length ≤ 1048576) (∀ (h : Heap), (LHeap h 25) → K (tG (h.tc true [])) [])⟩
theorem run_spec_DrawFreeCells (code : List (FT.Ty (.int .u8))) (hpre : code.length ≤ 1048576) {K : Tree → List Tree → Prop} (hK : ∀ (h : Heap), (LHeap h 25) → K (tG (h.tc true [])) []) : runK [c_spec_l1New, c_spec_l23Draw] (0) [] pf_spec_DrawFreeCells [tL false (.int .u8) code] K := by
  conv => whnf
  repeat' (first | (refine sel_i (fun h => ?_) (fun h => ?_) <;> conv => whnf) | (refine chk_c ?_ ?_ <;> conv => whnf) | (refine And.intro ?_ rfl) | (refine And.intro ?_ ?_ <;> conv => whnf) | (intro x y z d hd; (try have g1 := And.left hd); (try have g2 := And.right hd); (try have g3 := And.left (And.right hd)); (try have g4 := And.right (And.right hd)); conv => whnf) | (intro x y d hd; (try have g1 := And.left hd); (try have g2 := And.right hd); (try have g3 := And.left (And.right hd)); (try have g4 := And.right (And.right hd)); conv => whnf) | (intro x d hd; (try have g1 := And.left hd); (try have g2 := And.right hd); (try have g3 := And.left (And.right hd)); (try have g4 := And.right (And.right hd)); conv => whnf) | (intro d hd; (try have g1 := And.left hd); (try have g2 := And.right hd); (try have g3 := And.left (And.right hd)); (try have g4 := And.right (And.right hd)); conv => whnf))
  all_goals (try simp only [etaMemory, etaHeap] at *)
  all_goals first
    | (refine ⟨?_⟩; exact hpre)
    | (refine ⟨?_⟩; exact hd)
    | exact hK _ hd.1.1
    | trace_state
theorem ok_spec_DrawFreeCells : FunOk Tryz.prog c_spec_DrawFreeCells := funOkR (E := [c_spec_l1New, c_spec_l23Draw]) (envOk_cons ok_spec_l1New (envOk_cons ok_spec_l23Draw (envOk_nil))) mixd Tryz.func15 (pf := pf_spec_DrawFreeCells) (by kernel_rfl) fun ts K h => by
  obtain ⟨t0, e0, h⟩ := as1_out h
  subst e0
  obtain ⟨code, e1, hq⟩ := arC_out (rd_l (.int .u8)) h
  clear h
  subst e1
  have h := hq
  clear hq
  obtain ⟨hpre, h⟩ := chk_o h
  exact ⟨Nat.le_of_ble_eq_true (show Nat.ble 1 Tryz.f15.ntmps = true by kernel_rfl), _, run_spec_DrawFreeCells code hpre h⟩

def pf_spec_DrawGrant : PF := ⟨[.c 2 true 4, .t 3], .seq (.reg [.s (.alloc 2 [.nils .word, .nils .bool, .nils .span, .nils .span]), .s (.mv 3 (.k (.v (.c (.int .i64 0)))))]) (.seq (.reg [.s (.mv 7 (.t 0)), .s (.call (some 8) 24 [(.t 7)]), .s (.mv 4 (.t 8))]) (.seq (.reg [.s (.mv 10 (.t 4)), .s (.call (some 11) 25 [(.t 10)]), .s (.mv 9 (.t 11)), .s (.ext 12 (.t 9) 0), .s (.ext 13 (.t 9) 1), .s (.alloc 5 [.nils .word, .nils .bool, .nils .span, .nils .span]), .s (.store 4 (.t 5) (.t 12)), .s (.mv 6 (.t 13))]) (.seq (.rgd [4] [.s (.load 14 true 4 (.t 5)), .s (.mv 15 (.t 4)), .s (.bs 16 (.int .i64) [(.k (.v (.c (.int .i64 1)))), (.k (.v (.c (.int .i64 2)))), (.k (.v (.c (.int .i64 5)))), (.k (.v (.c (.int .i64 24)))), (.k (.v (.c (.int .i64 25)))), (.k (.v (.c (.int .i64 0)))), (.k (.v (.c (.int .i64 (-1))))), (.k (.v (.c (.int .i64 9223372036854775807))))]), .s (.call (some 17) 26 [(.t 15), (.t 16)]), .s (.store 4 (.t 2) (.t 14)), .s (.mv 3 (.t 17))] (.tk 0 (.tk 1 (.one 2 false (.one 3 false (.one 4 true (.tk 5 (.done none)))))))) (.ret))))⟩
def c_spec_DrawGrant : Fun := ⟨5, [], fun ts K => as1 ts fun t0 => arC (pL (.int .u8)) t0 fun code => chk (code.length ≤ 1048576) (∀ (h : Heap) (n : Int), (LHeap h 25) → K (.tup [.g (h.tc true []), .c (.int .i64 n)]) [])⟩
theorem run_spec_DrawGrant (code : List (FT.Ty (.int .u8))) (hpre : code.length ≤ 1048576) {K : Tree → List Tree → Prop} (hK : ∀ (h : Heap) (n : Int), (LHeap h 25) → K (.tup [.g (h.tc true []), .c (.int .i64 n)]) []) : runK [c_spec_l1New, c_spec_l23Draw, c_spec_l1PickInt] (0) [] pf_spec_DrawGrant [tL false (.int .u8) code] K := by
  conv => whnf
  refine chk_i hpre ?_
  conv => whnf
  intro c0 hc0
  conv => whnf
  refine chk_i hc0 ?_
  conv => whnf
  intro H rs e he
  obtain ⟨⟨hH, hr⟩, he⟩ := he
  obtain ⟨⟨k1, k2⟩, k3, k4⟩ := hH
  have hH : LHeap H 25 := ⟨⟨k1, k2⟩, k3, k4⟩
  conv => whnf
  repeat' (first | (refine sel_i (fun h => ?_) (fun h => ?_) <;> conv => whnf) | (refine chk_c ?_ ?_ <;> conv => whnf) | (refine And.intro ?_ rfl) | (refine And.intro ?_ ?_ <;> conv => whnf) | (intro x y z d hd; (try have g1 := And.left hd); (try have g2 := And.right hd); (try have g3 := And.left (And.right hd)); (try have g4 := And.right (And.right hd)); conv => whnf) | (intro x y d hd; (try have g1 := And.left hd); (try have g2 := And.right hd); (try have g3 := And.left (And.right hd)); (try have g4 := And.right (And.right hd)); conv => whnf) | (intro x d hd; (try have g1 := And.left hd); (try have g2 := And.right hd); (try have g3 := And.left (And.right hd)); (try have g4 := And.right (And.right hd)); conv => whnf) | (intro d hd; (try have g1 := And.left hd); (try have g2 := And.right hd); (try have g3 := And.left (And.right hd)); (try have g4 := And.right (And.right hd)); conv => whnf))
  all_goals (try simp only [etaMemory, etaHeap] at *)
  all_goals first
    | (refine ⟨?_⟩; exact ⟨he, by decide, by decide⟩)
    | (refine ⟨?_⟩; rfl)
    | exact ⟨trivial⟩
    | exact hK H x hH
    | trace_state
theorem ok_spec_DrawGrant : FunOk Tryz.prog c_spec_DrawGrant := funOkR (E := [c_spec_l1New, c_spec_l23Draw, c_spec_l1PickInt]) (envOk_cons ok_spec_l1New (envOk_cons ok_spec_l23Draw (envOk_cons ok_spec_l1PickInt (envOk_nil)))) mixd Tryz.func5 (pf := pf_spec_DrawGrant) (by kernel_rfl) fun ts K h => by
  obtain ⟨t0, e0, h⟩ := as1_out h
  subst e0
  obtain ⟨code, e1, hq⟩ := arC_out (rd_l (.int .u8)) h
  clear h
  subst e1
  have h := hq
  clear hq
  obtain ⟨hpre, h⟩ := chk_o h
  exact ⟨Nat.le_of_ble_eq_true (show Nat.ble 1 Tryz.f5.ntmps = true by kernel_rfl), _, run_spec_DrawGrant code hpre h⟩

def pf_spec_DrawClean : PF := ⟨[.c 2 true 4, .t 3], .seq (.reg [.s (.alloc 2 [.nils .word, .nils .bool, .nils .span, .nils .span]), .s (.mv 3 (.k (.v (.c (.nils .word)))))]) (.seq (.reg [.s (.mv 7 (.t 0)), .s (.call (some 8) 24 [(.t 7)]), .s (.mv 4 (.t 8))]) (.seq (.reg [.s (.mv 10 (.t 4)), .s (.call (some 11) 25 [(.t 10)]), .s (.mv 9 (.t 11)), .s (.ext 12 (.t 9) 0), .s (.ext 13 (.t 9) 1), .s (.alloc 5 [.nils .word, .nils .bool, .nils .span, .nils .span]), .s (.store 4 (.t 5) (.t 12)), .s (.mv 6 (.t 13))]) (.seq (.seq (.reg [.s (.mv 14 (.t 4)), .s (.call (some 15) 38 [(.t 14), (.k (.v (.c (.int .i64 4))))])]) (.cond (.t 15) (.reg [.s (.mv 16 (.t 6)), .s (.mv 17 (.t 4)), .s (.call (some 18) 43 [(.t 17)]), .s (.bs 19 .word [(.t 18)]), .s (.app 20 .word (.t 16) (.t 19)), .s (.mv 6 (.t 20))]) (.skip))) (.seq (.reg [.s (.load 21 true 4 (.t 5)), .s (.mv 22 (.t 6)), .s (.store 4 (.t 2) (.t 21)), .s (.mv 3 (.t 22))]) (.ret)))))⟩
def c_spec_DrawClean : Fun := ⟨11, [], fun ts K => as1 ts fun t0 => arC (pL (.int .u8)) t0 fun code => chk (code.length ≤ 1048576) (∀ (h : Heap) (rs : List Word), (LHeap h 25 ∧ rs.length ≤ 15) → K (.tup [.g (h.tc true []), .c (tl true .word rs)]) [])⟩
theorem run_spec_DrawClean (code : List (FT.Ty (.int .u8))) (hpre : code.length ≤ 1048576) {K : Tree → List Tree → Prop} (hK : ∀ (h : Heap) (rs : List Word), (LHeap h 25 ∧ rs.length ≤ 15) → K (.tup [.g (h.tc true []), .c (tl true .word rs)]) []) : runK [c_spec_l1New, c_spec_l23Draw, c_spec_l1Once, c_spec_l3Draw] (0) [] pf_spec_DrawClean [tL false (.int .u8) code] K := by
  conv => whnf
  refine chk_i hpre ?_
  conv => whnf
  intro c0 hc0
  conv => whnf
  refine chk_i hc0 ?_
  conv => whnf
  intro H rs e he
  obtain ⟨⟨hH, hr⟩, he⟩ := he
  obtain ⟨⟨k1, k2⟩, k3, k4⟩ := hH
  have hH : LHeap H 25 := ⟨⟨k1, k2⟩, k3, k4⟩
  conv => whnf
  repeat' (first | (refine sel_i (fun h => ?_) (fun h => ?_) <;> conv => whnf) | (refine chk_c ?_ ?_ <;> conv => whnf) | (refine And.intro ?_ rfl) | (refine And.intro ?_ ?_ <;> conv => whnf) | (intro x y z d hd; (try have g1 := And.left hd); (try have g2 := And.right hd); (try have g3 := And.left (And.right hd)); (try have g4 := And.right (And.right hd)); conv => whnf) | (intro x y d hd; (try have g1 := And.left hd); (try have g2 := And.right hd); (try have g3 := And.left (And.right hd)); (try have g4 := And.right (And.right hd)); conv => whnf) | (intro x d hd; (try have g1 := And.left hd); (try have g2 := And.right hd); (try have g3 := And.left (And.right hd)); (try have g4 := And.right (And.right hd)); conv => whnf) | (intro d hd; (try have g1 := And.left hd); (try have g2 := And.right hd); (try have g3 := And.left (And.right hd)); (try have g4 := And.right (And.right hd)); conv => whnf))
  all_goals (try simp only [etaKey, etaWord, etaMemory, etaHeap] at *)
  all_goals first
    | (refine ⟨?_⟩; exact he)
    | (refine ⟨?_⟩; exact hd)
    | (refine ⟨?_⟩; simp only [List.length_cons, List.length_nil]; omega)
    | exact hK H (rs ++ [_]) ⟨hH, by simp only [List.length_append, List.length_singleton]; omega⟩
    | exact hK H rs ⟨hH, by omega⟩
    | trace_state
theorem ok_spec_DrawClean : FunOk Tryz.prog c_spec_DrawClean := funOkR (E := [c_spec_l1New, c_spec_l23Draw, c_spec_l1Once, c_spec_l3Draw]) (envOk_cons ok_spec_l1New (envOk_cons ok_spec_l23Draw (envOk_cons ok_spec_l1Once (envOk_cons ok_spec_l3Draw (envOk_nil))))) mixd Tryz.func11 (pf := pf_spec_DrawClean) (by kernel_rfl) fun ts K h => by
  obtain ⟨t0, e0, h⟩ := as1_out h
  subst e0
  obtain ⟨code, e1, hq⟩ := arC_out (rd_l (.int .u8)) h
  clear h
  subst e1
  have h := hq
  clear hq
  obtain ⟨hpre, h⟩ := chk_o h
  exact ⟨Nat.le_of_ble_eq_true (show Nat.ble 1 Tryz.f11.ntmps = true by kernel_rfl), _, run_spec_DrawClean code hpre h⟩

def pf_spec_DrawGiveBack : PF := ⟨[.c 2 true 4, .t 3], .seq (.reg [.s (.alloc 2 [.nils .word, .nils .bool, .nils .span, .nils .span]), .s (.mv 3 (.k (.v (.c (.int .i64 0)))))]) (.seq (.reg [.s (.mv 7 (.t 0)), .s (.call (some 8) 24 [(.t 7)]), .s (.mv 4 (.t 8))]) (.seq (.reg [.s (.mv 10 (.t 4)), .s (.call (some 11) 25 [(.t 10)]), .s (.mv 9 (.t 11)), .s (.ext 12 (.t 9) 0), .s (.ext 13 (.t 9) 1), .s (.alloc 5 [.nils .word, .nils .bool, .nils .span, .nils .span]), .s (.store 4 (.t 5) (.t 12)), .s (.mv 6 (.t 13))]) (.seq (.seq (.reg [.s (.fa 14 (.t 5) 2), .s (.load 15 false 1 (.t 14)), .s (.len 16 false (.t 15)), .s (.bin 17 .gtr (.t 16) (.k (.v (.c (.int .i64 0))))), .s (.mv 18 (.t 17)), .g 18 true (some 19) (.mv 19 (.t 4)), .g 18 true (some 20) (.call (some 20) 38 [(.t 19), (.k (.v (.c (.int .i64 3))))]), .g 18 true (some 21) (.bnot 21 (.t 20)), .s (.pick 22 (.t 18) (.t 21) (.k (.v (.c .ff))))]) (.cond (.t 22) (.seq (.rgd [4] [.s (.load 23 true 4 (.t 5)), .s (.fa 24 (.t 5) 2), .s (.load 25 false 1 (.t 24)), .s (.mv 26 (.t 4)), .s (.fa 27 (.t 5) 2), .s (.load 28 false 1 (.t 27)), .s (.len 29 false (.t 28)), .s (.call (some 30) 39 [(.t 26), (.t 29)]), .s (.ia 31 .span (.t 25) (.t 30)), .s (.fa 32 (.t 31) 0), .s (.load 33 false 1 (.t 32)), .s (.store 4 (.t 2) (.t 23)), .s (.mv 3 (.t 33))] (.fin (.tk 0 (.tk 1 (.tk 3 (.tk 4 (.tk 5 (.tk 6 (.any 2 false (.one 7 false (.tk 8 (.tk 9 (.any 10 false (.one 11 true (.tk 12 (.done (some [2, 3])))) (.any 11 true (.one 10 false (.tk 12 (.done (some [2, 3])))) (.nil)))))) (.any 7 false (.any 2 false (.tk 8 (.tk 9 (.any 10 false (.one 11 true (.tk 12 (.done (some [2, 3])))) (.any 11 true (.one 10 false (.tk 12 (.done (some [2, 3])))) (.nil))))) (.any 11 true (.one 2 false (.tk 8 (.tk 9 (.one 10 false (.tk 12 (.done (some [2, 3]))))))) (.nil))) (.nil))))))))))) (.ret)) (.skip))) (.seq (.rgd [4] [.s (.load 34 true 4 (.t 5)), .s (.mv 35 (.t 4)), .s (.call (some 36) 39 [(.t 35), (.k (.v (.c (.int .i64 26))))]), .s (.bin 37 .sub (.t 36) (.k (.v (.c (.int .i64 1))))), .s (.store 4 (.t 2) (.t 34)), .s (.mv 3 (.t 37))] (.tk 0 (.tk 1 (.one 2 false (.tk 3 (.one 4 true (.tk 5 (.done none)))))))) (.ret)))))⟩
def c_spec_DrawGiveBack : Fun := ⟨8, [], fun ts K => as1 ts fun t0 => arC (pL (.int .u8)) t0 fun code => chk (code.length ≤ 1048576) (∀ (h : Heap) (n : Int), (LHeap h 25) → K (.tup [.g (h.tc true []), .c (.int .i64 n)]) [])⟩
theorem run_spec_DrawGiveBack (code : List (FT.Ty (.int .u8))) (hpre : code.length ≤ 1048576) {K : Tree → List Tree → Prop} (hK : ∀ (h : Heap) (n : Int), (LHeap h 25) → K (.tup [.g (h.tc true []), .c (.int .i64 n)]) []) : runK [c_spec_l1New, c_spec_l23Draw, c_spec_l1Once, c_spec_l1Below] (0) [] pf_spec_DrawGiveBack [tL false (.int .u8) code] K := by
  conv => whnf
  refine chk_i hpre ?_
  conv => whnf
  intro c0 hc0
  conv => whnf
  refine chk_i hc0 ?_
  conv => whnf
  intro H rs e he
  obtain ⟨⟨hH, hr⟩, he⟩ := he
  obtain ⟨⟨k1, k2⟩, k3, k4⟩ := hH
  have hH : LHeap H 25 := ⟨⟨k1, k2⟩, k3, k4⟩
  conv => whnf
  repeat' (first | (refine sel_i (fun h => ?_) (fun h => ?_) <;> conv => whnf) | (refine chk_c ?_ ?_ <;> conv => whnf) | (refine And.intro ?_ rfl) | (refine And.intro ?_ ?_ <;> conv => whnf) | (intro x y z d hd; (try have g1 := And.left hd); (try have g2 := And.right hd); (try have g3 := And.left (And.right hd)); (try have g4 := And.right (And.right hd)); conv => whnf) | (intro x y d hd; (try have g1 := And.left hd); (try have g2 := And.right hd); (try have g3 := And.left (And.right hd)); (try have g4 := And.right (And.right hd)); conv => whnf) | (intro x d hd; (try have g1 := And.left hd); (try have g2 := And.right hd); (try have g3 := And.left (And.right hd)); (try have g4 := And.right (And.right hd)); conv => whnf) | (intro d hd; (try have g1 := And.left hd); (try have g2 := And.right hd); (try have g3 := And.left (And.right hd)); (try have g4 := And.right (And.right hd)); conv => whnf))
  all_goals (try simp only [etaMemory, etaHeap] at *)
  all_goals first
    | (refine ⟨?_⟩; exact he)
    | (refine ⟨?_⟩; exact hd)
    | exact hK H _ hH
    | skip
  have hlt : 0 < H.live.length := by
    have h0 : decide ((H.live.length : Int) > 0) = true := by assumption
    have := of_decide_eq_true h0
    omega
  refine ⟨fun st => ∃ y : Int, st = ⟨[(2, .v (.c (.ptr 0 0))), (3, .v (.c (.int .i64 y)))],
      [(4, some (.flat true .span none H.waits)), (3, some (.flat true .span none H.live)), (2, some (.flat true .bool none H.mem.gone)), (1, some (.flat true .word none H.mem.words)), (0, some (.box true [.sl false .word 1, .sl false .bool 2, .sl false .span 3, .sl false .span 4]))], nums.tail.tail.tail.tail.tail, [], false, []⟩, ?_, ?_⟩
  · conv => whnf
    repeat' (first | (refine sel_i (fun h => ?_) (fun h => ?_) <;> conv => whnf) | (refine chk_c ?_ ?_ <;> conv => whnf) | (refine And.intro ?_ rfl) | (refine And.intro ?_ ?_ <;> conv => whnf) | (intro x y z d hd; (try have g1 := And.left hd); (try have g2 := And.right hd); (try have g3 := And.left (And.right hd)); (try have g4 := And.right (And.right hd)); conv => whnf) | (intro x y d hd; (try have g1 := And.left hd); (try have g2 := And.right hd); (try have g3 := And.left (And.right hd)); (try have g4 := And.right (And.right hd)); conv => whnf) | (intro x d hd; (try have g1 := And.left hd); (try have g2 := And.right hd); (try have g3 := And.left (And.right hd)); (try have g4 := And.right (And.right hd)); conv => whnf) | (intro d hd; (try have g1 := And.left hd); (try have g2 := And.right hd); (try have g3 := And.left (And.right hd)); (try have g4 := And.right (And.right hd)); conv => whnf))
    all_goals (try simp only [etaMemory, etaHeap] at *)
    all_goals first
      | trivial
      | (refine ⟨?_⟩; exact hd)
      | (refine ⟨?_⟩; exact hd.2)
      | (refine ⟨?_⟩; have := hd.1.1; have := hd.1.2.2; omega)
      | exact ⟨_, rfl⟩
      | trace_state
  · rintro st ⟨y, rfl⟩
    conv => whnf
    repeat' (first | (refine sel_i (fun h => ?_) (fun h => ?_) <;> conv => whnf) | (refine chk_c ?_ ?_ <;> conv => whnf) | (refine And.intro ?_ rfl) | (refine And.intro ?_ ?_ <;> conv => whnf))
    exact hK H y hH
theorem ok_spec_DrawGiveBack : FunOk Tryz.prog c_spec_DrawGiveBack := funOkR (E := [c_spec_l1New, c_spec_l23Draw, c_spec_l1Once, c_spec_l1Below]) (envOk_cons ok_spec_l1New (envOk_cons ok_spec_l23Draw (envOk_cons ok_spec_l1Once (envOk_cons ok_spec_l1Below (envOk_nil))))) mixd Tryz.func8 (pf := pf_spec_DrawGiveBack) (by kernel_rfl) fun ts K h => by
  obtain ⟨t0, e0, h⟩ := as1_out h
  subst e0
  obtain ⟨code, e1, hq⟩ := arC_out (rd_l (.int .u8)) h
  clear h
  subst e1
  have h := hq
  clear hq
  obtain ⟨hpre, h⟩ := chk_o h
  exact ⟨Nat.le_of_ble_eq_true (show Nat.ble 1 Tryz.f8.ntmps = true by kernel_rfl), _, run_spec_DrawGiveBack code hpre h⟩

structure GrantOk (h : Heap) (n : Int) (a : Heap) (w : Word) (ok : Bool) : Prop where
  len : LHeap h 25 → LHeap a 25
  no : ok = false → a = h
  yes : ok = true → heapOk a = true ∧ freeN a = freeN h - n ∧ w.key.top - w.key.base = n ∧ keyOk w.key = true ∧ 0 ≤ w.key.base ∧ w.key.top ≤ 24
theorem grant_all (h : Heap) (n : Int) : GrantOk h n (grant h n).1 (grant h n).2.1 (grant h n).2.2 := by
  refine ⟨fun hl => grant_len hl (by decide), fun hok => ?_, fun hok => ?_⟩
  · rcases grant_cases (h := h) (n := n) with e | ⟨a, N, rfl, h1, h2, h3, h4, e⟩
    · rw [e]
    · rw [e] at hok; cases hok
  · rcases grant_cases (h := h) (n := n) with e | ⟨a, N, rfl, h1, h2, h3, h4, e⟩
    · rw [e] at hok; cases hok
    · obtain ⟨g1, g2⟩ := grantK_ok (a := a) (n := N) h2
      have g3 : keyOk (grantK (a : Int) (N : Int)).key = true := by
        have := g2
        rw [g1] at this ⊢
        simp only [wordOk, Bool.and_eq_true] at this
        first | exact this.2 | exact this.1.2 | simp_all
      rw [e]
      refine ⟨grant_heap h3 h1 h2 h4, free_grant h3 h1 h2 h4, ?_, g3, ?_, ?_⟩
      · rw [g1]; dsimp only; omega
      · rw [g1]; dsimp only; omega
      · rw [g1]; dsimp only; omega
theorem freeN_in (t : Heap) : 0 ≤ freeN t ∧ freeN t ≤ 24 := by
  unfold freeN
  split
  · have := List.countP_le_length (p := fun c => cnt (t.live ++ t.waits) c == 0) (l := List.range 24)
    rw [List.length_range] at this
    omega
  · exact ⟨Int.le_refl _, by decide⟩
structure GiveOk (h : Heap) (c : Heap) (ok : Bool) : Prop where
  len : LHeap h 25 → LHeap c 25
  no : ok = false → c = h
  yes : ok = true → heapOk c = true ∧ freeN c = freeN h
theorem give_all (h : Heap) (a : Int) : GiveOk h (giveBack h a).1 (giveBack h a).2 := by
  refine ⟨fun hl => give_len hl (by decide), fun hok => ?_, fun hok => ?_⟩
  · rcases give_cases (h := h) (a := a) with e | ⟨i, h1, h2, h3, e⟩
    · rw [e]
    · rw [e] at hok; cases hok
  · rcases give_cases (h := h) (a := a) with e | ⟨i, h1, h2, h3, e⟩
    · rw [e] at hok; cases hok
    · rw [e]; exact ⟨give_heap h1 h2, free_give h1 h2⟩
structure CleanOk (h : Heap) (rs : List Word) (c : Heap) (r : List Word) : Prop where
  len : LHeap h 25 → LHeap c 25
  len2 : r.length = rs.length
  yes : heapOk h = true → heapOk c = true ∧ c.waits = [] ∧ freeN h ≤ freeN c
theorem clean_all (h : Heap) (rs : List Word) : CleanOk h rs (clean h rs).1 (clean h rs).2 := by
  refine ⟨fun hl => ?_, clean_len2 h rs, fun hk => ?_⟩
  · cases hk : heapOk h with
    | true => exact (heapOk_len (clean_heap (rs := rs) hk).1).mono (by decide)
    | false => unfold clean; rw [hk]; exact hl
  · obtain ⟨c1, c2, c3⟩ := clean_heap (rs := rs) hk
    exact ⟨c1, c3, free_clean hk⟩
end Go.Pi
