/- Contracts of functions, each out of its run by PI. No conditions. -/
import Derived.Test.YtepkbkojgbcahaaCN
namespace Go.Pi
open Go.Proofs
set_option linter.unusedVariables false
set_option linter.unusedSimpArgs false
set_option maxRecDepth 100000
attribute [local irreducible] iterN
def heldW (s : Side) : List Word := s.regs ++ [s.pc]
def meetI (a b : List Int) : Bool := a.any (fun n => b.any (fun x => n == x))
def crossesB (m : Mem) (a b : List Word) : Bool := meetI (cellsBy m a 2) (cellsBy m b 1 ++ cellsBy m b 2)
def apartB (t : Two) : Bool := twoOk t && !canSeal t.mem (heldW t.a) && !canSeal t.mem (heldW t.b) && (!crossesB t.mem (heldW t.a) (heldW t.b) && !crossesB t.mem (heldW t.b) (heldW t.a))
theorem any_or {α : Type} (p q : α → Bool) (xs : List α) : xs.any (fun x => p x || q x) = (xs.any p || xs.any q) := by
  rw [Bool.eq_iff_iff]; simp only [List.any_eq_true, Bool.or_eq_true]
  constructor
  · rintro ⟨x, hx, h | h⟩
    · exact .inl ⟨x, hx, h⟩
    · exact .inr ⟨x, hx, h⟩
  · rintro (⟨x, hx, h⟩ | ⟨x, hx, h⟩)
    · exact ⟨x, hx, .inl h⟩
    · exact ⟨x, hx, .inr h⟩
theorem meetI_app (a b c : List Int) : meetI a (b ++ c) = (meetI a b || meetI a c) := by
  unfold meetI
  rw [← any_or]
  congr 1; funext n; rw [List.any_append]
theorem meetI_comm (a b : List Int) : meetI a b = meetI b a := by
  unfold meetI
  rw [Bool.eq_iff_iff]; simp only [List.any_eq_true, beq_iff_eq]
  constructor
  · rintro ⟨x, hx, y, hy, e⟩; exact ⟨y, hy, x, hx, e.symm⟩
  · rintro ⟨x, hx, y, hy, e⟩; exact ⟨y, hy, x, hx, e.symm⟩
theorem apart_bool (a b c d : Bool) : (!(a || b) && !(c || b)) = (!b && !a && !c) := by cases a <;> cases b <;> cases c <;> rfl
theorem apart_spec (m : Mem) (a b : List Word) : (!crossesB m a b && !crossesB m b a) = (!meetI (cellsBy m a 2) (cellsBy m b 2) && !meetI (cellsBy m a 2) (cellsBy m b 1) && !meetI (cellsBy m b 2) (cellsBy m a 1)) := by
  unfold crossesB
  rw [meetI_app, meetI_app, meetI_comm (cellsBy m b 2) (cellsBy m a 2), apart_bool _ _ _ true]
theorem cellsBy_le (m : Mem) (l : List Word) (p : Int) : (cellsBy m l p).length ≤ 24 := filt_len _ _
theorem twoOk_len {t : Two} (h : twoOk t = true) : t.a.regs.length = 8 ∧ t.b.regs.length = 8 := by
  simp only [twoOk, stateOk, Bool.and_eq_true, decide_eq_true_eq] at h
  exact ⟨h.1.1.1.1.1, h.2.1.1.1.1⟩

def lb_slices_Index_int_0 : PC := .seq (.reg [.s (.bin 9 .lss (.t 8) (.t 7))]) (.seq (.cond (.t 9) (.skip) (.exit 0)) (.seq (.blk 1 (.seq (.reg [.s (.mv 10 (.t 8)), .s (.mv 5 (.t 10))]) (.seq (.reg [.s (.mv 11 (.t 1)), .s (.mv 12 (.t 0)), .s (.mv 13 (.t 5)), .s (.ia 14 (.int .i64) (.t 12) (.t 13)), .s (.load 15 false 1 (.t 14)), .s (.bin 16 .eql (.t 11) (.t 15))]) (.cond (.t 16) (.seq (.reg [.s (.mv 17 (.t 5)), .s (.mv 4 (.t 17))]) (.ret)) (.skip))))) (.reg [.s (.bin 18 .add (.t 8) (.k (.v (.c (.int .i64 1))))), .s (.mv 8 (.t 18))])))
def pf_slices_Index_int : PF := ⟨[.t 4], .seq (.reg [.s (.mv 4 (.k (.v (.c (.int .i64 0)))))]) (.seq (.seq (.reg [.s (.mv 6 (.t 0)), .s (.len 7 false (.t 6)), .s (.mv 8 (.k (.v (.c (.int .i64 0)))))]) (.blk 0 (.loop [0, 1, 7, 8] lb_slices_Index_int_0))) (.seq (.reg [.s (.mv 4 (.k (.v (.c (.int .i64 (-1))))))]) (.ret)))⟩
def c_slices_Index_int : Fun := ⟨140, [], fun ts K => as2 ts fun t0 t1 => arC (pL (.int .i64)) t0 fun xs => arC (pI .i64) t1 fun v => chk (xs.length ≤ 2147483647) (K (tN (idxOf (fun x => v == x) xs)) [])⟩
theorem run_slices_Index_int (xs : List (FT.Ty (.int .i64))) (v : Int) (hpre : xs.length ≤ 2147483647) : runK [] (xs.length + 1) [] pf_slices_Index_int [tL false (.int .i64) xs, tI .i64 v] fun r o => r = tN (idxOf (fun x => v == x) xs) ∧ o = [] := by
  conv => whnf
  refine loop (α := Nat) (fun i => ⟨[(0, .v (.c (.sl false (.int .i64) 0))), (1, .v (.c (.int .i64 v))), (7, .v (.c (.int .i64 (xs.length : Int)))), (8, .v (.c (.int .i64 (i : Int))))], [(0, some (.flat false (.int .i64) none xs))], nums.tail, [], false, []⟩)
      (fun i => i ≤ xs.length ∧ idxOf (fun x => v == x) xs = idxGo (fun x => v == x) (xs.drop i) i) (fun i => xs.length - i) (fun i R hI hR => ?_) 0 _ ⟨by simp, rfl⟩ (by simp)
  obtain ⟨hi, hx⟩ := hI
  conv => whnf
  refine sel_i (fun h2 => ?_) (fun h2 => ?_)
  · have hlt : i < xs.length := by simp at h2; omega
    conv => whnf
    repeat (refine chk_i (by first | omega | (simp; omega)) ?_; conv => whnf)
    refine sel_i (fun h3 => ?_) (fun h3 => ?_)
    · conv => whnf
      rw [hx, idxGo_yes (z := FT.zero (.int .i64)) hlt h3]
      exact ⟨rfl, rfl⟩
    · conv => whnf
      rw [wrap_id (n := (i : Int) + 1) (by omega) (by omega)]
      exact hR (i + 1) ⟨by omega, by rw [hx, idxGo_no (z := FT.zero (.int .i64)) hlt h3]⟩ (by omega)
  · conv => whnf
    rw [hx, idxGo_end (by simp at h2; omega)]
    exact ⟨rfl, rfl⟩
theorem ok_slices_Index_int : FunOk Try.prog c_slices_Index_int := funOk (E := []) (envOk_nil) mixd Try.func140 (pf := pf_slices_Index_int) (by kernel_rfl) fun ts K h => by
  obtain ⟨t0, t1, e0, h⟩ := as2_out h
  subst e0
  obtain ⟨xs, e1, hq⟩ := arC_out (rd_l (.int .i64)) h
  clear h
  subst e1
  have h := hq
  clear hq
  obtain ⟨v, e1, hq⟩ := arC_out (rd_int .i64) h
  clear h
  subst e1
  have h := hq
  clear hq
  obtain ⟨hpre, h⟩ := chk_o h
  exact ⟨_, _, h, Nat.le_of_ble_eq_true (show Nat.ble 2 Try.f140.ntmps = true by kernel_rfl), _, run_slices_Index_int xs v hpre⟩

def pf_slices_Contains_int : PF := ⟨[.t 4], .seq (.reg [.s (.mv 4 (.k (.v (.c .ff))))]) (.seq (.reg [.s (.mv 5 (.t 0)), .s (.mv 6 (.t 1)), .s (.call (some 7) 140 [(.t 5), (.t 6)]), .s (.bin 8 .geq (.t 7) (.k (.v (.c (.int .i64 0))))), .s (.mv 4 (.t 8))]) (.ret))⟩
def c_slices_Contains_int : Fun := ⟨124, [], fun ts K => as2 ts fun t0 t1 => arC (pL (.int .i64)) t0 fun xs => arC (pI .i64) t1 fun v => chk (xs.length ≤ 2147483647) (K (tB (xs.any (fun x => v == x))) [])⟩
theorem run_slices_Contains_int (xs : List (FT.Ty (.int .i64))) (v : Int) (hpre : xs.length ≤ 2147483647) : runK [c_slices_Index_int] (0) [] pf_slices_Contains_int [tL false (.int .i64) xs, tI .i64 v] fun r o => r = tB (xs.any (fun x => v == x)) ∧ o = [] := by
  conv => whnf
  repeat' (first | (refine sel_i (fun h => ?_) (fun h => ?_) <;> conv => whnf) | (refine chk_c ?_ ?_ <;> conv => whnf) | (refine And.intro ?_ rfl) | (refine And.intro ?_ ?_ <;> conv => whnf))
  all_goals first | (refine ⟨?_⟩; exact hpre) | exact hpre | (rw [← idxOf_any]; rfl) | (rw [← idxOf_any])
theorem ok_slices_Contains_int : FunOk Try.prog c_slices_Contains_int := funOk (E := [c_slices_Index_int]) (envOk_cons ok_slices_Index_int (envOk_nil)) mixd Try.func124 (pf := pf_slices_Contains_int) (by kernel_rfl) fun ts K h => by
  obtain ⟨t0, t1, e0, h⟩ := as2_out h
  subst e0
  obtain ⟨xs, e1, hq⟩ := arC_out (rd_l (.int .i64)) h
  clear h
  subst e1
  have h := hq
  clear hq
  obtain ⟨v, e1, hq⟩ := arC_out (rd_int .i64) h
  clear h
  subst e1
  have h := hq
  clear hq
  obtain ⟨hpre, h⟩ := chk_o h
  exact ⟨_, _, h, Nat.le_of_ble_eq_true (show Nat.ble 2 Try.f124.ntmps = true by kernel_rfl), _, run_slices_Contains_int xs v hpre⟩

def pf_impl_crosses_1 : PF := ⟨[.t 3], .seq (.reg [.s (.mv 3 (.k (.v (.c .ff))))]) (.seq (.reg [.s (.load 4 false 1 (.t 1)), .s (.mv 5 (.t 0)), .s (.call (some 6) 124 [(.t 4), (.t 5)]), .s (.mv 3 (.t 6))]) (.ret))⟩
def c_impl_crosses_1 : Fun := ⟨123, [], fun ts K => as2 ts fun t0 t1 => arC (pI .i64) t0 fun n => arP (pL (.int .i64)) t1 fun g => chk (g.length ≤ 2147483647) (K (tB (g.any (fun x => n == x))) [])⟩
theorem run_impl_crosses_1 (n : Int) (g : List (FT.Ty (.int .i64))) (hpre : g.length ≤ 2147483647) : runK [c_slices_Contains_int] (0) [] pf_impl_crosses_1 [tI .i64 n, .v (.ptr false 0 [tl false (.int .i64) g])] fun r o => r = tB (g.any (fun x => n == x)) ∧ o = [] := by
  conv => whnf
  repeat' (first | (refine sel_i (fun h => ?_) (fun h => ?_) <;> conv => whnf) | (refine chk_c ?_ ?_ <;> conv => whnf) | (refine And.intro ?_ rfl) | (refine And.intro ?_ ?_ <;> conv => whnf))
  all_goals first | (refine ⟨?_⟩; exact hpre) | rfl
theorem ok_impl_crosses_1 : FunOk Try.prog c_impl_crosses_1 := funOk (E := [c_slices_Contains_int]) (envOk_cons ok_slices_Contains_int (envOk_nil)) mixd Try.func123 (pf := pf_impl_crosses_1) (by kernel_rfl) fun ts K h => by
  obtain ⟨t0, t1, e0, h⟩ := as2_out h
  subst e0
  obtain ⟨n, e1, hq⟩ := arC_out (rd_int .i64) h
  clear h
  subst e1
  have h := hq
  clear hq
  obtain ⟨g, e1, hq⟩ := arP_out (rd_l (.int .i64)) h
  clear h
  subst e1
  have h := hq
  clear hq
  obtain ⟨hpre, h⟩ := chk_o h
  exact ⟨_, _, h, Nat.le_of_ble_eq_true (show Nat.ble 2 Try.f123.ntmps = true by kernel_rfl), _, run_impl_crosses_1 n g hpre⟩

def lb_slices_IndexFunc_int_0 : PC := .seq (.reg [.s (.bin 9 .lss (.t 8) (.t 7))]) (.seq (.cond (.t 9) (.skip) (.exit 0)) (.seq (.blk 1 (.seq (.reg [.s (.mv 10 (.t 8)), .s (.mv 5 (.t 10))]) (.seq (.reg [.s (.mv 11 (.t 1)), .s (.mv 12 (.t 0)), .s (.mv 13 (.t 5)), .s (.ia 14 (.int .i64) (.t 12) (.t 13)), .s (.load 15 false 1 (.t 14)), .s (.callv (some 16) (.t 11) [(.t 15)])]) (.cond (.t 16) (.seq (.reg [.s (.mv 17 (.t 5)), .s (.mv 4 (.t 17))]) (.ret)) (.skip))))) (.reg [.s (.bin 18 .add (.t 8) (.k (.v (.c (.int .i64 1))))), .s (.mv 8 (.t 18))])))
def pf_slices_IndexFunc_int : PF := ⟨[.t 4], .seq (.reg [.s (.mv 4 (.k (.v (.c (.int .i64 0)))))]) (.seq (.seq (.reg [.s (.mv 6 (.t 0)), .s (.len 7 false (.t 6)), .s (.mv 8 (.k (.v (.c (.int .i64 0)))))]) (.blk 0 (.loop [0, 1, 7, 8] lb_slices_IndexFunc_int_0))) (.seq (.reg [.s (.mv 4 (.k (.v (.c (.int .i64 (-1))))))]) (.ret)))⟩
def c_slices_IndexFunc_int__impl_crosses_1 : Fun := ⟨139, [], fun ts K => as2 ts fun t0 t1 => arC (pL (.int .i64)) t0 fun xs => arF1 123 (pL (.int .i64)) t1 fun g => chk (xs.length ≤ 2147483647 ∧ g.length ≤ 2147483647) (K (tN (idxOf (fun n => g.any (fun x => n == x)) xs)) [])⟩
theorem run_slices_IndexFunc_int__impl_crosses_1 (xs : List (FT.Ty (.int .i64))) (g : List (FT.Ty (.int .i64))) (hpre : xs.length ≤ 2147483647 ∧ g.length ≤ 2147483647) : runK [c_impl_crosses_1] (xs.length + 1) [] pf_slices_IndexFunc_int [tL false (.int .i64) xs, .fn 123 [.ptr false 0 [tl false (.int .i64) g]]] fun r o => r = tN (idxOf (fun n => g.any (fun x => n == x)) xs) ∧ o = [] := by
  conv => whnf
  refine loop (α := Nat) (fun i => ⟨[(0, .v (.c (.sl false (.int .i64) 0))), (1, .fn 123 [.c (.ptr 1 0)]), (7, .v (.c (.int .i64 (xs.length : Int)))), (8, .v (.c (.int .i64 (i : Int))))], [(2, some (.flat false (.int .i64) none g)), (1, some (.box false [.sl false (.int .i64) 2])), (0, some (.flat false (.int .i64) none xs))], nums.tail.tail.tail, [], false, []⟩)
      (fun i => i ≤ xs.length ∧ idxOf (fun n => g.any (fun x => n == x)) xs = idxGo (fun n => g.any (fun x => n == x)) (xs.drop i) i) (fun i => xs.length - i) (fun i R hI hR => ?_) 0 _ ⟨by simp, rfl⟩ (by simp)
  obtain ⟨hi, hx⟩ := hI
  conv => whnf
  refine sel_i (fun h2 => ?_) (fun h2 => ?_)
  · have hlt : i < xs.length := by simp at h2; omega
    conv => whnf
    repeat (refine chk_i (by first | omega | (simp; omega)) ?_; conv => whnf)
    refine sel_i (fun h3 => ?_) (fun h3 => ?_)
    · conv => whnf
      rw [hx, idxGo_yes (z := FT.zero (.int .i64)) hlt (by first | (simp only [keyEq] at h3; exact h3) | (simpa using h3))]
      exact ⟨rfl, rfl⟩
    · conv => whnf
      rw [wrap_id (n := (i : Int) + 1) (by omega) (by omega)]
      exact hR (i + 1) ⟨by omega, by rw [hx, idxGo_no (z := FT.zero (.int .i64)) hlt (by first | (simp only [keyEq] at h3; exact h3) | (simpa using h3))]⟩ (by omega)
  · conv => whnf
    rw [hx, idxGo_end (by simp at h2; omega)]
    exact ⟨rfl, rfl⟩
theorem ok_slices_IndexFunc_int__impl_crosses_1 : FunOk Try.prog c_slices_IndexFunc_int__impl_crosses_1 := funOk (E := [c_impl_crosses_1]) (envOk_cons ok_impl_crosses_1 (envOk_nil)) mixd Try.func139 (pf := pf_slices_IndexFunc_int) (by kernel_rfl) fun ts K h => by
  obtain ⟨t0, t1, e0, h⟩ := as2_out h
  subst e0
  obtain ⟨xs, e1, hq⟩ := arC_out (rd_l (.int .i64)) h
  clear h
  subst e1
  have h := hq
  clear hq
  obtain ⟨g, e1, hq⟩ := arF1_out (rd_l (.int .i64)) h
  clear h
  subst e1
  have h := hq
  clear hq
  obtain ⟨hpre, h⟩ := chk_o h
  exact ⟨_, _, h, Nat.le_of_ble_eq_true (show Nat.ble 2 Try.f139.ntmps = true by kernel_rfl), _, run_slices_IndexFunc_int__impl_crosses_1 xs g hpre⟩

def pf_slices_ContainsFunc_int : PF := ⟨[.t 4], .seq (.reg [.s (.mv 4 (.k (.v (.c .ff))))]) (.seq (.reg [.s (.mv 5 (.t 0)), .s (.mv 6 (.t 1)), .s (.call (some 7) 139 [(.t 5), (.t 6)]), .s (.bin 8 .geq (.t 7) (.k (.v (.c (.int .i64 0))))), .s (.mv 4 (.t 8))]) (.ret))⟩
def c_slices_ContainsFunc_int__impl_crosses_1 : Fun := ⟨122, [], fun ts K => as2 ts fun t0 t1 => arC (pL (.int .i64)) t0 fun xs => arF1 123 (pL (.int .i64)) t1 fun g => chk (xs.length ≤ 2147483647 ∧ g.length ≤ 2147483647) (K (tB (xs.any (fun n => g.any (fun x => n == x)))) [])⟩
theorem run_slices_ContainsFunc_int__impl_crosses_1 (xs : List (FT.Ty (.int .i64))) (g : List (FT.Ty (.int .i64))) (hpre : xs.length ≤ 2147483647 ∧ g.length ≤ 2147483647) : runK [c_slices_IndexFunc_int__impl_crosses_1, c_impl_crosses_1] (0) [] pf_slices_ContainsFunc_int [tL false (.int .i64) xs, .fn 123 [.ptr false 0 [tl false (.int .i64) g]]] fun r o => r = tB (xs.any (fun n => g.any (fun x => n == x))) ∧ o = [] := by
  conv => whnf
  repeat' (first | (refine sel_i (fun h => ?_) (fun h => ?_) <;> conv => whnf) | (refine chk_c ?_ ?_ <;> conv => whnf) | (refine And.intro ?_ rfl) | (refine And.intro ?_ ?_ <;> conv => whnf))
  all_goals first | (refine ⟨?_⟩; exact hpre) | exact hpre | (rw [← idxOf_any]; rfl) | (rw [← idxOf_any])
theorem ok_slices_ContainsFunc_int__impl_crosses_1 : FunOk Try.prog c_slices_ContainsFunc_int__impl_crosses_1 := funOk (E := [c_slices_IndexFunc_int__impl_crosses_1, c_impl_crosses_1]) (envOk_cons ok_slices_IndexFunc_int__impl_crosses_1 (envOk_cons ok_impl_crosses_1 (envOk_nil))) mixd Try.func122 (pf := pf_slices_ContainsFunc_int) (by kernel_rfl) fun ts K h => by
  obtain ⟨t0, t1, e0, h⟩ := as2_out h
  subst e0
  obtain ⟨xs, e1, hq⟩ := arC_out (rd_l (.int .i64)) h
  clear h
  subst e1
  have h := hq
  clear hq
  obtain ⟨g, e1, hq⟩ := arF1_out (rd_l (.int .i64)) h
  clear h
  subst e1
  have h := hq
  clear hq
  obtain ⟨hpre, h⟩ := chk_o h
  exact ⟨_, _, h, Nat.le_of_ble_eq_true (show Nat.ble 2 Try.f122.ntmps = true by kernel_rfl), _, run_slices_ContainsFunc_int__impl_crosses_1 xs g hpre⟩

def pf_spec_l22Words : PF := ⟨[.t 2], .seq (.reg [.s (.box 1 (.t 0)), .s (.mv 2 (.k (.v (.c (.nils .word)))))]) (.seq (.rgd [.s (.bs 3 .word []), .s (.fa 4 (.t 1) 0), .s (.load 5 false 1 (.t 4)), .s (.app 6 .word (.t 3) (.t 5)), .s (.fa 7 (.t 1) 1), .s (.load 8 true 6 (.t 7)), .s (.bs 9 .word [(.t 8)]), .s (.app 10 .word (.t 6) (.t 9)), .s (.mv 2 (.t 10))] (.tk 1 (.tk 2 (.tk 4 (.tk 5 (.alt 0 (.alt 3 (.one 6 false (.one 7 true (.tk 8 (.done (some [2]))))) (.alt 6 (.one 3 false (.one 7 true (.tk 8 (.done (some [2]))))) (.nil))) (.alt 6 (.one 0 false (.one 3 false (.one 7 true (.tk 8 (.done (some [2])))))) (.nil)))))))) (.ret))⟩
def c_spec_l22Words : Fun := ⟨78, [], fun ts K => as1 ts fun t0 => arG pSideT t0 fun s => chk (s.regs.length ≤ 2147483646) (K (tL true .word (heldW s)) [])⟩
theorem run_spec_l22Words (s : Side) (hpre : s.regs.length ≤ 2147483646) : runK [] (0) [] pf_spec_l22Words [tG (s.tc false [])] fun r o => r = tL true .word (heldW s) ∧ o = [] := by
  conv => whnf
  repeat' (first | (refine sel_i (fun h => ?_) (fun h => ?_) <;> conv => whnf) | (refine chk_c ?_ ?_ <;> conv => whnf) | (refine And.intro ?_ rfl) | (refine And.intro ?_ ?_ <;> conv => whnf))
  all_goals first
    | (refine ⟨?_⟩; show s.regs.length + 1 ≤ 2147483647; omega)
    | (refine ⟨?_⟩; simp; omega)
    | rfl
    | trivial
    | trace_state
theorem ok_spec_l22Words : FunOk Try.prog c_spec_l22Words := funOk (E := []) (envOk_nil) mixd Try.func78 (pf := pf_spec_l22Words) (by kernel_rfl) fun ts K h => by
  obtain ⟨t0, e0, h⟩ := as1_out h
  subst e0
  obtain ⟨s, e1, hq⟩ := arG_out rd_side h
  clear h
  subst e1
  have h := hq
  clear hq
  obtain ⟨hpre, h⟩ := chk_o h
  exact ⟨_, _, h, Nat.le_of_ble_eq_true (show Nat.ble 1 Try.f78.ntmps = true by kernel_rfl), _, run_spec_l22Words s hpre⟩

def pf_impl_held : PF := ⟨[.t 2], .seq (.reg [.s (.box 1 (.t 0)), .s (.mv 2 (.k (.v (.c (.nils .word)))))]) (.seq (.rgd [.s (.fa 3 (.t 1) 0), .s (.load 4 false 1 (.t 3)), .s (.call (some 5) 91 [(.t 4)]), .s (.fa 6 (.t 1) 1), .s (.load 7 true 6 (.t 6)), .s (.bs 8 .word [(.t 7)]), .s (.app 9 .word (.t 5) (.t 8)), .s (.mv 2 (.t 9))] (.tk 0 (.tk 1 (.tk 3 (.tk 4 (.alt 2 (.one 5 false (.one 6 true (.tk 7 (.done (some [2]))))) (.alt 5 (.one 2 false (.one 6 true (.tk 7 (.done (some [2]))))) (.nil)))))))) (.ret))⟩
def c_impl_held : Fun := ⟨82, [], fun ts K => as1 ts fun t0 => arG pSideT t0 fun s => chk (s.regs.length ≤ 2147483646) (K (tL true .word (heldW s)) [])⟩
theorem run_impl_held (s : Side) (hpre : s.regs.length ≤ 2147483646) : runK [c_slices_Clone_Word] (0) [] pf_impl_held [tG (s.tc false [])] fun r o => r = tL true .word (heldW s) ∧ o = [] := by
  conv => whnf
  repeat' (first | (refine sel_i (fun h => ?_) (fun h => ?_) <;> conv => whnf) | (refine chk_c ?_ ?_ <;> conv => whnf) | (refine And.intro ?_ rfl) | (refine And.intro ?_ ?_ <;> conv => whnf))
  all_goals first
    | (refine ⟨?_⟩; show s.regs.length + 1 ≤ 2147483647; omega)
    | (refine ⟨?_⟩; simp; omega)
    | (refine ⟨?_⟩; omega)
    | rfl
    | trivial
    | trace_state
theorem ok_impl_held : FunOk Try.prog c_impl_held := funOk (E := [c_slices_Clone_Word]) (envOk_cons ok_slices_Clone_Word (envOk_nil)) mixd Try.func82 (pf := pf_impl_held) (by kernel_rfl) fun ts K h => by
  obtain ⟨t0, e0, h⟩ := as1_out h
  subst e0
  obtain ⟨s, e1, hq⟩ := arG_out rd_side h
  clear h
  subst e1
  have h := hq
  clear hq
  obtain ⟨hpre, h⟩ := chk_o h
  exact ⟨_, _, h, Nat.le_of_ble_eq_true (show Nat.ble 1 Try.f82.ntmps = true by kernel_rfl), _, run_impl_held s hpre⟩

def pf_impl_crosses : PF := ⟨[.t 6], .seq (.reg [.s (.box 3 (.t 0)), .s (.mv 6 (.k (.v (.c .ff))))]) (.seq (.rgd [.s (.load 8 true 2 (.t 3)), .s (.mv 9 (.t 2)), .s (.call (some 10) 29 [(.t 8), (.t 9)]), .s (.load 11 true 2 (.t 3)), .s (.mv 12 (.t 2)), .s (.call (some 13) 34 [(.t 11), (.t 12)]), .s (.app 14 (.int .i64) (.t 10) (.t 13)), .s (.alloc 7 [.nils (.int .i64)]), .s (.store 1 (.t 7) (.t 14))] (.tk 0 (.tk 1 (.tk 3 (.tk 4 (.alt 2 (.alt 5 (.alt 6 (.one 7 false (.one 8 true (.done (some [1, 3, 7])))) (.alt 7 (.one 6 false (.one 8 true (.done (some [1, 3, 7])))) (.nil))) (.alt 7 (.one 5 false (.one 6 false (.one 8 true (.done (some [1, 3, 7]))))) (.nil))) (.alt 7 (.one 2 false (.one 5 false (.one 6 false (.one 8 true (.done (some [1, 3, 7])))))) (.nil)))))))) (.seq (.reg [.s (.load 15 true 2 (.t 3)), .s (.mv 16 (.t 1)), .s (.call (some 17) 34 [(.t 15), (.t 16)]), .s (.mkf 18 123 [(.t 7)]), .s (.call (some 19) 122 [(.t 17), (.t 18)]), .s (.mv 6 (.t 19))]) (.ret)))⟩
def c_impl_crosses : Fun := ⟨85, [], fun ts K => as3 ts fun t0 t1 t2 => arG pMemT t0 fun m => arC (pL .word) t1 fun a => arC (pL .word) t2 fun b => chk (LMem m 2147483647 ∧ a.length ≤ 1048576 ∧ b.length ≤ 1048576) (K (tB (crossesB m a b)) [])⟩
theorem run_impl_crosses (m : Mem) (a : List (FT.Ty .word)) (b : List (FT.Ty .word)) (hpre : LMem m 2147483647 ∧ a.length ≤ 1048576 ∧ b.length ≤ 1048576) : runK [c_impl_LoadCells, c_impl_StoreCells, c_slices_ContainsFunc_int__impl_crosses_1, c_impl_crosses_1] (0) [] pf_impl_crosses [tG (m.tc false []), tL false .word a, tL false .word b] fun r o => r = tB (crossesB m a b) ∧ o = [] := by
  obtain ⟨l0, l1, l2⟩ := hpre
  have c1 := cellsBy_le m a 2
  have c2 := cellsBy_le m b 1
  have c3 := cellsBy_le m b 2
  conv => whnf
  repeat' (first | (refine sel_i (fun h => ?_) (fun h => ?_) <;> conv => whnf) | (refine chk_c ?_ ?_ <;> conv => whnf) | (refine And.intro ?_ rfl) | (refine And.intro ?_ ?_ <;> conv => whnf))
  all_goals first
    | (refine ⟨?_⟩; exact ⟨l0, l1⟩)
    | (refine ⟨?_⟩; exact ⟨l0, l2⟩)
    | (refine ⟨?_⟩; simp only [etaMemory, List.length_append]; omega)
    | rfl
    | trivial
    | trace_state
theorem ok_impl_crosses : FunOk Try.prog c_impl_crosses := funOk (E := [c_impl_LoadCells, c_impl_StoreCells, c_slices_ContainsFunc_int__impl_crosses_1, c_impl_crosses_1]) (envOk_cons ok_impl_LoadCells (envOk_cons ok_impl_StoreCells (envOk_cons ok_slices_ContainsFunc_int__impl_crosses_1 (envOk_cons ok_impl_crosses_1 (envOk_nil))))) mixd Try.func85 (pf := pf_impl_crosses) (by kernel_rfl) fun ts K h => by
  obtain ⟨t0, t1, t2, e0, h⟩ := as3_out h
  subst e0
  obtain ⟨m, e1, hq⟩ := arG_out rd_mem h
  clear h
  subst e1
  have h := hq
  clear hq
  obtain ⟨a, e1, hq⟩ := arC_out (rd_l .word) h
  clear h
  subst e1
  have h := hq
  clear hq
  obtain ⟨b, e1, hq⟩ := arC_out (rd_l .word) h
  clear h
  subst e1
  have h := hq
  clear hq
  obtain ⟨hpre, h⟩ := chk_o h
  exact ⟨_, _, h, Nat.le_of_ble_eq_true (show Nat.ble 3 Try.f85.ntmps = true by kernel_rfl), _, run_impl_crosses m a b hpre⟩

def lb_spec_l22Meet_0 : PC := .seq (.seq (.reg [.s (.mv 13 (.t 6)), .s (.mv 14 (.t 1)), .s (.len 15 false (.t 14)), .s (.bin 16 .lss (.t 13) (.t 15))]) (.cond (.t 16) (.skip) (.exit 2))) (.seq (.blk 3 (.seq (.rgd [.s (.mv 19 (.t 0)), .s (.mv 20 (.t 5)), .s (.ia 21 (.int .i64) (.t 19) (.t 20)), .s (.load 22 false 1 (.t 21)), .s (.mv 23 (.t 1)), .s (.mv 24 (.t 6)), .s (.ia 25 (.int .i64) (.t 23) (.t 24)), .s (.load 26 false 1 (.t 25)), .s (.bin 27 .eql (.t 22) (.t 26))] (.tk 0 (.tk 1 (.tk 2 (.tk 3 (.tk 4 (.tk 5 (.tk 6 (.tk 7 (.tk 8 (.done none))))))))))) (.cond (.t 27) (.seq (.reg [.s (.mv 4 (.k (.v (.c .tt))))]) (.ret)) (.skip)))) (.reg [.s (.mv 17 (.t 6)), .s (.bin 18 .add (.t 17) (.k (.v (.c (.int .i64 1))))), .s (.mv 6 (.t 18))]))
def lb_spec_l22Meet_1 : PC := .seq (.seq (.reg [.s (.mv 7 (.t 5)), .s (.mv 8 (.t 0)), .s (.len 9 false (.t 8)), .s (.bin 10 .lss (.t 7) (.t 9))]) (.cond (.t 10) (.skip) (.exit 0))) (.seq (.blk 1 (.seq (.reg [.s (.mv 6 (.k (.v (.c (.int .i64 0)))))]) (.blk 2 (.loop [0, 1, 5, 6] lb_spec_l22Meet_0)))) (.reg [.s (.mv 11 (.t 5)), .s (.bin 12 .add (.t 11) (.k (.v (.c (.int .i64 1))))), .s (.mv 5 (.t 12))]))
def pf_spec_l22Meet : PF := ⟨[.t 4], .seq (.reg [.s (.mv 4 (.k (.v (.c .ff))))]) (.seq (.seq (.reg [.s (.mv 5 (.k (.v (.c (.int .i64 0)))))]) (.blk 0 (.loop [0, 1, 5] lb_spec_l22Meet_1))) (.seq (.reg [.s (.mv 4 (.k (.v (.c .ff))))]) (.ret)))⟩
def c_spec_l22Meet : Fun := ⟨80, [], fun ts K => as2 ts fun t0 t1 => arC (pL (.int .i64)) t0 fun a => arC (pL (.int .i64)) t1 fun b => chk (a.length ≤ 2147483647 ∧ b.length ≤ 2147483647) (K (tB (meetI a b)) [])⟩
theorem run_spec_l22Meet (a : List (FT.Ty (.int .i64))) (b : List (FT.Ty (.int .i64))) (hpre : a.length ≤ 2147483647 ∧ b.length ≤ 2147483647) : runK [] (a.length + b.length + 1) [] pf_spec_l22Meet [tL false (.int .i64) a, tL false (.int .i64) b] fun r o => r = tB (meetI a b) ∧ o = [] := by
  obtain ⟨l1, l2⟩ := hpre
  conv => whnf
  refine loop (α := Nat) (fun i => ⟨[(0, .v (.c (.sl false (.int .i64) 0))), (1, .v (.c (.sl false (.int .i64) 1))), (5, .v (.c (.int .i64 (i : Int))))], [(1, some (.flat false (.int .i64) none b)), (0, some (.flat false (.int .i64) none a))], nums.tail.tail, [], false, []⟩)
      (fun i => i ≤ a.length ∧ (a.drop i).any (fun n => b.any (fun x => n == x)) = meetI a b) (fun i => a.length - i) (fun i R hI hR => ?_) 0 _ ⟨by simp, by simp [meetI]⟩ (by omega)
  obtain ⟨hi, hx⟩ := hI
  conv => whnf
  refine sel_i (fun h => ?_) (fun h => ?_)
  · have hlt : i < a.length := by simpa using h
    clear h
    conv => whnf
    refine loop (α := Nat) (fun j => ⟨[(0, .v (.c (.sl false (.int .i64) 0))), (1, .v (.c (.sl false (.int .i64) 1))), (5, .v (.c (.int .i64 (i : Int)))), (6, .v (.c (.int .i64 (j : Int))))], [(1, some (.flat false (.int .i64) none b)), (0, some (.flat false (.int .i64) none a))], nums.tail.tail, [], false, []⟩)
        (fun j => j ≤ b.length ∧ (b.drop j).any (fun x => a.getD i (FT.zero (.int .i64)) == x) = b.any (fun x => a.getD i (FT.zero (.int .i64)) == x)) (fun j => b.length - j) (fun j R2 hI2 hR2 => ?_) 0 _ ⟨by simp, by simp⟩ (by omega)
    obtain ⟨hj, hy⟩ := hI2
    conv => whnf
    repeat' (first | (refine sel_i (fun h => ?_) (fun h => ?_) <;> conv => whnf) | (refine chk_c ?_ ?_ <;> conv => whnf) | (refine And.intro ?_ rfl) | (refine And.intro ?_ ?_ <;> conv => whnf))
    all_goals (try simp only [Int.toNat_natCast, decide_eq_true_eq, decide_eq_false_iff_not] at *)
    all_goals first
      | (refine ⟨?_⟩; omega)
      | (have e := any_yes (z := FT.zero (.int .i64)) (p := fun x => a.getD i (FT.zero (.int .i64)) == x) (by omega) (by assumption) hy
         rw [show meetI a b = true from any_yes (z := FT.zero (.int .i64)) (p := fun n => b.any (fun x => n == x)) hlt e hx]; done)
      | (rw [wrap_id (n := (j : Int) + 1) (by omega) (by omega)]
         exact hR2 (j + 1) ⟨by omega, any_no (z := FT.zero (.int .i64)) (p := fun x => a.getD i (FT.zero (.int .i64)) == x) (by omega) (by assumption) hy⟩ (by omega))
      | (have e := any_end (p := fun x => a.getD i (FT.zero (.int .i64)) == x) (by omega) hy
         rw [wrap_id (n := (i : Int) + 1) (by omega) (by omega)]
         exact hR (i + 1) ⟨by omega, any_no (z := FT.zero (.int .i64)) (p := fun n => b.any (fun x => n == x)) hlt e hx⟩ (by omega))
      | trace_state
  · conv => whnf
    rw [show meetI a b = false from any_end (by simp at h; omega) hx]
    exact ⟨rfl, rfl⟩
theorem ok_spec_l22Meet : FunOk Try.prog c_spec_l22Meet := funOk (E := []) (envOk_nil) mixd Try.func80 (pf := pf_spec_l22Meet) (by kernel_rfl) fun ts K h => by
  obtain ⟨t0, t1, e0, h⟩ := as2_out h
  subst e0
  obtain ⟨a, e1, hq⟩ := arC_out (rd_l (.int .i64)) h
  clear h
  subst e1
  have h := hq
  clear hq
  obtain ⟨b, e1, hq⟩ := arC_out (rd_l (.int .i64)) h
  clear h
  subst e1
  have h := hq
  clear hq
  obtain ⟨hpre, h⟩ := chk_o h
  exact ⟨_, _, h, Nat.le_of_ble_eq_true (show Nat.ble 2 Try.f80.ntmps = true by kernel_rfl), _, run_spec_l22Meet a b hpre⟩

def pf_impl_Apart : PF := ⟨[.t 2], .seq (.reg [.s (.box 1 (.t 0)), .s (.mv 2 (.k (.v (.c .ff))))]) (.seq (.rgd [.s (.fa 5 (.t 1) 2), .s (.load 6 true 8 (.t 5)), .s (.call (some 7) 82 [(.t 6)]), .s (.fa 8 (.t 1) 10), .s (.load 9 true 8 (.t 8)), .s (.call (some 10) 82 [(.t 9)]), .s (.mv 3 (.t 7)), .s (.mv 4 (.t 10))] (.tk 0 (.tk 1 (.tk 3 (.tk 4 (.one 2 false (.one 5 true (.tk 6 (.tk 7 (.done none)))))))))) (.seq (.seq (.reg [.s (.load 11 true 18 (.t 1)), .s (.call (some 12) 83 [(.t 11)]), .s (.bnot 13 (.t 12)), .s (.mv 14 (.t 13)), .g 14 false (some 15) (.fa 15 (.t 1) 0), .g 14 false (some 16) (.load 16 true 2 (.t 15)), .g 14 false (some 17) (.mv 17 (.t 3)), .g 14 false (some 18) (.call (some 18) 84 [(.t 16), (.t 17)]), .s (.pick 19 (.t 14) (.k (.v (.c .tt))) (.t 18)), .s (.mv 20 (.t 19)), .g 20 false (some 21) (.fa 21 (.t 1) 0), .g 20 false (some 22) (.load 22 true 2 (.t 21)), .g 20 false (some 23) (.mv 23 (.t 4)), .g 20 false (some 24) (.call (some 24) 84 [(.t 22), (.t 23)]), .s (.pick 25 (.t 20) (.k (.v (.c .tt))) (.t 24))]) (.cond (.t 25) (.seq (.reg [.s (.mv 2 (.k (.v (.c .ff))))]) (.ret)) (.skip))) (.seq (.reg [.s (.fa 26 (.t 1) 0), .s (.load 27 true 2 (.t 26)), .s (.mv 28 (.t 3)), .s (.mv 29 (.t 4)), .s (.call (some 30) 85 [(.t 27), (.t 28), (.t 29)]), .s (.bnot 31 (.t 30)), .s (.mv 32 (.t 31)), .g 32 true (some 33) (.fa 33 (.t 1) 0), .g 32 true (some 34) (.load 34 true 2 (.t 33)), .g 32 true (some 35) (.mv 35 (.t 4)), .g 32 true (some 36) (.mv 36 (.t 3)), .g 32 true (some 37) (.call (some 37) 85 [(.t 34), (.t 35), (.t 36)]), .g 32 true (some 38) (.bnot 38 (.t 37)), .s (.pick 39 (.t 32) (.t 38) (.k (.v (.c .ff)))), .s (.mv 2 (.t 39))]) (.ret))))⟩
def c_impl_Apart : Fun := ⟨40, [], fun ts K => as1 ts fun t0 => arG pTwoT t0 fun t => chk (LTwo t 1048576) (K (tB (apartB t)) [])⟩
theorem run_impl_Apart (t : Two) (hpre : LTwo t 1048576) : runK [c_impl_held, c_impl_TwoOk, c_impl_CanSeal, c_impl_crosses] (0) [] pf_impl_Apart [tG (t.tc false [])] fun r o => r = tB (apartB t) ∧ o = [] := by
  have hz2 : LTwo t 2147483647 := hpre.mono (by decide)
  obtain ⟨l0, l1, l2⟩ := hpre
  have hm : LMem t.mem 2147483647 := hz2.1
  conv => whnf
  repeat' (first | (refine sel_i (fun h => ?_) (fun h => ?_) <;> conv => whnf) | (refine chk_c ?_ ?_ <;> conv => whnf) | (refine And.intro ?_ rfl) | (refine And.intro ?_ ?_ <;> conv => whnf))
  all_goals (try simp only [etaKey, etaWord, etaMemory, etaSide, etaTwo, Bool.not_eq_true', Bool.not_eq_false'] at *)
  all_goals first
    | (refine ⟨?_⟩; assumption)
    | (refine ⟨?_⟩; omega)
    | (have hh := twoOk_len (by assumption); refine ⟨?_⟩; exact ⟨hm, by simp only [heldW, List.length_append, hh.1, hh.2, List.length_cons, List.length_nil]; omega⟩)
    | (have hh := twoOk_len (by assumption); refine ⟨?_⟩; exact ⟨hm, by simp only [heldW, List.length_append, hh.1, hh.2, List.length_cons, List.length_nil]; omega, by simp only [heldW, List.length_append, hh.1, hh.2, List.length_cons, List.length_nil]; omega⟩)
    | (simp only [apartB, *, Bool.not_true, Bool.not_false, Bool.and_true, Bool.true_and, Bool.and_false, Bool.false_and]; done)
    | trace_state
theorem ok_impl_Apart : FunOk Try.prog c_impl_Apart := funOk (E := [c_impl_held, c_impl_TwoOk, c_impl_CanSeal, c_impl_crosses]) (envOk_cons ok_impl_held (envOk_cons ok_impl_TwoOk (envOk_cons ok_impl_CanSeal (envOk_cons ok_impl_crosses (envOk_nil))))) mixd Try.func40 (pf := pf_impl_Apart) (by kernel_rfl) fun ts K h => by
  obtain ⟨t0, e0, h⟩ := as1_out h
  subst e0
  obtain ⟨t, e1, hq⟩ := arG_out rd_two h
  clear h
  subst e1
  have h := hq
  clear hq
  obtain ⟨hpre, h⟩ := chk_o h
  exact ⟨_, _, h, Nat.le_of_ble_eq_true (show Nat.ble 1 Try.f40.ntmps = true by kernel_rfl), _, run_impl_Apart t hpre⟩

def pf_spec_Apart : PF := ⟨[.t 2], .seq (.reg [.s (.box 1 (.t 0)), .s (.mv 2 (.k (.v (.c .ff))))]) (.seq (.seq (.reg [.s (.load 7 true 18 (.t 1)), .s (.call (some 8) 77 [(.t 7)]), .s (.bnot 9 (.t 8))]) (.cond (.t 9) (.seq (.reg [.s (.mv 2 (.k (.v (.c .ff))))]) (.ret)) (.skip))) (.seq (.rgd [.s (.fa 10 (.t 1) 2), .s (.load 11 true 8 (.t 10)), .s (.call (some 12) 78 [(.t 11)]), .s (.fa 13 (.t 1) 10), .s (.load 14 true 8 (.t 13)), .s (.call (some 15) 78 [(.t 14)]), .s (.mv 3 (.t 12)), .s (.mv 4 (.t 15))] (.tk 0 (.tk 1 (.tk 3 (.tk 4 (.one 2 false (.one 5 true (.tk 6 (.tk 7 (.done none)))))))))) (.seq (.seq (.reg [.s (.fa 16 (.t 1) 0), .s (.load 17 true 2 (.t 16)), .s (.mv 18 (.t 3)), .s (.call (some 19) 79 [(.t 17), (.t 18)]), .s (.mv 20 (.t 19)), .g 20 false (some 21) (.fa 21 (.t 1) 0), .g 20 false (some 22) (.load 22 true 2 (.t 21)), .g 20 false (some 23) (.mv 23 (.t 4)), .g 20 false (some 24) (.call (some 24) 79 [(.t 22), (.t 23)]), .s (.pick 25 (.t 20) (.k (.v (.c .tt))) (.t 24))]) (.cond (.t 25) (.seq (.reg [.s (.mv 2 (.k (.v (.c .ff))))]) (.ret)) (.skip))) (.seq (.rgd [.s (.fa 26 (.t 1) 0), .s (.load 27 true 2 (.t 26)), .s (.mv 28 (.t 3)), .s (.call (some 29) 33 [(.t 27), (.t 28)]), .s (.fa 30 (.t 1) 0), .s (.load 31 true 2 (.t 30)), .s (.mv 32 (.t 4)), .s (.call (some 33) 33 [(.t 31), (.t 32)]), .s (.mv 5 (.t 29)), .s (.mv 6 (.t 33))] (.tk 0 (.tk 1 (.tk 2 (.tk 4 (.tk 5 (.tk 6 (.one 3 false (.one 7 true (.tk 8 (.tk 9 (.done none)))))))))))) (.seq (.reg [.s (.mv 34 (.t 5)), .s (.mv 35 (.t 6)), .s (.call (some 36) 80 [(.t 34), (.t 35)]), .s (.bnot 37 (.t 36)), .s (.mv 38 (.t 37)), .g 38 true (some 39) (.mv 39 (.t 5)), .g 38 true (some 40) (.fa 40 (.t 1) 0), .g 38 true (some 41) (.load 41 true 2 (.t 40)), .g 38 true (some 42) (.mv 42 (.t 4)), .g 38 true (some 43) (.call (some 43) 28 [(.t 41), (.t 42)]), .g 38 true (some 44) (.call (some 44) 80 [(.t 39), (.t 43)]), .g 38 true (some 45) (.bnot 45 (.t 44)), .s (.pick 46 (.t 38) (.t 45) (.k (.v (.c .ff)))), .s (.mv 47 (.t 46)), .g 47 true (some 48) (.mv 48 (.t 6)), .g 47 true (some 49) (.fa 49 (.t 1) 0), .g 47 true (some 50) (.load 50 true 2 (.t 49)), .g 47 true (some 51) (.mv 51 (.t 3)), .g 47 true (some 52) (.call (some 52) 28 [(.t 50), (.t 51)]), .g 47 true (some 53) (.call (some 53) 80 [(.t 48), (.t 52)]), .g 47 true (some 54) (.bnot 54 (.t 53)), .s (.pick 55 (.t 47) (.t 54) (.k (.v (.c .ff)))), .s (.mv 2 (.t 55))]) (.ret))))))⟩
def c_spec_Apart : Fun := ⟨38, [], fun ts K => as1 ts fun t0 => arG pTwoT t0 fun t => chk (LTwo t 1048576) (K (tB (apartB t)) [])⟩
theorem run_spec_Apart (t : Two) (hpre : LTwo t 1048576) : runK [c_spec_LoadCells, c_spec_StoreCells, c_spec_TwoOk, c_spec_l22Words, c_spec_CanSeal, c_spec_l22Meet] (0) [] pf_spec_Apart [tG (t.tc false [])] fun r o => r = tB (apartB t) ∧ o = [] := by
  have hz2 : LTwo t 2147483647 := hpre.mono (by decide)
  obtain ⟨l0, l1, l2⟩ := hpre
  have hm : LMem t.mem 2147483647 := hz2.1
  have hs : apartB t = (twoOk t && !canSeal t.mem (heldW t.a) && !canSeal t.mem (heldW t.b) && (!meetI (cellsBy t.mem (heldW t.a) 2) (cellsBy t.mem (heldW t.b) 2) && !meetI (cellsBy t.mem (heldW t.a) 2) (cellsBy t.mem (heldW t.b) 1) && !meetI (cellsBy t.mem (heldW t.b) 2) (cellsBy t.mem (heldW t.a) 1))) := by
    rw [← apart_spec]; rfl
  have c1 := cellsBy_le t.mem (heldW t.a) 2
  have c2 := cellsBy_le t.mem (heldW t.b) 2
  have c3 := cellsBy_le t.mem (heldW t.a) 1
  have c4 := cellsBy_le t.mem (heldW t.b) 1
  rw [hs]
  clear hs
  conv => whnf
  repeat' (first | (refine sel_i (fun h => ?_) (fun h => ?_) <;> conv => whnf) | (refine chk_c ?_ ?_ <;> conv => whnf) | (refine And.intro ?_ rfl) | (refine And.intro ?_ ?_ <;> conv => whnf))
  all_goals (try simp only [etaKey, etaWord, etaMemory, etaSide, etaTwo, Bool.not_eq_true', Bool.not_eq_false'] at *)
  all_goals first
    | (refine ⟨?_⟩; assumption)
    | (refine ⟨?_⟩; omega)
    | (have hh := twoOk_len (by assumption); refine ⟨?_⟩; exact ⟨hm, by simp only [heldW, List.length_append, hh.1, hh.2, List.length_cons, List.length_nil]; omega⟩)
    | (simp only [*, Bool.not_true, Bool.not_false, Bool.and_true, Bool.true_and, Bool.and_false, Bool.false_and]; done)
    | trace_state
theorem ok_spec_Apart : FunOk Try.prog c_spec_Apart := funOk (E := [c_spec_LoadCells, c_spec_StoreCells, c_spec_TwoOk, c_spec_l22Words, c_spec_CanSeal, c_spec_l22Meet]) (envOk_cons ok_spec_LoadCells (envOk_cons ok_spec_StoreCells (envOk_cons ok_spec_TwoOk (envOk_cons ok_spec_l22Words (envOk_cons ok_spec_CanSeal (envOk_cons ok_spec_l22Meet (envOk_nil))))))) mixd Try.func38 (pf := pf_spec_Apart) (by kernel_rfl) fun ts K h => by
  obtain ⟨t0, e0, h⟩ := as1_out h
  subst e0
  obtain ⟨t, e1, hq⟩ := arG_out rd_two h
  clear h
  subst e1
  have h := hq
  clear hq
  obtain ⟨hpre, h⟩ := chk_o h
  exact ⟨_, _, h, Nat.le_of_ble_eq_true (show Nat.ble 1 Try.f38.ntmps = true by kernel_rfl), _, run_spec_Apart t hpre⟩
end Go.Pi
