/- Contracts of functions, each out of its run by PI. No conditions. -/
import Derived.Test.YtepkbkojgbcahaaCF
namespace Go.Pi
open Go.Proofs
set_option linter.unusedVariables false
set_option linter.unusedSimpArgs false
set_option maxRecDepth 100000
attribute [local irreducible] iterN
def pf_impl_MemoryOk_1 : PF := ⟨[.t 2], .seq (.reg [.s (.box 1 (.t 0)), .s (.mv 2 (.k (.v (.c .ff))))]) (.seq (.reg [.s (.load 3 true 6 (.t 1)), .s (.call (some 4) 60 [(.t 3)]), .s (.bnot 5 (.t 4)), .s (.mv 2 (.t 5))]) (.ret))⟩
def c_impl_MemoryOk_1 : Fun := ⟨109, [], fun ts K => as1 ts fun t0 => arG pWordT t0 fun w => K (tB (!wordOk w)) []⟩
theorem run_impl_MemoryOk_1 (w : Word) : runK [c_impl_WordOk] (0) [] pf_impl_MemoryOk_1 [tG (w.tc [])] fun r o => r = tB (!wordOk w) ∧ o = [] := by
  conv => whnf
  repeat' (first
    | exact rfl
    | exact trivial
    | (refine sel_i (fun h => ?_) (fun h => ?_) <;> conv => whnf)
    | (refine chk_c ?_ ?_ <;> conv => whnf)
    | (refine And.intro ?_ ?_ <;> conv => whnf))
theorem ok_impl_MemoryOk_1 : FunOk Try.prog c_impl_MemoryOk_1 := funOk (E := [c_impl_WordOk]) (envOk_cons ok_impl_WordOk (envOk_nil)) mixd Try.func109 (pf := pf_impl_MemoryOk_1) (by kernel_rfl) fun ts K h => by
  obtain ⟨t0, e0, h⟩ := as1_out h
  subst e0
  obtain ⟨w, e1, hq⟩ := arG_out rd_word h
  clear h
  subst e1
  have h := hq
  clear hq
  exact ⟨_, _, h, Nat.le_of_ble_eq_true (show Nat.ble 1 Try.f109.ntmps = true by kernel_rfl), _, run_impl_MemoryOk_1 w⟩

def pf_impl_wordsOk_1 : PF := ⟨[.t 2], .seq (.reg [.s (.box 1 (.t 0)), .s (.mv 2 (.k (.v (.c .ff))))]) (.seq (.reg [.s (.load 3 true 6 (.t 1)), .s (.call (some 4) 60 [(.t 3)]), .s (.bnot 5 (.t 4)), .s (.mv 2 (.t 5))]) (.ret))⟩
def c_impl_wordsOk_1 : Fun := ⟨148, [], fun ts K => as1 ts fun t0 => arG pWordT t0 fun w => K (tB (!wordOk w)) []⟩
theorem run_impl_wordsOk_1 (w : Word) : runK [c_impl_WordOk] (0) [] pf_impl_wordsOk_1 [tG (w.tc [])] fun r o => r = tB (!wordOk w) ∧ o = [] := by
  conv => whnf
  repeat' (first
    | exact rfl
    | exact trivial
    | (refine sel_i (fun h => ?_) (fun h => ?_) <;> conv => whnf)
    | (refine chk_c ?_ ?_ <;> conv => whnf)
    | (refine And.intro ?_ ?_ <;> conv => whnf))
theorem ok_impl_wordsOk_1 : FunOk Try.prog c_impl_wordsOk_1 := funOk (E := [c_impl_WordOk]) (envOk_cons ok_impl_WordOk (envOk_nil)) mixd Try.func148 (pf := pf_impl_wordsOk_1) (by kernel_rfl) fun ts K h => by
  obtain ⟨t0, e0, h⟩ := as1_out h
  subst e0
  obtain ⟨w, e1, hq⟩ := arG_out rd_word h
  clear h
  subst e1
  have h := hq
  clear hq
  exact ⟨_, _, h, Nat.le_of_ble_eq_true (show Nat.ble 1 Try.f148.ntmps = true by kernel_rfl), _, run_impl_wordsOk_1 w⟩

def lb_slices_IndexFunc_Word_0 : PC := .seq (.reg [.s (.bin 9 .lss (.t 8) (.t 7))]) (.seq (.cond (.t 9) (.skip) (.exit 0)) (.seq (.blk 1 (.seq (.reg [.s (.mv 10 (.t 8)), .s (.mv 5 (.t 10))]) (.seq (.reg [.s (.mv 11 (.t 1)), .s (.mv 12 (.t 0)), .s (.mv 13 (.t 5)), .s (.ia 14 .word (.t 12) (.t 13)), .s (.load 15 true 6 (.t 14)), .s (.callv (some 16) (.t 11) [(.t 15)])]) (.cond (.t 16) (.seq (.reg [.s (.mv 17 (.t 5)), .s (.mv 4 (.t 17))]) (.ret)) (.skip))))) (.reg [.s (.bin 18 .add (.t 8) (.k (.v (.c (.int .i64 1))))), .s (.mv 8 (.t 18))])))
def pf_slices_IndexFunc_Word : PF := ⟨[.t 4], .seq (.reg [.s (.mv 4 (.k (.v (.c (.int .i64 0)))))]) (.seq (.seq (.reg [.s (.mv 6 (.t 0)), .s (.len 7 false (.t 6)), .s (.mv 8 (.k (.v (.c (.int .i64 0)))))]) (.blk 0 (.loop [0, 1, 7, 8] lb_slices_IndexFunc_Word_0))) (.seq (.reg [.s (.mv 4 (.k (.v (.c (.int .i64 (-1))))))]) (.ret)))⟩
def c_slices_IndexFunc_Word__impl_MemoryOk_1 : Fun := ⟨111, [], fun ts K => as2 ts fun t0 t1 => arC (pL .word) t0 fun xs => arF0 109 t1 fun g => chk (xs.length ≤ 2147483647) (K (tN (idxOf (fun w => !wordOk w) xs)) [])⟩
theorem run_slices_IndexFunc_Word__impl_MemoryOk_1 (xs : List (FT.Ty .word)) (g : Unit) (hpre : xs.length ≤ 2147483647) : runK [c_impl_MemoryOk_1] (xs.length + 1) [] pf_slices_IndexFunc_Word [tL false .word xs, .fn 109 []] fun r o => r = tN (idxOf (fun w => !wordOk w) xs) ∧ o = [] := by
  conv => whnf
  refine loop (α := Nat) (fun i => ⟨[(0, .v (.c (.sl false .word 0))), (1, .fn 109 []), (7, .v (.c (.int .i64 (xs.length : Int)))), (8, .v (.c (.int .i64 (i : Int))))], [(0, some (.flat false .word none xs))], nums.tail, [], false, []⟩)
      (fun i => i ≤ xs.length ∧ idxOf (fun w => !wordOk w) xs = idxGo (fun w => !wordOk w) (xs.drop i) i) (fun i => xs.length - i) (fun i R hI hR => ?_) 0 _ ⟨by simp, rfl⟩ (by simp)
  obtain ⟨hi, hx⟩ := hI
  conv => whnf
  refine sel_i (fun h2 => ?_) (fun h2 => ?_)
  · have hlt : i < xs.length := by simp at h2; omega
    conv => whnf
    repeat (refine chk_i (by first | omega | (simp; omega)) ?_; conv => whnf)
    refine sel_i (fun h3 => ?_) (fun h3 => ?_)
    · conv => whnf
      rw [hx, idxGo_yes (z := FT.zero .word) hlt (by first | (simp only [keyEq] at h3; exact h3) | (simpa using h3))]
      exact ⟨rfl, rfl⟩
    · conv => whnf
      rw [wrap_id (n := (i : Int) + 1) (by omega) (by omega)]
      exact hR (i + 1) ⟨by omega, by rw [hx, idxGo_no (z := FT.zero .word) hlt (by first | (simp only [keyEq] at h3; exact h3) | (simpa using h3))]⟩ (by omega)
  · conv => whnf
    rw [hx, idxGo_end (by simp at h2; omega)]
    exact ⟨rfl, rfl⟩
theorem ok_slices_IndexFunc_Word__impl_MemoryOk_1 : FunOk Try.prog c_slices_IndexFunc_Word__impl_MemoryOk_1 := funOk (E := [c_impl_MemoryOk_1]) (envOk_cons ok_impl_MemoryOk_1 (envOk_nil)) mixd Try.func111 (pf := pf_slices_IndexFunc_Word) (by kernel_rfl) fun ts K h => by
  obtain ⟨t0, t1, e0, h⟩ := as2_out h
  subst e0
  obtain ⟨xs, e1, hq⟩ := arC_out (rd_l .word) h
  clear h
  subst e1
  have h := hq
  clear hq
  obtain ⟨g, e1, hq⟩ := arF0_out h
  clear h
  subst e1
  have h := hq
  clear hq
  obtain ⟨hpre, h⟩ := chk_o h
  exact ⟨_, _, h, Nat.le_of_ble_eq_true (show Nat.ble 2 Try.f111.ntmps = true by kernel_rfl), _, run_slices_IndexFunc_Word__impl_MemoryOk_1 xs g hpre⟩

def pf_slices_ContainsFunc_Word : PF := ⟨[.t 4], .seq (.reg [.s (.mv 4 (.k (.v (.c .ff))))]) (.seq (.reg [.s (.mv 5 (.t 0)), .s (.mv 6 (.t 1)), .s (.call (some 7) 111 [(.t 5), (.t 6)]), .s (.bin 8 .geq (.t 7) (.k (.v (.c (.int .i64 0))))), .s (.mv 4 (.t 8))]) (.ret))⟩
def c_slices_ContainsFunc_Word__impl_MemoryOk_1 : Fun := ⟨61, [], fun ts K => as2 ts fun t0 t1 => arC (pL .word) t0 fun xs => arF0 109 t1 fun g => chk (xs.length ≤ 2147483647) (K (tB (xs.any (fun w => !wordOk w))) [])⟩
theorem run_slices_ContainsFunc_Word__impl_MemoryOk_1 (xs : List (FT.Ty .word)) (g : Unit) (hpre : xs.length ≤ 2147483647) : runK [c_slices_IndexFunc_Word__impl_MemoryOk_1, c_impl_MemoryOk_1] (0) [] pf_slices_ContainsFunc_Word [tL false .word xs, .fn 109 []] fun r o => r = tB (xs.any (fun w => !wordOk w)) ∧ o = [] := by
  conv => whnf
  repeat' (first | (refine sel_i (fun h => ?_) (fun h => ?_) <;> conv => whnf) | (refine chk_c ?_ ?_ <;> conv => whnf) | (refine And.intro ?_ rfl) | (refine And.intro ?_ ?_ <;> conv => whnf))
  all_goals first | (refine ⟨?_⟩; exact hpre) | exact hpre | (rw [← idxOf_any]; rfl) | (rw [← idxOf_any])
theorem ok_slices_ContainsFunc_Word__impl_MemoryOk_1 : FunOk Try.prog c_slices_ContainsFunc_Word__impl_MemoryOk_1 := funOk (E := [c_slices_IndexFunc_Word__impl_MemoryOk_1, c_impl_MemoryOk_1]) (envOk_cons ok_slices_IndexFunc_Word__impl_MemoryOk_1 (envOk_cons ok_impl_MemoryOk_1 (envOk_nil))) mixd Try.func61 (pf := pf_slices_ContainsFunc_Word) (by kernel_rfl) fun ts K h => by
  obtain ⟨t0, t1, e0, h⟩ := as2_out h
  subst e0
  obtain ⟨xs, e1, hq⟩ := arC_out (rd_l .word) h
  clear h
  subst e1
  have h := hq
  clear hq
  obtain ⟨g, e1, hq⟩ := arF0_out h
  clear h
  subst e1
  have h := hq
  clear hq
  obtain ⟨hpre, h⟩ := chk_o h
  exact ⟨_, _, h, Nat.le_of_ble_eq_true (show Nat.ble 2 Try.f61.ntmps = true by kernel_rfl), _, run_slices_ContainsFunc_Word__impl_MemoryOk_1 xs g hpre⟩

def c_slices_IndexFunc_Word__impl_wordsOk_1 : Fun := ⟨111, [], fun ts K => as2 ts fun t0 t1 => arC (pL .word) t0 fun xs => arF0 148 t1 fun g => chk (xs.length ≤ 2147483647) (K (tN (idxOf (fun w => !wordOk w) xs)) [])⟩
theorem run_slices_IndexFunc_Word__impl_wordsOk_1 (xs : List (FT.Ty .word)) (g : Unit) (hpre : xs.length ≤ 2147483647) : runK [c_impl_wordsOk_1] (xs.length + 1) [] pf_slices_IndexFunc_Word [tL false .word xs, .fn 148 []] fun r o => r = tN (idxOf (fun w => !wordOk w) xs) ∧ o = [] := by
  conv => whnf
  refine loop (α := Nat) (fun i => ⟨[(0, .v (.c (.sl false .word 0))), (1, .fn 148 []), (7, .v (.c (.int .i64 (xs.length : Int)))), (8, .v (.c (.int .i64 (i : Int))))], [(0, some (.flat false .word none xs))], nums.tail, [], false, []⟩)
      (fun i => i ≤ xs.length ∧ idxOf (fun w => !wordOk w) xs = idxGo (fun w => !wordOk w) (xs.drop i) i) (fun i => xs.length - i) (fun i R hI hR => ?_) 0 _ ⟨by simp, rfl⟩ (by simp)
  obtain ⟨hi, hx⟩ := hI
  conv => whnf
  refine sel_i (fun h2 => ?_) (fun h2 => ?_)
  · have hlt : i < xs.length := by simp at h2; omega
    conv => whnf
    repeat (refine chk_i (by first | omega | (simp; omega)) ?_; conv => whnf)
    refine sel_i (fun h3 => ?_) (fun h3 => ?_)
    · conv => whnf
      rw [hx, idxGo_yes (z := FT.zero .word) hlt (by first | (simp only [keyEq] at h3; exact h3) | (simpa using h3))]
      exact ⟨rfl, rfl⟩
    · conv => whnf
      rw [wrap_id (n := (i : Int) + 1) (by omega) (by omega)]
      exact hR (i + 1) ⟨by omega, by rw [hx, idxGo_no (z := FT.zero .word) hlt (by first | (simp only [keyEq] at h3; exact h3) | (simpa using h3))]⟩ (by omega)
  · conv => whnf
    rw [hx, idxGo_end (by simp at h2; omega)]
    exact ⟨rfl, rfl⟩
theorem ok_slices_IndexFunc_Word__impl_wordsOk_1 : FunOk Try.prog c_slices_IndexFunc_Word__impl_wordsOk_1 := funOk (E := [c_impl_wordsOk_1]) (envOk_cons ok_impl_wordsOk_1 (envOk_nil)) mixd Try.func111 (pf := pf_slices_IndexFunc_Word) (by kernel_rfl) fun ts K h => by
  obtain ⟨t0, t1, e0, h⟩ := as2_out h
  subst e0
  obtain ⟨xs, e1, hq⟩ := arC_out (rd_l .word) h
  clear h
  subst e1
  have h := hq
  clear hq
  obtain ⟨g, e1, hq⟩ := arF0_out h
  clear h
  subst e1
  have h := hq
  clear hq
  obtain ⟨hpre, h⟩ := chk_o h
  exact ⟨_, _, h, Nat.le_of_ble_eq_true (show Nat.ble 2 Try.f111.ntmps = true by kernel_rfl), _, run_slices_IndexFunc_Word__impl_wordsOk_1 xs g hpre⟩

def c_slices_ContainsFunc_Word__impl_wordsOk_1 : Fun := ⟨61, [], fun ts K => as2 ts fun t0 t1 => arC (pL .word) t0 fun xs => arF0 148 t1 fun g => chk (xs.length ≤ 2147483647) (K (tB (xs.any (fun w => !wordOk w))) [])⟩
theorem run_slices_ContainsFunc_Word__impl_wordsOk_1 (xs : List (FT.Ty .word)) (g : Unit) (hpre : xs.length ≤ 2147483647) : runK [c_slices_IndexFunc_Word__impl_wordsOk_1, c_impl_wordsOk_1] (0) [] pf_slices_ContainsFunc_Word [tL false .word xs, .fn 148 []] fun r o => r = tB (xs.any (fun w => !wordOk w)) ∧ o = [] := by
  conv => whnf
  repeat' (first | (refine sel_i (fun h => ?_) (fun h => ?_) <;> conv => whnf) | (refine chk_c ?_ ?_ <;> conv => whnf) | (refine And.intro ?_ rfl) | (refine And.intro ?_ ?_ <;> conv => whnf))
  all_goals first | (refine ⟨?_⟩; exact hpre) | exact hpre | (rw [← idxOf_any]; rfl) | (rw [← idxOf_any])
theorem ok_slices_ContainsFunc_Word__impl_wordsOk_1 : FunOk Try.prog c_slices_ContainsFunc_Word__impl_wordsOk_1 := funOk (E := [c_slices_IndexFunc_Word__impl_wordsOk_1, c_impl_wordsOk_1]) (envOk_cons ok_slices_IndexFunc_Word__impl_wordsOk_1 (envOk_cons ok_impl_wordsOk_1 (envOk_nil))) mixd Try.func61 (pf := pf_slices_ContainsFunc_Word) (by kernel_rfl) fun ts K h => by
  obtain ⟨t0, t1, e0, h⟩ := as2_out h
  subst e0
  obtain ⟨xs, e1, hq⟩ := arC_out (rd_l .word) h
  clear h
  subst e1
  have h := hq
  clear hq
  obtain ⟨g, e1, hq⟩ := arF0_out h
  clear h
  subst e1
  have h := hq
  clear hq
  obtain ⟨hpre, h⟩ := chk_o h
  exact ⟨_, _, h, Nat.le_of_ble_eq_true (show Nat.ble 2 Try.f61.ntmps = true by kernel_rfl), _, run_slices_ContainsFunc_Word__impl_wordsOk_1 xs g hpre⟩

def memoryOk (m : Mem) : Bool := decide (m.words.length = 24) && decide (m.gone.length = 24) && m.words.all wordOk
def stateOk (s : State) : Bool := decide (s.regs.length = 8) && s.regs.all wordOk && wordOk s.pc && memoryOk s.mem && inR s.trap 0 5
theorem all_any {α : Type} (p : α → Bool) (xs : List α) : xs.any (fun w => !p w) = !xs.all p := by
  induction xs with
  | nil => rfl
  | cons x xs ih => simp [ih]
theorem all_end {α : Type} {p : α → Bool} {xs : List α} {i : Nat} (h : xs.length ≤ i) (hi : (xs.drop i).all p = xs.all p) : xs.all p = true := by
  rw [← hi, List.drop_eq_nil_of_le h]; rfl
theorem all_no {α : Type} {p : α → Bool} {z : α} {xs : List α} {i : Nat} (h : i < xs.length) (hp : p (xs.getD i z) = false) (hi : (xs.drop i).all p = xs.all p) : xs.all p = false := by
  have e : xs.getD i z = xs[i] := by simp [List.getD_eq_getElem?_getD, h]
  rw [e] at hp; rw [← hi, List.drop_eq_getElem_cons h, List.all_cons, hp]; rfl
theorem all_yes {α : Type} {p : α → Bool} {z : α} {xs : List α} {i : Nat} (h : i < xs.length) (hp : p (xs.getD i z) = true) (hi : (xs.drop i).all p = xs.all p) : (xs.drop (i + 1)).all p = xs.all p := by
  have e : xs.getD i z = xs[i] := by simp [List.getD_eq_getElem?_getD, h]
  rw [e] at hp; rw [← hi, List.drop_eq_getElem_cons h, List.all_cons, hp]; rfl
theorem eqLen (n k : Nat) : ((n : Int) == (k : Int)) = decide (n = k) := by
  rw [Bool.eq_iff_iff]; simp; omega
theorem neLen (n k : Nat) : ((n : Int) != (k : Int)) = !decide (n = k) := by
  rw [bne, eqLen]
theorem eqLen8 (n : Nat) : ((n : Int) == 8) = decide (n = 8) := eqLen n 8
theorem eqLen24 (n : Nat) : ((n : Int) == 24) = decide (n = 24) := eqLen n 24
theorem neLen24 (n : Nat) : ((n : Int) != 24) = !decide (n = 24) := neLen n 24

def pf_impl_MemoryOk : PF := ⟨[.t 2], .seq (.reg [.s (.box 1 (.t 0)), .s (.mv 2 (.k (.v (.c .ff))))]) (.seq (.reg [.s (.fa 3 (.t 1) 0), .s (.load 4 false 1 (.t 3)), .s (.len 5 false (.t 4)), .s (.bin 6 .eql (.t 5) (.k (.v (.c (.int .i64 24))))), .s (.mv 7 (.t 6)), .g 7 true (some 8) (.fa 8 (.t 1) 1), .g 7 true (some 9) (.load 9 false 1 (.t 8)), .g 7 true (some 10) (.len 10 false (.t 9)), .g 7 true (some 11) (.bin 11 .eql (.t 10) (.k (.v (.c (.int .i64 24))))), .s (.pick 12 (.t 7) (.t 11) (.k (.v (.c .ff)))), .s (.mv 13 (.t 12)), .g 13 true (some 14) (.fa 14 (.t 1) 0), .g 13 true (some 15) (.load 15 false 1 (.t 14)), .g 13 true (some 16) (.call (some 16) 61 [(.t 15), (.k (.fn 109 []))]), .g 13 true (some 17) (.bnot 17 (.t 16)), .s (.pick 18 (.t 13) (.t 17) (.k (.v (.c .ff)))), .s (.mv 2 (.t 18))]) (.ret))⟩
def c_impl_MemoryOk : Fun := ⟨58, [], fun ts K => as1 ts fun t0 => arG pMemT t0 fun m => chk (LMem m 2147483647) (K (tB (memoryOk m)) [])⟩
theorem run_impl_MemoryOk (m : Mem) (hpre : LMem m 2147483647) : runK [c_slices_ContainsFunc_Word__impl_MemoryOk_1, c_impl_MemoryOk_1] (0) [] pf_impl_MemoryOk [tG (m.tc false [])] fun r o => r = tB (memoryOk m) ∧ o = [] := by
  obtain ⟨l1, l2⟩ := hpre
  conv => whnf
  repeat' (first | (refine sel_i (fun h => ?_) (fun h => ?_) <;> conv => whnf) | (refine chk_c ?_ ?_ <;> conv => whnf) | (refine And.intro ?_ rfl) | (refine And.intro ?_ ?_ <;> conv => whnf))
  all_goals first | (refine ⟨?_⟩; exact l1) | (simp only [eqLen24, all_any] at *; simp_all [memoryOk]; done)
theorem ok_impl_MemoryOk : FunOk Try.prog c_impl_MemoryOk := funOk (E := [c_slices_ContainsFunc_Word__impl_MemoryOk_1, c_impl_MemoryOk_1]) (envOk_cons ok_slices_ContainsFunc_Word__impl_MemoryOk_1 (envOk_cons ok_impl_MemoryOk_1 (envOk_nil))) mixd Try.func58 (pf := pf_impl_MemoryOk) (by kernel_rfl) fun ts K h => by
  obtain ⟨t0, e0, h⟩ := as1_out h
  subst e0
  obtain ⟨m, e1, hq⟩ := arG_out rd_mem h
  clear h
  subst e1
  have h := hq
  clear hq
  obtain ⟨hpre, h⟩ := chk_o h
  exact ⟨_, _, h, Nat.le_of_ble_eq_true (show Nat.ble 1 Try.f58.ntmps = true by kernel_rfl), _, run_impl_MemoryOk m hpre⟩

def pf_impl_wordsOk : PF := ⟨[.t 2], .seq (.reg [.s (.mv 2 (.k (.v (.c .ff))))]) (.seq (.reg [.s (.mv 3 (.t 0)), .s (.call (some 4) 61 [(.t 3), (.k (.fn 148 []))]), .s (.bnot 5 (.t 4)), .s (.mv 2 (.t 5))]) (.ret))⟩
def c_impl_wordsOk : Fun := ⟨138, [], fun ts K => as1 ts fun t0 => arC (pL .word) t0 fun xs => chk (xs.length ≤ 2147483647) (K (tB (xs.all wordOk)) [])⟩
theorem run_impl_wordsOk (xs : List (FT.Ty .word)) (hpre : xs.length ≤ 2147483647) : runK [c_slices_ContainsFunc_Word__impl_wordsOk_1, c_impl_wordsOk_1] (0) [] pf_impl_wordsOk [tL false .word xs] fun r o => r = tB (xs.all wordOk) ∧ o = [] := by
  conv => whnf
  repeat' (first | (refine sel_i (fun h => ?_) (fun h => ?_) <;> conv => whnf) | (refine chk_c ?_ ?_ <;> conv => whnf) | (refine And.intro ?_ rfl) | (refine And.intro ?_ ?_ <;> conv => whnf))
  all_goals first | (refine ⟨?_⟩; exact hpre) | (rw [all_any]; simp; done)
theorem ok_impl_wordsOk : FunOk Try.prog c_impl_wordsOk := funOk (E := [c_slices_ContainsFunc_Word__impl_wordsOk_1, c_impl_wordsOk_1]) (envOk_cons ok_slices_ContainsFunc_Word__impl_wordsOk_1 (envOk_cons ok_impl_wordsOk_1 (envOk_nil))) mixd Try.func138 (pf := pf_impl_wordsOk) (by kernel_rfl) fun ts K h => by
  obtain ⟨t0, e0, h⟩ := as1_out h
  subst e0
  obtain ⟨xs, e1, hq⟩ := arC_out (rd_l .word) h
  clear h
  subst e1
  have h := hq
  clear hq
  obtain ⟨hpre, h⟩ := chk_o h
  exact ⟨_, _, h, Nat.le_of_ble_eq_true (show Nat.ble 1 Try.f138.ntmps = true by kernel_rfl), _, run_impl_wordsOk xs hpre⟩

def pf_impl_StateOk : PF := ⟨[.t 2], .seq (.reg [.s (.box 1 (.t 0)), .s (.mv 2 (.k (.v (.c .ff))))]) (.seq (.reg [.s (.fa 3 (.t 1) 0), .s (.load 4 false 1 (.t 3)), .s (.len 5 false (.t 4)), .s (.bin 6 .eql (.t 5) (.k (.v (.c (.int .i64 8))))), .s (.mv 7 (.t 6)), .g 7 true (some 8) (.fa 8 (.t 1) 0), .g 7 true (some 9) (.load 9 false 1 (.t 8)), .g 7 true (some 10) (.call (some 10) 138 [(.t 9)]), .s (.pick 11 (.t 7) (.t 10) (.k (.v (.c .ff)))), .s (.mv 12 (.t 11)), .g 12 true (some 13) (.fa 13 (.t 1) 1), .g 12 true (some 14) (.load 14 true 6 (.t 13)), .g 12 true (some 15) (.call (some 15) 60 [(.t 14)]), .s (.pick 16 (.t 12) (.t 15) (.k (.v (.c .ff)))), .s (.mv 17 (.t 16)), .g 17 true (some 18) (.fa 18 (.t 1) 7), .g 17 true (some 19) (.load 19 true 2 (.t 18)), .g 17 true (some 20) (.call (some 20) 58 [(.t 19)]), .s (.pick 21 (.t 17) (.t 20) (.k (.v (.c .ff)))), .s (.mv 22 (.t 21)), .g 22 true (some 23) (.fa 23 (.t 1) 9), .g 22 true (some 24) (.load 24 false 1 (.t 23)), .g 22 true (some 25) (.call (some 25) 103 [(.t 24), (.k (.v (.c (.int .i64 0)))), (.k (.v (.c (.int .i64 5))))]), .s (.pick 26 (.t 22) (.t 25) (.k (.v (.c .ff)))), .s (.mv 2 (.t 26))]) (.ret))⟩
def c_impl_StateOk : Fun := ⟨119, [], fun ts K => as1 ts fun t0 => arG pStateT t0 fun s => chk (LState s 2147483647) (K (tB (stateOk s)) [])⟩
theorem run_impl_StateOk (s : State) (hpre : LState s 2147483647) : runK [c_impl_MemoryOk, c_impl_WordOk, c_impl_in, c_impl_wordsOk] (0) [] pf_impl_StateOk [tG (s.tc false [])] fun r o => r = tB (stateOk s) ∧ o = [] := by
  obtain ⟨l0, l1, l2⟩ := hpre
  conv => whnf
  repeat' (first | (refine sel_i (fun h => ?_) (fun h => ?_) <;> conv => whnf) | (refine chk_c ?_ ?_ <;> conv => whnf) | (refine And.intro ?_ rfl) | (refine And.intro ?_ ?_ <;> conv => whnf))
  all_goals first | (refine ⟨?_⟩; exact l0) | (refine ⟨?_⟩; exact ⟨l1, l2⟩)| (simp only [eqLen8, etaKey, etaWord, etaMemory] at *; simp only [stateOk, *, Bool.true_and, Bool.false_and, Bool.and_false, Bool.and_true]; done)
theorem ok_impl_StateOk : FunOk Try.prog c_impl_StateOk := funOk (E := [c_impl_MemoryOk, c_impl_WordOk, c_impl_in, c_impl_wordsOk]) (envOk_cons ok_impl_MemoryOk (envOk_cons ok_impl_WordOk (envOk_cons ok_impl_in (envOk_cons ok_impl_wordsOk (envOk_nil))))) mixd Try.func119 (pf := pf_impl_StateOk) (by kernel_rfl) fun ts K h => by
  obtain ⟨t0, e0, h⟩ := as1_out h
  subst e0
  obtain ⟨s, e1, hq⟩ := arG_out rd_state h
  clear h
  subst e1
  have h := hq
  clear hq
  obtain ⟨hpre, h⟩ := chk_o h
  exact ⟨_, _, h, Nat.le_of_ble_eq_true (show Nat.ble 1 Try.f119.ntmps = true by kernel_rfl), _, run_impl_StateOk s hpre⟩

def lb_spec_MemoryOk_0 : PC := .seq (.seq (.reg [.s (.mv 14 (.t 3)), .s (.bin 15 .lss (.t 14) (.k (.v (.c (.int .i64 24)))))]) (.cond (.t 15) (.skip) (.exit 0))) (.seq (.blk 1 (.seq (.reg [.s (.fa 18 (.t 1) 0), .s (.load 19 false 1 (.t 18)), .s (.mv 20 (.t 3)), .s (.ia 21 .word (.t 19) (.t 20)), .s (.load 22 true 6 (.t 21)), .s (.call (some 23) 53 [(.t 22)]), .s (.bnot 24 (.t 23))]) (.cond (.t 24) (.seq (.reg [.s (.mv 2 (.k (.v (.c .ff))))]) (.ret)) (.skip)))) (.reg [.s (.mv 16 (.t 3)), .s (.bin 17 .add (.t 16) (.k (.v (.c (.int .i64 1))))), .s (.mv 3 (.t 17))]))
def pf_spec_MemoryOk : PF := ⟨[.t 2], .seq (.reg [.s (.box 1 (.t 0)), .s (.mv 2 (.k (.v (.c .ff))))]) (.seq (.seq (.reg [.s (.fa 4 (.t 1) 0), .s (.load 5 false 1 (.t 4)), .s (.len 6 false (.t 5)), .s (.bin 7 .neq (.t 6) (.k (.v (.c (.int .i64 24))))), .s (.mv 8 (.t 7)), .g 8 false (some 9) (.fa 9 (.t 1) 1), .g 8 false (some 10) (.load 10 false 1 (.t 9)), .g 8 false (some 11) (.len 11 false (.t 10)), .g 8 false (some 12) (.bin 12 .neq (.t 11) (.k (.v (.c (.int .i64 24))))), .s (.pick 13 (.t 8) (.k (.v (.c .tt))) (.t 12))]) (.cond (.t 13) (.seq (.reg [.s (.mv 2 (.k (.v (.c .ff))))]) (.ret)) (.skip))) (.seq (.seq (.reg [.s (.mv 3 (.k (.v (.c (.int .i64 0)))))]) (.blk 0 (.loop [1, 3] lb_spec_MemoryOk_0))) (.seq (.reg [.s (.mv 2 (.k (.v (.c .tt))))]) (.ret))))⟩
def c_spec_MemoryOk : Fun := ⟨52, [], fun ts K => as1 ts fun t0 => arG pMemT t0 fun m => K (tB (memoryOk m)) []⟩
theorem run_spec_MemoryOk (m : Mem) : runK [c_spec_WordOk] (25) [] pf_spec_MemoryOk [tG (m.tc false [])] fun r o => r = tB (memoryOk m) ∧ o = [] := by
  conv => whnf
  repeat' (first | (refine sel_i (fun h => ?_) (fun h => ?_) <;> conv => whnf) | (refine chk_c ?_ ?_ <;> conv => whnf) | (refine And.intro ?_ rfl) | (refine And.intro ?_ ?_ <;> conv => whnf))
  · simp only [neLen24] at h; simp_all [memoryOk]
  · simp only [neLen24] at *; simp_all [memoryOk]
  rename_i h1
  have hw : m.words.length = 24 := by simp only [neLen24] at h1; simpa using h1
  have hg : m.gone.length = 24 := by simp only [neLen24] at h; simpa using h
  have hm : memoryOk m = m.words.all wordOk := by simp [memoryOk, hw, hg]
  rw [hm]
  refine loop (α := Nat) (fun i => ⟨[(1, .v (.c (.ptr 0 0))), (3, .v (.c (.int .i64 (i : Int))))], [(2, some (.flat false .bool none m.gone)), (1, some (.flat false .word none m.words)), (0, some (.box true [.sl false .word 1, .sl false .bool 2]))], nums.tail.tail.tail, [], false, []⟩)
      (fun i => i ≤ 24 ∧ (m.words.drop i).all wordOk = m.words.all wordOk) (fun i => 24 - i) (fun i R hI hR => ?_) 0 _ ⟨by simp, by simp⟩ (by simp)
  obtain ⟨hi, hx⟩ := hI
  conv => whnf
  repeat' (first | (refine sel_i (fun h => ?_) (fun h => ?_) <;> conv => whnf) | (refine chk_c ?_ ?_ <;> conv => whnf) | (refine And.intro ?_ rfl) | (refine And.intro ?_ ?_ <;> conv => whnf))
  all_goals simp only [etaKey, etaWord, Int.toNat_natCast, Bool.not_eq_true', Bool.not_eq_false', decide_eq_true_eq, decide_eq_false_iff_not] at *
  all_goals first
    | (refine ⟨?_⟩; omega)
    | (rw [all_no (by omega) (by assumption) hx]; done)
    | (rw [all_end (by omega) hx]; done)
    | (rw [wrap_id (n := (i : Int) + 1) (by omega) (by omega)]; exact hR (i + 1) ⟨by omega, all_yes (by omega) (by assumption) hx⟩ (by omega))
theorem ok_spec_MemoryOk : FunOk Try.prog c_spec_MemoryOk := funOk (E := [c_spec_WordOk]) (envOk_cons ok_spec_WordOk (envOk_nil)) mixd Try.func52 (pf := pf_spec_MemoryOk) (by kernel_rfl) fun ts K h => by
  obtain ⟨t0, e0, h⟩ := as1_out h
  subst e0
  obtain ⟨m, e1, hq⟩ := arG_out rd_mem h
  clear h
  subst e1
  have h := hq
  clear hq
  exact ⟨_, _, h, Nat.le_of_ble_eq_true (show Nat.ble 1 Try.f52.ntmps = true by kernel_rfl), _, run_spec_MemoryOk m⟩

def lb_spec_StateOk_0 : PC := .seq (.seq (.reg [.s (.mv 4 (.t 3)), .s (.fa 5 (.t 1) 0), .s (.load 6 false 1 (.t 5)), .s (.len 7 false (.t 6)), .s (.bin 8 .lss (.t 4) (.t 7))]) (.cond (.t 8) (.skip) (.exit 0))) (.seq (.blk 1 (.seq (.reg [.s (.fa 11 (.t 1) 0), .s (.load 12 false 1 (.t 11)), .s (.mv 13 (.t 3)), .s (.ia 14 .word (.t 12) (.t 13)), .s (.load 15 true 6 (.t 14)), .s (.call (some 16) 53 [(.t 15)]), .s (.bnot 17 (.t 16))]) (.cond (.t 17) (.seq (.reg [.s (.mv 2 (.k (.v (.c .ff))))]) (.ret)) (.skip)))) (.reg [.s (.mv 9 (.t 3)), .s (.bin 10 .add (.t 9) (.k (.v (.c (.int .i64 1))))), .s (.mv 3 (.t 10))]))
def pf_spec_StateOk : PF := ⟨[.t 2], .seq (.reg [.s (.box 1 (.t 0)), .s (.mv 2 (.k (.v (.c .ff))))]) (.seq (.seq (.reg [.s (.mv 3 (.k (.v (.c (.int .i64 0)))))]) (.blk 0 (.loop [1, 3] lb_spec_StateOk_0))) (.seq (.reg [.s (.fa 18 (.t 1) 0), .s (.load 19 false 1 (.t 18)), .s (.len 20 false (.t 19)), .s (.bin 21 .eql (.t 20) (.k (.v (.c (.int .i64 8))))), .s (.mv 22 (.t 21)), .g 22 true (some 23) (.fa 23 (.t 1) 1), .g 22 true (some 24) (.load 24 true 6 (.t 23)), .g 22 true (some 25) (.call (some 25) 53 [(.t 24)]), .s (.pick 26 (.t 22) (.t 25) (.k (.v (.c .ff)))), .s (.mv 27 (.t 26)), .g 27 true (some 28) (.fa 28 (.t 1) 7), .g 27 true (some 29) (.load 29 true 2 (.t 28)), .g 27 true (some 30) (.call (some 30) 52 [(.t 29)]), .s (.pick 31 (.t 27) (.t 30) (.k (.v (.c .ff)))), .s (.mv 32 (.t 31)), .g 32 true (some 33) (.fa 33 (.t 1) 9), .g 32 true (some 34) (.load 34 false 1 (.t 33)), .g 32 true (some 35) (.call (some 35) 101 [(.t 34), (.k (.v (.c (.int .i64 0)))), (.k (.v (.c (.int .i64 5))))]), .s (.pick 36 (.t 32) (.t 35) (.k (.v (.c .ff)))), .s (.mv 2 (.t 36))]) (.ret)))⟩
def c_spec_StateOk : Fun := ⟨117, [], fun ts K => as1 ts fun t0 => arG pStateT t0 fun s => chk (LState s 2147483647) (K (tB (stateOk s)) [])⟩
theorem run_spec_StateOk (s : State) (hpre : LState s 2147483647) : runK [c_spec_MemoryOk, c_spec_WordOk, c_spec_l1In] (s.regs.length + 1) [] pf_spec_StateOk [tG (s.tc false [])] fun r o => r = tB (stateOk s) ∧ o = [] := by
  obtain ⟨l0, l1, l2⟩ := hpre
  conv => whnf
  refine loop (α := Nat) (fun i => ⟨[(1, .v (.c (.ptr 0 0))), (3, .v (.c (.int .i64 (i : Int))))], [(3, some (.flat false .bool none s.mem.gone)), (2, some (.flat false .word none s.mem.words)), (1, some (.flat false .word none s.regs)),
        (0, some (.box true [.sl false .word 1, .int .i64 s.pc.n, .bool s.pc.is, .int .i64 s.pc.key.base, .int .i64 s.pc.key.top, .int .i64 s.pc.key.perms, .int .i64 s.pc.key.sealed, .sl false .word 2, .sl false .bool 3, .int .i64 s.trap]))], nums.tail.tail.tail.tail, [], false, []⟩)
      (fun i => i ≤ s.regs.length ∧ (s.regs.drop i).all wordOk = s.regs.all wordOk) (fun i => s.regs.length - i) (fun i R hI hR => ?_) 0 _ ⟨by simp, by simp⟩ (by simp)
  obtain ⟨hi, hx⟩ := hI
  conv => whnf
  repeat' (first | (refine sel_i (fun h => ?_) (fun h => ?_) <;> conv => whnf) | (refine chk_c ?_ ?_ <;> conv => whnf) | (refine And.intro ?_ rfl) | (refine And.intro ?_ ?_ <;> conv => whnf))
  all_goals simp only [etaKey, etaWord, etaMemory, eqLen8, Int.toNat_natCast, Bool.not_eq_true', Bool.not_eq_false', decide_eq_true_eq, decide_eq_false_iff_not] at *
  all_goals first
    | (refine ⟨?_⟩; omega)
    | (have e := all_no (by omega) (by assumption) hx; simp only [stateOk, e, Bool.false_and, Bool.and_false]; done)
    | (rw [wrap_id (n := (i : Int) + 1) (by omega) (by omega)]; exact hR (i + 1) ⟨by omega, all_yes (by omega) (by assumption) hx⟩ (by omega))
    | (have e := all_end (by omega) hx; simp only [stateOk, e, *, decide_true, decide_false, Bool.true_and, Bool.false_and, Bool.and_false, Bool.and_true]; done)
    | trace_state
theorem ok_spec_StateOk : FunOk Try.prog c_spec_StateOk := funOk (E := [c_spec_MemoryOk, c_spec_WordOk, c_spec_l1In]) (envOk_cons ok_spec_MemoryOk (envOk_cons ok_spec_WordOk (envOk_cons ok_spec_l1In (envOk_nil)))) mixd Try.func117 (pf := pf_spec_StateOk) (by kernel_rfl) fun ts K h => by
  obtain ⟨t0, e0, h⟩ := as1_out h
  subst e0
  obtain ⟨s, e1, hq⟩ := arG_out rd_state h
  clear h
  subst e1
  have h := hq
  clear hq
  obtain ⟨hpre, h⟩ := chk_o h
  exact ⟨_, _, h, Nat.le_of_ble_eq_true (show Nat.ble 1 Try.f117.ntmps = true by kernel_rfl), _, run_spec_StateOk s hpre⟩
end Go.Pi
