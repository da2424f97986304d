/- Contracts of functions, each out of its run by PI. No conditions. -/
import Derived.Test.YtepkbkojgbcahaaGreatC2
namespace Go.Pi
open Go.Proofs
set_option linter.unusedVariables false
set_option linter.unusedSimpArgs false
set_option maxRecDepth 100000
attribute [local irreducible] iterN
def pf_impl_MemoryOk_1 : PF := ⟨[.t 2], .seq (.reg [.s (.box 1 (.t 0)), .s (.mv 2 (.k (.v (.c .ff))))]) (.seq (.reg [.s (.load 3 true 6 (.t 1)), .s (.call (some 4) 73 [(.t 3)]), .s (.bnot 5 (.t 4)), .s (.mv 2 (.t 5))]) (.ret))⟩
def c_impl_MemoryOk_1 : Fun := ⟨102, [], fun ts K => as1 ts fun t0 => arG pWordT t0 fun w => K (tB (!wordOk w)) []⟩
theorem run_impl_MemoryOk_1 (w : Word) : runK [c_impl_WordOk] (0) [] pf_impl_MemoryOk_1 [tG (w.tc [])] fun r o => r = tB (!wordOk w) ∧ o = [] := by
  conv => whnf
  repeat' (first
    | exact rfl
    | exact trivial
    | (refine sel_i (fun h => ?_) (fun h => ?_) <;> conv => whnf)
    | (refine chk_c ?_ ?_ <;> conv => whnf)
    | (refine And.intro ?_ ?_ <;> conv => whnf))
theorem ok_impl_MemoryOk_1 : FunOk Tryz.prog c_impl_MemoryOk_1 := funOk (E := [c_impl_WordOk]) (envOk_cons ok_impl_WordOk (envOk_nil)) mixd Tryz.func102 (pf := pf_impl_MemoryOk_1) (by kernel_rfl) fun ts K h => by
  obtain ⟨t0, e0, h⟩ := as1_out h
  subst e0
  obtain ⟨w, e1, hq⟩ := arG_out rd_word h
  clear h
  subst e1
  have h := hq
  clear hq
  exact ⟨_, _, h, Nat.le_of_ble_eq_true (show Nat.ble 1 Tryz.f102.ntmps = true by kernel_rfl), _, run_impl_MemoryOk_1 w⟩

def pf_impl_wordsOk_1 : PF := ⟨[.t 2], .seq (.reg [.s (.box 1 (.t 0)), .s (.mv 2 (.k (.v (.c .ff))))]) (.seq (.reg [.s (.load 3 true 6 (.t 1)), .s (.call (some 4) 73 [(.t 3)]), .s (.bnot 5 (.t 4)), .s (.mv 2 (.t 5))]) (.ret))⟩
def c_impl_wordsOk_1 : Fun := ⟨100, [], fun ts K => as1 ts fun t0 => arG pWordT t0 fun w => K (tB (!wordOk w)) []⟩
theorem run_impl_wordsOk_1 (w : Word) : runK [c_impl_WordOk] (0) [] pf_impl_wordsOk_1 [tG (w.tc [])] fun r o => r = tB (!wordOk w) ∧ o = [] := by
  conv => whnf
  repeat' (first
    | exact rfl
    | exact trivial
    | (refine sel_i (fun h => ?_) (fun h => ?_) <;> conv => whnf)
    | (refine chk_c ?_ ?_ <;> conv => whnf)
    | (refine And.intro ?_ ?_ <;> conv => whnf))
theorem ok_impl_wordsOk_1 : FunOk Tryz.prog c_impl_wordsOk_1 := funOk (E := [c_impl_WordOk]) (envOk_cons ok_impl_WordOk (envOk_nil)) mixd Tryz.func100 (pf := pf_impl_wordsOk_1) (by kernel_rfl) fun ts K h => by
  obtain ⟨t0, e0, h⟩ := as1_out h
  subst e0
  obtain ⟨w, e1, hq⟩ := arG_out rd_word h
  clear h
  subst e1
  have h := hq
  clear hq
  exact ⟨_, _, h, Nat.le_of_ble_eq_true (show Nat.ble 1 Tryz.f100.ntmps = true by kernel_rfl), _, run_impl_wordsOk_1 w⟩

def lb_slices_IndexFunc_Word_0 : PC := .seq (.reg [.s (.bin 9 .lss (.t 8) (.t 7))]) (.seq (.cond (.t 9) (.skip) (.exit 0)) (.seq (.blk 1 (.seq (.reg [.s (.mv 10 (.t 8)), .s (.mv 5 (.t 10))]) (.seq (.reg [.s (.mv 11 (.t 1)), .s (.mv 12 (.t 0)), .s (.mv 13 (.t 5)), .s (.ia 14 .word (.t 12) (.t 13)), .s (.load 15 true 6 (.t 14)), .s (.callv (some 16) (.t 11) [(.t 15)])]) (.cond (.t 16) (.seq (.reg [.s (.mv 17 (.t 5)), .s (.mv 4 (.t 17))]) (.ret)) (.skip))))) (.reg [.s (.bin 18 .add (.t 8) (.k (.v (.c (.int .i64 1))))), .s (.mv 8 (.t 18))])))
def pf_slices_IndexFunc_Word : PF := ⟨[.t 4], .seq (.reg [.s (.mv 4 (.k (.v (.c (.int .i64 0)))))]) (.seq (.seq (.reg [.s (.mv 6 (.t 0)), .s (.len 7 false (.t 6)), .s (.mv 8 (.k (.v (.c (.int .i64 0)))))]) (.blk 0 (.loop [0, 1, 7, 8] lb_slices_IndexFunc_Word_0))) (.seq (.reg [.s (.mv 4 (.k (.v (.c (.int .i64 (-1))))))]) (.ret)))⟩
def c_slices_IndexFunc_Word__impl_MemoryOk_1 : Fun := ⟨122, [], fun ts K => as2 ts fun t0 t1 => arC (pL .word) t0 fun xs => arF0 102 t1 fun g => chk (xs.length ≤ 2147483647) (K (tN (idxOf (fun w => !wordOk w) xs)) [])⟩
theorem run_slices_IndexFunc_Word__impl_MemoryOk_1 (xs : List (FT.Ty .word)) (g : Unit) (hpre : xs.length ≤ 2147483647) : runK [c_impl_MemoryOk_1] (xs.length + 1) [] pf_slices_IndexFunc_Word [tL false .word xs, .fn 102 []] fun r o => r = tN (idxOf (fun w => !wordOk w) xs) ∧ o = [] := by
  conv => whnf
  refine loop (α := Nat) (fun i => ⟨[(0, .v (.c (.sl false .word 0))), (1, .fn 102 []), (7, .v (.c (.int .i64 (xs.length : Int)))), (8, .v (.c (.int .i64 (i : Int))))], [(0, some (.flat false .word none xs))], nums.tail, [], false, []⟩)
      (fun i => i ≤ xs.length ∧ idxOf (fun w => !wordOk w) xs = idxGo (fun w => !wordOk w) (xs.drop i) i) (fun i => xs.length - i) (fun i R hI hR => ?_) 0 _ ⟨by simp, rfl⟩ (by simp)
  obtain ⟨hi, hx⟩ := hI
  conv => whnf
  refine sel_i (fun h2 => ?_) (fun h2 => ?_)
  · have hlt : i < xs.length := by simp at h2; omega
    conv => whnf
    repeat (refine chk_i (by first | omega | (simp; omega)) ?_; conv => whnf)
    refine sel_i (fun h3 => ?_) (fun h3 => ?_)
    · conv => whnf
      rw [hx, idxGo_yes (z := FT.zero .word) hlt (by first | (simp only [keyEq] at h3; exact h3) | (simpa using h3))]
      exact ⟨rfl, rfl⟩
    · conv => whnf
      rw [wrap_id (n := (i : Int) + 1) (by omega) (by omega)]
      exact hR (i + 1) ⟨by omega, by rw [hx, idxGo_no (z := FT.zero .word) hlt (by first | (simp only [keyEq] at h3; exact h3) | (simpa using h3))]⟩ (by omega)
  · conv => whnf
    rw [hx, idxGo_end (by simp at h2; omega)]
    exact ⟨rfl, rfl⟩
theorem ok_slices_IndexFunc_Word__impl_MemoryOk_1 : FunOk Tryz.prog c_slices_IndexFunc_Word__impl_MemoryOk_1 := funOk (E := [c_impl_MemoryOk_1]) (envOk_cons ok_impl_MemoryOk_1 (envOk_nil)) mixd Tryz.func122 (pf := pf_slices_IndexFunc_Word) (by kernel_rfl) fun ts K h => by
  obtain ⟨t0, t1, e0, h⟩ := as2_out h
  subst e0
  obtain ⟨xs, e1, hq⟩ := arC_out (rd_l .word) h
  clear h
  subst e1
  have h := hq
  clear hq
  obtain ⟨g, e1, hq⟩ := arF0_out h
  clear h
  subst e1
  have h := hq
  clear hq
  obtain ⟨hpre, h⟩ := chk_o h
  exact ⟨_, _, h, Nat.le_of_ble_eq_true (show Nat.ble 2 Tryz.f122.ntmps = true by kernel_rfl), _, run_slices_IndexFunc_Word__impl_MemoryOk_1 xs g hpre⟩

def pf_slices_ContainsFunc_Word : PF := ⟨[.t 4], .seq (.reg [.s (.mv 4 (.k (.v (.c .ff))))]) (.seq (.reg [.s (.mv 5 (.t 0)), .s (.mv 6 (.t 1)), .s (.call (some 7) 122 [(.t 5), (.t 6)]), .s (.bin 8 .geq (.t 7) (.k (.v (.c (.int .i64 0))))), .s (.mv 4 (.t 8))]) (.ret))⟩
def c_slices_ContainsFunc_Word__impl_MemoryOk_1 : Fun := ⟨99, [], fun ts K => as2 ts fun t0 t1 => arC (pL .word) t0 fun xs => arF0 102 t1 fun g => chk (xs.length ≤ 2147483647) (K (tB (xs.any (fun w => !wordOk w))) [])⟩
theorem run_slices_ContainsFunc_Word__impl_MemoryOk_1 (xs : List (FT.Ty .word)) (g : Unit) (hpre : xs.length ≤ 2147483647) : runK [c_slices_IndexFunc_Word__impl_MemoryOk_1, c_impl_MemoryOk_1] (0) [] pf_slices_ContainsFunc_Word [tL false .word xs, .fn 102 []] fun r o => r = tB (xs.any (fun w => !wordOk w)) ∧ o = [] := by
  conv => whnf
  repeat' (first | (refine sel_i (fun h => ?_) (fun h => ?_) <;> conv => whnf) | (refine chk_c ?_ ?_ <;> conv => whnf) | (refine And.intro ?_ rfl) | (refine And.intro ?_ ?_ <;> conv => whnf))
  all_goals first | (refine ⟨?_⟩; exact hpre) | exact hpre | (rw [← idxOf_any]; rfl) | (rw [← idxOf_any])
theorem ok_slices_ContainsFunc_Word__impl_MemoryOk_1 : FunOk Tryz.prog c_slices_ContainsFunc_Word__impl_MemoryOk_1 := funOk (E := [c_slices_IndexFunc_Word__impl_MemoryOk_1, c_impl_MemoryOk_1]) (envOk_cons ok_slices_IndexFunc_Word__impl_MemoryOk_1 (envOk_cons ok_impl_MemoryOk_1 (envOk_nil))) mixd Tryz.func99 (pf := pf_slices_ContainsFunc_Word) (by kernel_rfl) fun ts K h => by
  obtain ⟨t0, t1, e0, h⟩ := as2_out h
  subst e0
  obtain ⟨xs, e1, hq⟩ := arC_out (rd_l .word) h
  clear h
  subst e1
  have h := hq
  clear hq
  obtain ⟨g, e1, hq⟩ := arF0_out h
  clear h
  subst e1
  have h := hq
  clear hq
  obtain ⟨hpre, h⟩ := chk_o h
  exact ⟨_, _, h, Nat.le_of_ble_eq_true (show Nat.ble 2 Tryz.f99.ntmps = true by kernel_rfl), _, run_slices_ContainsFunc_Word__impl_MemoryOk_1 xs g hpre⟩

def c_slices_IndexFunc_Word__impl_wordsOk_1 : Fun := ⟨122, [], fun ts K => as2 ts fun t0 t1 => arC (pL .word) t0 fun xs => arF0 100 t1 fun g => chk (xs.length ≤ 2147483647) (K (tN (idxOf (fun w => !wordOk w) xs)) [])⟩
theorem run_slices_IndexFunc_Word__impl_wordsOk_1 (xs : List (FT.Ty .word)) (g : Unit) (hpre : xs.length ≤ 2147483647) : runK [c_impl_wordsOk_1] (xs.length + 1) [] pf_slices_IndexFunc_Word [tL false .word xs, .fn 100 []] fun r o => r = tN (idxOf (fun w => !wordOk w) xs) ∧ o = [] := by
  conv => whnf
  refine loop (α := Nat) (fun i => ⟨[(0, .v (.c (.sl false .word 0))), (1, .fn 100 []), (7, .v (.c (.int .i64 (xs.length : Int)))), (8, .v (.c (.int .i64 (i : Int))))], [(0, some (.flat false .word none xs))], nums.tail, [], false, []⟩)
      (fun i => i ≤ xs.length ∧ idxOf (fun w => !wordOk w) xs = idxGo (fun w => !wordOk w) (xs.drop i) i) (fun i => xs.length - i) (fun i R hI hR => ?_) 0 _ ⟨by simp, rfl⟩ (by simp)
  obtain ⟨hi, hx⟩ := hI
  conv => whnf
  refine sel_i (fun h2 => ?_) (fun h2 => ?_)
  · have hlt : i < xs.length := by simp at h2; omega
    conv => whnf
    repeat (refine chk_i (by first | omega | (simp; omega)) ?_; conv => whnf)
    refine sel_i (fun h3 => ?_) (fun h3 => ?_)
    · conv => whnf
      rw [hx, idxGo_yes (z := FT.zero .word) hlt (by first | (simp only [keyEq] at h3; exact h3) | (simpa using h3))]
      exact ⟨rfl, rfl⟩
    · conv => whnf
      rw [wrap_id (n := (i : Int) + 1) (by omega) (by omega)]
      exact hR (i + 1) ⟨by omega, by rw [hx, idxGo_no (z := FT.zero .word) hlt (by first | (simp only [keyEq] at h3; exact h3) | (simpa using h3))]⟩ (by omega)
  · conv => whnf
    rw [hx, idxGo_end (by simp at h2; omega)]
    exact ⟨rfl, rfl⟩
theorem ok_slices_IndexFunc_Word__impl_wordsOk_1 : FunOk Tryz.prog c_slices_IndexFunc_Word__impl_wordsOk_1 := funOk (E := [c_impl_wordsOk_1]) (envOk_cons ok_impl_wordsOk_1 (envOk_nil)) mixd Tryz.func122 (pf := pf_slices_IndexFunc_Word) (by kernel_rfl) fun ts K h => by
  obtain ⟨t0, t1, e0, h⟩ := as2_out h
  subst e0
  obtain ⟨xs, e1, hq⟩ := arC_out (rd_l .word) h
  clear h
  subst e1
  have h := hq
  clear hq
  obtain ⟨g, e1, hq⟩ := arF0_out h
  clear h
  subst e1
  have h := hq
  clear hq
  obtain ⟨hpre, h⟩ := chk_o h
  exact ⟨_, _, h, Nat.le_of_ble_eq_true (show Nat.ble 2 Tryz.f122.ntmps = true by kernel_rfl), _, run_slices_IndexFunc_Word__impl_wordsOk_1 xs g hpre⟩

def c_slices_ContainsFunc_Word__impl_wordsOk_1 : Fun := ⟨99, [], fun ts K => as2 ts fun t0 t1 => arC (pL .word) t0 fun xs => arF0 100 t1 fun g => chk (xs.length ≤ 2147483647) (K (tB (xs.any (fun w => !wordOk w))) [])⟩
theorem run_slices_ContainsFunc_Word__impl_wordsOk_1 (xs : List (FT.Ty .word)) (g : Unit) (hpre : xs.length ≤ 2147483647) : runK [c_slices_IndexFunc_Word__impl_wordsOk_1, c_impl_wordsOk_1] (0) [] pf_slices_ContainsFunc_Word [tL false .word xs, .fn 100 []] fun r o => r = tB (xs.any (fun w => !wordOk w)) ∧ o = [] := by
  conv => whnf
  repeat' (first | (refine sel_i (fun h => ?_) (fun h => ?_) <;> conv => whnf) | (refine chk_c ?_ ?_ <;> conv => whnf) | (refine And.intro ?_ rfl) | (refine And.intro ?_ ?_ <;> conv => whnf))
  all_goals first | (refine ⟨?_⟩; exact hpre) | exact hpre | (rw [← idxOf_any]; rfl) | (rw [← idxOf_any])
theorem ok_slices_ContainsFunc_Word__impl_wordsOk_1 : FunOk Tryz.prog c_slices_ContainsFunc_Word__impl_wordsOk_1 := funOk (E := [c_slices_IndexFunc_Word__impl_wordsOk_1, c_impl_wordsOk_1]) (envOk_cons ok_slices_IndexFunc_Word__impl_wordsOk_1 (envOk_cons ok_impl_wordsOk_1 (envOk_nil))) mixd Tryz.func99 (pf := pf_slices_ContainsFunc_Word) (by kernel_rfl) fun ts K h => by
  obtain ⟨t0, t1, e0, h⟩ := as2_out h
  subst e0
  obtain ⟨xs, e1, hq⟩ := arC_out (rd_l .word) h
  clear h
  subst e1
  have h := hq
  clear hq
  obtain ⟨g, e1, hq⟩ := arF0_out h
  clear h
  subst e1
  have h := hq
  clear hq
  obtain ⟨hpre, h⟩ := chk_o h
  exact ⟨_, _, h, Nat.le_of_ble_eq_true (show Nat.ble 2 Tryz.f99.ntmps = true by kernel_rfl), _, run_slices_ContainsFunc_Word__impl_wordsOk_1 xs g hpre⟩

def memoryOk (m : Mem) : Bool := decide (m.words.length = 24) && decide (m.gone.length = 24) && m.words.all wordOk
def stateOk (s : State) : Bool := decide (s.regs.length = 8) && s.regs.all wordOk && wordOk s.pc && memoryOk s.mem && inR s.trap 0 5
theorem all_any {α : Type} (p : α → Bool) (xs : List α) : xs.any (fun w => !p w) = !xs.all p := by
  induction xs with
  | nil => rfl
  | cons x xs ih => simp [ih]
theorem all_end {α : Type} {p : α → Bool} {xs : List α} {i : Nat} (h : xs.length ≤ i) (hi : (xs.drop i).all p = xs.all p) : xs.all p = true := by
  rw [← hi, List.drop_eq_nil_of_le h]; rfl
theorem all_no {α : Type} {p : α → Bool} {z : α} {xs : List α} {i : Nat} (h : i < xs.length) (hp : p (xs.getD i z) = false) (hi : (xs.drop i).all p = xs.all p) : xs.all p = false := by
  have e : xs.getD i z = xs[i] := by simp [List.getD_eq_getElem?_getD, h]
  rw [e] at hp; rw [← hi, List.drop_eq_getElem_cons h, List.all_cons, hp]; rfl
theorem all_yes {α : Type} {p : α → Bool} {z : α} {xs : List α} {i : Nat} (h : i < xs.length) (hp : p (xs.getD i z) = true) (hi : (xs.drop i).all p = xs.all p) : (xs.drop (i + 1)).all p = xs.all p := by
  have e : xs.getD i z = xs[i] := by simp [List.getD_eq_getElem?_getD, h]
  rw [e] at hp; rw [← hi, List.drop_eq_getElem_cons h, List.all_cons, hp]; rfl
theorem eqLen (n k : Nat) : ((n : Int) == (k : Int)) = decide (n = k) := by
  rw [Bool.eq_iff_iff]; simp; omega
theorem neLen (n k : Nat) : ((n : Int) != (k : Int)) = !decide (n = k) := by
  rw [bne, eqLen]
theorem eqLen8 (n : Nat) : ((n : Int) == 8) = decide (n = 8) := eqLen n 8
theorem eqLen24 (n : Nat) : ((n : Int) == 24) = decide (n = 24) := eqLen n 24
theorem neLen24 (n : Nat) : ((n : Int) != 24) = !decide (n = 24) := neLen n 24

def pf_impl_MemoryOk : PF := ⟨[.t 2], .seq (.reg [.s (.box 1 (.t 0)), .s (.mv 2 (.k (.v (.c .ff))))]) (.seq (.reg [.s (.fa 3 (.t 1) 0), .s (.load 4 false 1 (.t 3)), .s (.len 5 false (.t 4)), .s (.bin 6 .eql (.t 5) (.k (.v (.c (.int .i64 24))))), .s (.mv 7 (.t 6)), .g 7 true (some 8) (.fa 8 (.t 1) 1), .g 7 true (some 9) (.load 9 false 1 (.t 8)), .g 7 true (some 10) (.len 10 false (.t 9)), .g 7 true (some 11) (.bin 11 .eql (.t 10) (.k (.v (.c (.int .i64 24))))), .s (.pick 12 (.t 7) (.t 11) (.k (.v (.c .ff)))), .s (.mv 13 (.t 12)), .g 13 true (some 14) (.fa 14 (.t 1) 0), .g 13 true (some 15) (.load 15 false 1 (.t 14)), .g 13 true (some 16) (.call (some 16) 99 [(.t 15), (.k (.fn 102 []))]), .g 13 true (some 17) (.bnot 17 (.t 16)), .s (.pick 18 (.t 13) (.t 17) (.k (.v (.c .ff)))), .s (.mv 2 (.t 18))]) (.ret))⟩
def c_impl_MemoryOk : Fun := ⟨74, [], fun ts K => as1 ts fun t0 => arG pMemT t0 fun m => chk (LMem m 2147483647) (K (tB (memoryOk m)) [])⟩
theorem run_impl_MemoryOk (m : Mem) (hpre : LMem m 2147483647) : runK [c_slices_ContainsFunc_Word__impl_MemoryOk_1, c_impl_MemoryOk_1] (0) [] pf_impl_MemoryOk [tG (m.tc false [])] fun r o => r = tB (memoryOk m) ∧ o = [] := by
  obtain ⟨l1, l2⟩ := hpre
  conv => whnf
  repeat' (first | (refine sel_i (fun h => ?_) (fun h => ?_) <;> conv => whnf) | (refine chk_c ?_ ?_ <;> conv => whnf) | (refine And.intro ?_ rfl) | (refine And.intro ?_ ?_ <;> conv => whnf))
  all_goals first | (refine ⟨?_⟩; exact l1) | (simp only [eqLen24, all_any] at *; simp_all [memoryOk]; done)
theorem ok_impl_MemoryOk : FunOk Tryz.prog c_impl_MemoryOk := funOk (E := [c_slices_ContainsFunc_Word__impl_MemoryOk_1, c_impl_MemoryOk_1]) (envOk_cons ok_slices_ContainsFunc_Word__impl_MemoryOk_1 (envOk_cons ok_impl_MemoryOk_1 (envOk_nil))) mixd Tryz.func74 (pf := pf_impl_MemoryOk) (by kernel_rfl) fun ts K h => by
  obtain ⟨t0, e0, h⟩ := as1_out h
  subst e0
  obtain ⟨m, e1, hq⟩ := arG_out rd_mem h
  clear h
  subst e1
  have h := hq
  clear hq
  obtain ⟨hpre, h⟩ := chk_o h
  exact ⟨_, _, h, Nat.le_of_ble_eq_true (show Nat.ble 1 Tryz.f74.ntmps = true by kernel_rfl), _, run_impl_MemoryOk m hpre⟩

def pf_impl_wordsOk : PF := ⟨[.t 2], .seq (.reg [.s (.mv 2 (.k (.v (.c .ff))))]) (.seq (.reg [.s (.mv 3 (.t 0)), .s (.call (some 4) 99 [(.t 3), (.k (.fn 100 []))]), .s (.bnot 5 (.t 4)), .s (.mv 2 (.t 5))]) (.ret))⟩
def c_impl_wordsOk : Fun := ⟨72, [], fun ts K => as1 ts fun t0 => arC (pL .word) t0 fun xs => chk (xs.length ≤ 2147483647) (K (tB (xs.all wordOk)) [])⟩
theorem run_impl_wordsOk (xs : List (FT.Ty .word)) (hpre : xs.length ≤ 2147483647) : runK [c_slices_ContainsFunc_Word__impl_wordsOk_1, c_impl_wordsOk_1] (0) [] pf_impl_wordsOk [tL false .word xs] fun r o => r = tB (xs.all wordOk) ∧ o = [] := by
  conv => whnf
  repeat' (first | (refine sel_i (fun h => ?_) (fun h => ?_) <;> conv => whnf) | (refine chk_c ?_ ?_ <;> conv => whnf) | (refine And.intro ?_ rfl) | (refine And.intro ?_ ?_ <;> conv => whnf))
  all_goals first | (refine ⟨?_⟩; exact hpre) | (rw [all_any]; simp; done)
theorem ok_impl_wordsOk : FunOk Tryz.prog c_impl_wordsOk := funOk (E := [c_slices_ContainsFunc_Word__impl_wordsOk_1, c_impl_wordsOk_1]) (envOk_cons ok_slices_ContainsFunc_Word__impl_wordsOk_1 (envOk_cons ok_impl_wordsOk_1 (envOk_nil))) mixd Tryz.func72 (pf := pf_impl_wordsOk) (by kernel_rfl) fun ts K h => by
  obtain ⟨t0, e0, h⟩ := as1_out h
  subst e0
  obtain ⟨xs, e1, hq⟩ := arC_out (rd_l .word) h
  clear h
  subst e1
  have h := hq
  clear hq
  obtain ⟨hpre, h⟩ := chk_o h
  exact ⟨_, _, h, Nat.le_of_ble_eq_true (show Nat.ble 1 Tryz.f72.ntmps = true by kernel_rfl), _, run_impl_wordsOk xs hpre⟩

def pf_impl_StateOk : PF := ⟨[.t 2], .seq (.reg [.s (.box 1 (.t 0)), .s (.mv 2 (.k (.v (.c .ff))))]) (.seq (.reg [.s (.fa 3 (.t 1) 0), .s (.load 4 false 1 (.t 3)), .s (.len 5 false (.t 4)), .s (.bin 6 .eql (.t 5) (.k (.v (.c (.int .i64 8))))), .s (.mv 7 (.t 6)), .g 7 true (some 8) (.fa 8 (.t 1) 0), .g 7 true (some 9) (.load 9 false 1 (.t 8)), .g 7 true (some 10) (.call (some 10) 72 [(.t 9)]), .s (.pick 11 (.t 7) (.t 10) (.k (.v (.c .ff)))), .s (.mv 12 (.t 11)), .g 12 true (some 13) (.fa 13 (.t 1) 1), .g 12 true (some 14) (.load 14 true 6 (.t 13)), .g 12 true (some 15) (.call (some 15) 73 [(.t 14)]), .s (.pick 16 (.t 12) (.t 15) (.k (.v (.c .ff)))), .s (.mv 17 (.t 16)), .g 17 true (some 18) (.fa 18 (.t 1) 7), .g 17 true (some 19) (.load 19 true 2 (.t 18)), .g 17 true (some 20) (.call (some 20) 74 [(.t 19)]), .s (.pick 21 (.t 17) (.t 20) (.k (.v (.c .ff)))), .s (.mv 22 (.t 21)), .g 22 true (some 23) (.fa 23 (.t 1) 9), .g 22 true (some 24) (.load 24 false 1 (.t 23)), .g 22 true (some 25) (.call (some 25) 52 [(.t 24), (.k (.v (.c (.int .i64 0)))), (.k (.v (.c (.int .i64 5))))]), .s (.pick 26 (.t 22) (.t 25) (.k (.v (.c .ff)))), .s (.mv 2 (.t 26))]) (.ret))⟩
def c_impl_StateOk : Fun := ⟨38, [], fun ts K => as1 ts fun t0 => arG pStateT t0 fun s => chk (LState s 2147483647) (K (tB (stateOk s)) [])⟩
theorem run_impl_StateOk (s : State) (hpre : LState s 2147483647) : runK [c_impl_in, c_impl_wordsOk, c_impl_WordOk, c_impl_MemoryOk] (0) [] pf_impl_StateOk [tG (s.tc false [])] fun r o => r = tB (stateOk s) ∧ o = [] := by
  obtain ⟨l0, l1, l2⟩ := hpre
  conv => whnf
  repeat' (first | (refine sel_i (fun h => ?_) (fun h => ?_) <;> conv => whnf) | (refine chk_c ?_ ?_ <;> conv => whnf) | (refine And.intro ?_ rfl) | (refine And.intro ?_ ?_ <;> conv => whnf))
  all_goals first | (refine ⟨?_⟩; exact l0) | (refine ⟨?_⟩; exact ⟨l1, l2⟩)| (simp only [eqLen8, etaKey, etaWord, etaMemory] at *; simp only [stateOk, *, Bool.true_and, Bool.false_and, Bool.and_false, Bool.and_true]; done)
theorem ok_impl_StateOk : FunOk Tryz.prog c_impl_StateOk := funOk (E := [c_impl_in, c_impl_wordsOk, c_impl_WordOk, c_impl_MemoryOk]) (envOk_cons ok_impl_in (envOk_cons ok_impl_wordsOk (envOk_cons ok_impl_WordOk (envOk_cons ok_impl_MemoryOk (envOk_nil))))) mixd Tryz.func38 (pf := pf_impl_StateOk) (by kernel_rfl) fun ts K h => by
  obtain ⟨t0, e0, h⟩ := as1_out h
  subst e0
  obtain ⟨s, e1, hq⟩ := arG_out rd_state h
  clear h
  subst e1
  have h := hq
  clear hq
  obtain ⟨hpre, h⟩ := chk_o h
  exact ⟨_, _, h, Nat.le_of_ble_eq_true (show Nat.ble 1 Tryz.f38.ntmps = true by kernel_rfl), _, run_impl_StateOk s hpre⟩

def lb_spec_MemoryOk_0 : PC := .seq (.seq (.reg [.s (.mv 14 (.t 3)), .s (.bin 15 .lss (.t 14) (.k (.v (.c (.int .i64 24)))))]) (.cond (.t 15) (.skip) (.exit 0))) (.seq (.blk 1 (.seq (.reg [.s (.fa 18 (.t 1) 0), .s (.load 19 false 1 (.t 18)), .s (.mv 20 (.t 3)), .s (.ia 21 .word (.t 19) (.t 20)), .s (.load 22 true 6 (.t 21)), .s (.call (some 23) 61 [(.t 22)]), .s (.bnot 24 (.t 23))]) (.cond (.t 24) (.seq (.reg [.s (.mv 2 (.k (.v (.c .ff))))]) (.ret)) (.skip)))) (.reg [.s (.mv 16 (.t 3)), .s (.bin 17 .add (.t 16) (.k (.v (.c (.int .i64 1))))), .s (.mv 3 (.t 17))]))
def pf_spec_MemoryOk : PF := ⟨[.t 2], .seq (.reg [.s (.box 1 (.t 0)), .s (.mv 2 (.k (.v (.c .ff))))]) (.seq (.seq (.reg [.s (.fa 4 (.t 1) 0), .s (.load 5 false 1 (.t 4)), .s (.len 6 false (.t 5)), .s (.bin 7 .neq (.t 6) (.k (.v (.c (.int .i64 24))))), .s (.mv 8 (.t 7)), .g 8 false (some 9) (.fa 9 (.t 1) 1), .g 8 false (some 10) (.load 10 false 1 (.t 9)), .g 8 false (some 11) (.len 11 false (.t 10)), .g 8 false (some 12) (.bin 12 .neq (.t 11) (.k (.v (.c (.int .i64 24))))), .s (.pick 13 (.t 8) (.k (.v (.c .tt))) (.t 12))]) (.cond (.t 13) (.seq (.reg [.s (.mv 2 (.k (.v (.c .ff))))]) (.ret)) (.skip))) (.seq (.seq (.reg [.s (.mv 3 (.k (.v (.c (.int .i64 0)))))]) (.blk 0 (.loop [1, 3] lb_spec_MemoryOk_0))) (.seq (.reg [.s (.mv 2 (.k (.v (.c .tt))))]) (.ret))))⟩
def c_spec_MemoryOk : Fun := ⟨62, [], fun ts K => as1 ts fun t0 => arG pMemT t0 fun m => K (tB (memoryOk m)) []⟩
theorem run_spec_MemoryOk (m : Mem) : runK [c_spec_WordOk] (25) [] pf_spec_MemoryOk [tG (m.tc false [])] fun r o => r = tB (memoryOk m) ∧ o = [] := by
  conv => whnf
  repeat' (first | (refine sel_i (fun h => ?_) (fun h => ?_) <;> conv => whnf) | (refine chk_c ?_ ?_ <;> conv => whnf) | (refine And.intro ?_ rfl) | (refine And.intro ?_ ?_ <;> conv => whnf))
  · simp only [neLen24] at h; simp_all [memoryOk]
  · simp only [neLen24] at *; simp_all [memoryOk]
  rename_i h1
  have hw : m.words.length = 24 := by simp only [neLen24] at h1; simpa using h1
  have hg : m.gone.length = 24 := by simp only [neLen24] at h; simpa using h
  have hm : memoryOk m = m.words.all wordOk := by simp [memoryOk, hw, hg]
  rw [hm]
  refine loop (α := Nat) (fun i => ⟨[(1, .v (.c (.ptr 0 0))), (3, .v (.c (.int .i64 (i : Int))))], [(2, some (.flat false .bool none m.gone)), (1, some (.flat false .word none m.words)), (0, some (.box true [.sl false .word 1, .sl false .bool 2]))], nums.tail.tail.tail, [], false, []⟩)
      (fun i => i ≤ 24 ∧ (m.words.drop i).all wordOk = m.words.all wordOk) (fun i => 24 - i) (fun i R hI hR => ?_) 0 _ ⟨by simp, by simp⟩ (by simp)
  obtain ⟨hi, hx⟩ := hI
  conv => whnf
  repeat' (first | (refine sel_i (fun h => ?_) (fun h => ?_) <;> conv => whnf) | (refine chk_c ?_ ?_ <;> conv => whnf) | (refine And.intro ?_ rfl) | (refine And.intro ?_ ?_ <;> conv => whnf))
  all_goals simp only [etaKey, etaWord, Int.toNat_natCast, Bool.not_eq_true', Bool.not_eq_false', decide_eq_true_eq, decide_eq_false_iff_not] at *
  all_goals first
    | (refine ⟨?_⟩; omega)
    | (rw [all_no (by omega) (by assumption) hx]; done)
    | (rw [all_end (by omega) hx]; done)
    | (rw [wrap_id (n := (i : Int) + 1) (by omega) (by omega)]; exact hR (i + 1) ⟨by omega, all_yes (by omega) (by assumption) hx⟩ (by omega))
theorem ok_spec_MemoryOk : FunOk Tryz.prog c_spec_MemoryOk := funOk (E := [c_spec_WordOk]) (envOk_cons ok_spec_WordOk (envOk_nil)) mixd Tryz.func62 (pf := pf_spec_MemoryOk) (by kernel_rfl) fun ts K h => by
  obtain ⟨t0, e0, h⟩ := as1_out h
  subst e0
  obtain ⟨m, e1, hq⟩ := arG_out rd_mem h
  clear h
  subst e1
  have h := hq
  clear hq
  exact ⟨_, _, h, Nat.le_of_ble_eq_true (show Nat.ble 1 Tryz.f62.ntmps = true by kernel_rfl), _, run_spec_MemoryOk m⟩

def lb_spec_StateOk_0 : PC := .seq (.seq (.reg [.s (.mv 4 (.t 3)), .s (.fa 5 (.t 1) 0), .s (.load 6 false 1 (.t 5)), .s (.len 7 false (.t 6)), .s (.bin 8 .lss (.t 4) (.t 7))]) (.cond (.t 8) (.skip) (.exit 0))) (.seq (.blk 1 (.seq (.reg [.s (.fa 11 (.t 1) 0), .s (.load 12 false 1 (.t 11)), .s (.mv 13 (.t 3)), .s (.ia 14 .word (.t 12) (.t 13)), .s (.load 15 true 6 (.t 14)), .s (.call (some 16) 61 [(.t 15)]), .s (.bnot 17 (.t 16))]) (.cond (.t 17) (.seq (.reg [.s (.mv 2 (.k (.v (.c .ff))))]) (.ret)) (.skip)))) (.reg [.s (.mv 9 (.t 3)), .s (.bin 10 .add (.t 9) (.k (.v (.c (.int .i64 1))))), .s (.mv 3 (.t 10))]))
def pf_spec_StateOk : PF := ⟨[.t 2], .seq (.reg [.s (.box 1 (.t 0)), .s (.mv 2 (.k (.v (.c .ff))))]) (.seq (.seq (.reg [.s (.mv 3 (.k (.v (.c (.int .i64 0)))))]) (.blk 0 (.loop [1, 3] lb_spec_StateOk_0))) (.seq (.reg [.s (.fa 18 (.t 1) 0), .s (.load 19 false 1 (.t 18)), .s (.len 20 false (.t 19)), .s (.bin 21 .eql (.t 20) (.k (.v (.c (.int .i64 8))))), .s (.mv 22 (.t 21)), .g 22 true (some 23) (.fa 23 (.t 1) 1), .g 22 true (some 24) (.load 24 true 6 (.t 23)), .g 22 true (some 25) (.call (some 25) 61 [(.t 24)]), .s (.pick 26 (.t 22) (.t 25) (.k (.v (.c .ff)))), .s (.mv 27 (.t 26)), .g 27 true (some 28) (.fa 28 (.t 1) 7), .g 27 true (some 29) (.load 29 true 2 (.t 28)), .g 27 true (some 30) (.call (some 30) 62 [(.t 29)]), .s (.pick 31 (.t 27) (.t 30) (.k (.v (.c .ff)))), .s (.mv 32 (.t 31)), .g 32 true (some 33) (.fa 33 (.t 1) 9), .g 32 true (some 34) (.load 34 false 1 (.t 33)), .g 32 true (some 35) (.call (some 35) 47 [(.t 34), (.k (.v (.c (.int .i64 0)))), (.k (.v (.c (.int .i64 5))))]), .s (.pick 36 (.t 32) (.t 35) (.k (.v (.c .ff)))), .s (.mv 2 (.t 36))]) (.ret)))⟩
def c_spec_StateOk : Fun := ⟨30, [], fun ts K => as1 ts fun t0 => arG pStateT t0 fun s => chk (LState s 2147483647) (K (tB (stateOk s)) [])⟩
theorem run_spec_StateOk (s : State) (hpre : LState s 2147483647) : runK [c_spec_l1In, c_spec_WordOk, c_spec_MemoryOk] (s.regs.length + 1) [] pf_spec_StateOk [tG (s.tc false [])] fun r o => r = tB (stateOk s) ∧ o = [] := by
  obtain ⟨l0, l1, l2⟩ := hpre
  conv => whnf
  refine loop (α := Nat) (fun i => ⟨[(1, .v (.c (.ptr 0 0))), (3, .v (.c (.int .i64 (i : Int))))], [(3, some (.flat false .bool none s.mem.gone)), (2, some (.flat false .word none s.mem.words)), (1, some (.flat false .word none s.regs)),
        (0, some (.box true [.sl false .word 1, .int .i64 s.pc.n, .bool s.pc.is, .int .i64 s.pc.key.base, .int .i64 s.pc.key.top, .int .i64 s.pc.key.perms, .int .i64 s.pc.key.sealed, .sl false .word 2, .sl false .bool 3, .int .i64 s.trap]))], nums.tail.tail.tail.tail, [], false, []⟩)
      (fun i => i ≤ s.regs.length ∧ (s.regs.drop i).all wordOk = s.regs.all wordOk) (fun i => s.regs.length - i) (fun i R hI hR => ?_) 0 _ ⟨by simp, by simp⟩ (by simp)
  obtain ⟨hi, hx⟩ := hI
  conv => whnf
  repeat' (first | (refine sel_i (fun h => ?_) (fun h => ?_) <;> conv => whnf) | (refine chk_c ?_ ?_ <;> conv => whnf) | (refine And.intro ?_ rfl) | (refine And.intro ?_ ?_ <;> conv => whnf))
  all_goals simp only [etaKey, etaWord, etaMemory, eqLen8, Int.toNat_natCast, Bool.not_eq_true', Bool.not_eq_false', decide_eq_true_eq, decide_eq_false_iff_not] at *
  all_goals first
    | (refine ⟨?_⟩; omega)
    | (have e := all_no (by omega) (by assumption) hx; simp only [stateOk, e, Bool.false_and, Bool.and_false]; done)
    | (rw [wrap_id (n := (i : Int) + 1) (by omega) (by omega)]; exact hR (i + 1) ⟨by omega, all_yes (by omega) (by assumption) hx⟩ (by omega))
    | (have e := all_end (by omega) hx; simp only [stateOk, e, *, decide_true, decide_false, Bool.true_and, Bool.false_and, Bool.and_false, Bool.and_true]; done)
    | trace_state
theorem ok_spec_StateOk : FunOk Tryz.prog c_spec_StateOk := funOk (E := [c_spec_l1In, c_spec_WordOk, c_spec_MemoryOk]) (envOk_cons ok_spec_l1In (envOk_cons ok_spec_WordOk (envOk_cons ok_spec_MemoryOk (envOk_nil)))) mixd Tryz.func30 (pf := pf_spec_StateOk) (by kernel_rfl) fun ts K h => by
  obtain ⟨t0, e0, h⟩ := as1_out h
  subst e0
  obtain ⟨s, e1, hq⟩ := arG_out rd_state h
  clear h
  subst e1
  have h := hq
  clear hq
  obtain ⟨hpre, h⟩ := chk_o h
  exact ⟨_, _, h, Nat.le_of_ble_eq_true (show Nat.ble 1 Tryz.f30.ntmps = true by kernel_rfl), _, run_spec_StateOk s hpre⟩

def twoOk (t : Two) : Bool := stateOk (sideState t 0) && stateOk (sideState t 1)

def pf_spec_TwoOk : PF := ⟨[.t 2], .seq (.reg [.s (.box 1 (.t 0)), .s (.mv 2 (.k (.v (.c .ff))))]) (.seq (.reg [.s (.load 3 true 18 (.t 1)), .s (.call (some 4) 48 [(.t 3), (.k (.v (.c (.int .i64 0))))]), .s (.call (some 5) 30 [(.t 4)]), .s (.mv 6 (.t 5)), .g 6 true (some 7) (.load 7 true 18 (.t 1)), .g 6 true (some 8) (.call (some 8) 48 [(.t 7), (.k (.v (.c (.int .i64 1))))]), .g 6 true (some 9) (.call (some 9) 30 [(.t 8)]), .s (.pick 10 (.t 6) (.t 9) (.k (.v (.c .ff)))), .s (.mv 2 (.t 10))]) (.ret))⟩
def c_spec_TwoOk : Fun := ⟨46, [], fun ts K => as1 ts fun t0 => arG pTwoT t0 fun t => chk (LTwo t 2147483647) (K (tB (twoOk t)) [])⟩
theorem run_spec_TwoOk (t : Two) (hpre : LTwo t 2147483647) : runK [c_spec_StateOk, c_spec_SideState] (0) [] pf_spec_TwoOk [tG (t.tc false [])] fun r o => r = tB (twoOk t) ∧ o = [] := by
  have h0 : LState (sideState t 0) 2147483647 := sideState_len (who := 0) hpre
  have h1 : LState (sideState t 1) 2147483647 := sideState_len (who := 1) hpre
  conv => whnf
  repeat' (first | (refine sel_i (fun h => ?_) (fun h => ?_) <;> conv => whnf) | (refine chk_c ?_ ?_ <;> conv => whnf) | (refine And.intro ?_ rfl) | (refine And.intro ?_ ?_ <;> conv => whnf))
  all_goals first
    | (refine ⟨?_⟩; assumption)
    | (simp only [etaKey, etaWord, etaMemory, etaState] at *; simp only [twoOk, *, Bool.true_and, Bool.false_and]; done)
theorem ok_spec_TwoOk : FunOk Tryz.prog c_spec_TwoOk := funOk (E := [c_spec_StateOk, c_spec_SideState]) (envOk_cons ok_spec_StateOk (envOk_cons ok_spec_SideState (envOk_nil))) mixd Tryz.func46 (pf := pf_spec_TwoOk) (by kernel_rfl) fun ts K h => by
  obtain ⟨t0, e0, h⟩ := as1_out h
  subst e0
  obtain ⟨t, e1, hq⟩ := arG_out rd_two h
  clear h
  subst e1
  have h := hq
  clear hq
  obtain ⟨hpre, h⟩ := chk_o h
  exact ⟨_, _, h, Nat.le_of_ble_eq_true (show Nat.ble 1 Tryz.f46.ntmps = true by kernel_rfl), _, run_spec_TwoOk t hpre⟩

def pf_impl_TwoOk : PF := ⟨[.t 2], .seq (.reg [.s (.box 1 (.t 0)), .s (.mv 2 (.k (.v (.c .ff))))]) (.seq (.reg [.s (.load 3 true 18 (.t 1)), .s (.call (some 4) 54 [(.t 3), (.k (.v (.c (.int .i64 0))))]), .s (.call (some 5) 38 [(.t 4)]), .s (.mv 6 (.t 5)), .g 6 true (some 7) (.load 7 true 18 (.t 1)), .g 6 true (some 8) (.call (some 8) 54 [(.t 7), (.k (.v (.c (.int .i64 1))))]), .g 6 true (some 9) (.call (some 9) 38 [(.t 8)]), .s (.pick 10 (.t 6) (.t 9) (.k (.v (.c .ff)))), .s (.mv 2 (.t 10))]) (.ret))⟩
def c_impl_TwoOk : Fun := ⟨51, [], fun ts K => as1 ts fun t0 => arG pTwoT t0 fun t => chk (LTwo t 2147483647) (K (tB (twoOk t)) [])⟩
theorem run_impl_TwoOk (t : Two) (hpre : LTwo t 2147483647) : runK [c_impl_StateOk, c_impl_SideState] (0) [] pf_impl_TwoOk [tG (t.tc false [])] fun r o => r = tB (twoOk t) ∧ o = [] := by
  have h0 : LState (sideState t 0) 2147483647 := sideState_len (who := 0) hpre
  have h1 : LState (sideState t 1) 2147483647 := sideState_len (who := 1) hpre
  conv => whnf
  repeat' (first | (refine sel_i (fun h => ?_) (fun h => ?_) <;> conv => whnf) | (refine chk_c ?_ ?_ <;> conv => whnf) | (refine And.intro ?_ rfl) | (refine And.intro ?_ ?_ <;> conv => whnf))
  all_goals first
    | (refine ⟨?_⟩; assumption)
    | (simp only [etaKey, etaWord, etaMemory, etaState] at *; simp only [twoOk, *, Bool.true_and, Bool.false_and]; done)
theorem ok_impl_TwoOk : FunOk Tryz.prog c_impl_TwoOk := funOk (E := [c_impl_StateOk, c_impl_SideState]) (envOk_cons ok_impl_StateOk (envOk_cons ok_impl_SideState (envOk_nil))) mixd Tryz.func51 (pf := pf_impl_TwoOk) (by kernel_rfl) fun ts K h => by
  obtain ⟨t0, e0, h⟩ := as1_out h
  subst e0
  obtain ⟨t, e1, hq⟩ := arG_out rd_two h
  clear h
  subst e1
  have h := hq
  clear hq
  obtain ⟨hpre, h⟩ := chk_o h
  exact ⟨_, _, h, Nat.le_of_ble_eq_true (show Nat.ble 1 Tryz.f51.ntmps = true by kernel_rfl), _, run_impl_TwoOk t hpre⟩

def andI (a b : Int) : Int := IntKind.i64.wrap (BitVec.ofInt IntKind.i64.bits a &&& BitVec.ofInt IntKind.i64.bits b).toNat
theorem andI_eq (a b : Int) : IntKind.i64.wrap (BitVec.ofInt IntKind.i64.bits a &&& BitVec.ofInt IntKind.i64.bits b).toNat = andI a b := rfl
abbrev w0 : Word := ⟨0, false, ⟨0, 0, 0, 0⟩⟩
def hasKey (l : List Word) (k : Key) : Bool := l.any (fun x => decide (x.key = k))
def putW (out : List Word) (w : Word) : List Word := if w.is && wordOk w && !hasKey out w.key then out ++ [w] else out
def scan (ws : List Word) : Nat → Nat → List Word → List Word
  | 0, _, out => out
  | n + 1, c, out => scan ws n (c + 1) (putW out (ws.getD c (FT.zero .word)))
def opens (k : Key) : Bool := !(andI k.perms 1 == 0) && !(andI k.perms 8 == 0)
def closStep (ws out : List Word) (k : Key) : List Word := if opens k then scan ws (min k.top 24 - k.base).toNat k.base.toNat out else out
def closGo (ws : List Word) : Nat → Nat → List Word → List Word
  | 0, _, out => out
  | n + 1, i, out => if i < out.length then closGo ws n (i + 1) (closStep ws out (out.getD i (FT.zero .word)).key) else out
def closFirst (l : List Word) : List Word := l.foldl putW []
def closure (m : Mem) (l : List Word) : List Word := if memoryOk m then closGo m.words (l.length + 24) 0 (closFirst l) else []
theorem putW_yes {out : List Word} {w : Word} (h1 : wordOk w = true) (h2 : w.is = true) (h3 : hasKey out w.key = false) : putW out w = out ++ [w] := by simp [putW, h1, h2, h3]
theorem putW_has {out : List Word} {w : Word} (h3 : hasKey out w.key = true) : putW out w = out := by simp [putW, h3]
theorem putW_is {out : List Word} {w : Word} (h3 : w.is = false) : putW out w = out := by simp [putW, h3]
theorem putW_ok {out : List Word} {w : Word} (h3 : wordOk w = false) : putW out w = out := by simp [putW, h3]
theorem foldl_take {α β : Type} (f : β → α → β) (b : β) {xs : List α} {i : Nat} (z : α) (h : i < xs.length) : (xs.take (i + 1)).foldl f b = f ((xs.take i).foldl f b) (xs.getD i z) := by
  have e : xs.getD i z = xs[i] := by simp [List.getD_eq_getElem?_getD, h]
  rw [List.take_add_one, List.getElem?_eq_getElem h, List.foldl_append, e]; rfl
def WOut (out : List Word) : Prop := ∀ w ∈ out, wordOk w = true ∧ w.is = true
theorem putW_out {out : List Word} {w : Word} (h : WOut out) : WOut (putW out w) := by
  unfold putW
  split
  · rename_i hw
    simp at hw
    intro x hx
    simp at hx
    rcases hx with hx | rfl
    · exact h x hx
    · exact ⟨hw.1.2, hw.1.1⟩
  · exact h
theorem putW_len (out : List Word) (w : Word) : out.length ≤ (putW out w).length ∧ (putW out w).length ≤ out.length + 1 := by
  unfold putW; split <;> simp
theorem wout_bounds {out : List Word} {i : Nat} (h : WOut out) (hi : i < out.length) : 0 ≤ (out.getD i (FT.zero .word)).key.base ∧ (out.getD i (FT.zero .word)).key.base ≤ (out.getD i (FT.zero .word)).key.top ∧ (out.getD i (FT.zero .word)).key.top ≤ 4096 := by
  have e : out.getD i (FT.zero .word) = out[i] := by simp [List.getD_eq_getElem?_getD, hi]
  rw [e]
  obtain ⟨h1, h2⟩ := h out[i] (List.getElem_mem hi)
  simp only [wordOk, h2, if_true, Bool.and_eq_true, keyOk, exact_] at h1
  exact bounds_n h1.2.1.1.1.1
/-- The words of memory whose keys are not there yet. -/
def missing (ws out : List Word) : Nat := ws.countP (fun w => !hasKey out w.key)
theorem hasKey_app (out : List Word) (w : Word) (k : Key) : hasKey (out ++ [w]) k = (hasKey out k || decide (w.key = k)) := by simp [hasKey]
theorem missing_put {ws out : List Word} {w : Word} (hw : w ∈ ws) : (putW out w).length + missing ws (putW out w) ≤ out.length + missing ws out := by
  unfold putW
  split
  · rename_i h
    simp only [Bool.and_eq_true, Bool.not_eq_true'] at h
    have key : missing ws (out ++ [w]) + 1 ≤ missing ws out := by
      unfold missing
      have h1 : ∀ (l : List Word), l.countP (fun x => !hasKey (out ++ [w]) x.key) ≤ l.countP (fun x => !hasKey out x.key) := fun l =>
        List.countP_mono_left (fun x _ hx => by rw [hasKey_app] at hx; simp at hx; simp [hx.1])
      obtain ⟨a, b, rfl⟩ := List.append_of_mem hw
      have ha := h1 a
      have hb := h1 b
      rw [List.countP_append, List.countP_append, List.countP_cons, List.countP_cons]
      have e1 : (!hasKey (out ++ [w]) w.key) = false := by rw [hasKey_app]; simp
      rw [e1, h.2]
      simp; omega
    simp; omega
  · exact Nat.le_refl _
theorem missing_le (ws out : List Word) : missing ws out ≤ ws.length := List.countP_le_length
theorem scan_len (ws : List Word) : ∀ (n c : Nat) (out : List Word), out.length ≤ (scan ws n c out).length
  | 0, _, _ => Nat.le_refl _
  | n + 1, c, out => Nat.le_trans (putW_len out _).1 (scan_len ws n (c + 1) _)
theorem closGo_end {ws out : List Word} {n i : Nat} (h : out.length ≤ i) : closGo ws n i out = out := by
  cases n with
  | zero => rfl
  | succ n => simp [closGo, show ¬ i < out.length by omega]
theorem closGo_step {ws out : List Word} {n i : Nat} (h : i < out.length) : closGo ws (n + 1) i out = closGo ws n (i + 1) (closStep ws out (out.getD i (FT.zero .word)).key) := by simp [closGo, h]
theorem closStep_no {ws out : List Word} {k : Key} (h : opens k = false) : closStep ws out k = out := by simp [closStep, h]
theorem closStep_yes {ws out : List Word} {k : Key} (h : opens k = true) : closStep ws out k = scan ws (min k.top 24 - k.base).toNat k.base.toNat out := by simp [closStep, h]
theorem getD_mem {ws : List Word} {c : Nat} (h : c < ws.length) : ws.getD c (FT.zero .word) ∈ ws := by
  have e : ws.getD c (FT.zero .word) = ws[c] := by simp [List.getD_eq_getElem?_getD, h]
  rw [e]; exact List.getElem_mem h
theorem memoryOk_n {m : Mem} (h : memoryOk m = true) : m.words.length = 24 ∧ m.gone.length = 24 ∧ ∀ w ∈ m.words, wordOk w = true := by
  simp [memoryOk] at h; exact ⟨h.1.1, h.1.2, h.2⟩

def hasP (w : Word) (p : Int) : Bool := w.is && (andI w.key.perms p != 0)
theorem scan_out {ws : List Word} : ∀ (n c : Nat) {out : List Word}, WOut out → WOut (scan ws n c out)
  | 0, _, _, h => h
  | n + 1, c, out, h => scan_out n (c + 1) (putW_out h)
theorem closGo_out {ws : List Word} : ∀ (n i : Nat) {out : List Word}, WOut out → WOut (closGo ws n i out)
  | 0, _, _, h => h
  | n + 1, i, out, h => by
    unfold closGo
    split
    · refine closGo_out n (i + 1) ?_
      unfold closStep
      split
      · exact scan_out _ _ h
      · exact h
    · exact h
theorem foldPut_out : ∀ (l : List Word) {out : List Word}, WOut out → WOut (l.foldl putW out)
  | [], _, h => h
  | w :: l, _, h => foldPut_out l (putW_out h)
theorem foldPut_len : ∀ (l : List Word) (out : List Word), (l.foldl putW out).length ≤ out.length + l.length
  | [], _ => by simp
  | w :: l, out => by
    have := foldPut_len l (putW out w)
    have := (putW_len out w).2
    simp only [List.foldl_cons, List.length_cons]; omega
theorem closure_out (m : Mem) (l : List Word) : WOut (closure m l) := by
  unfold closure
  split
  · exact closGo_out _ _ (foldPut_out l (by simp [WOut]))
  · simp [WOut]
theorem missing_zero (out : List Word) (w : Word) (ws : List Word) (hw : w = FT.zero .word) : putW out w = out := by
  subst hw; exact putW_is rfl
theorem scan_miss {ws : List Word} : ∀ (n c : Nat) (out : List Word), (scan ws n c out).length + missing ws (scan ws n c out) ≤ out.length + missing ws out
  | 0, _, _ => Nat.le_refl _
  | n + 1, c, out => by
    unfold scan
    refine Nat.le_trans (scan_miss n (c + 1) _) ?_
    by_cases hc : c < ws.length
    · exact missing_put (getD_mem hc)
    · rw [missing_zero out _ ws (by simp [List.getD_eq_getElem?_getD, show ws.length ≤ c by omega])]
      exact Nat.le_refl _
theorem closGo_miss {ws : List Word} : ∀ (n i : Nat) (out : List Word), (closGo ws n i out).length + missing ws (closGo ws n i out) ≤ out.length + missing ws out
  | 0, _, _ => Nat.le_refl _
  | n + 1, i, out => by
    unfold closGo
    split
    · refine Nat.le_trans (closGo_miss n (i + 1) _) ?_
      unfold closStep
      split
      · exact scan_miss _ _ _
      · exact Nat.le_refl _
    · exact Nat.le_refl _
theorem closure_len (m : Mem) (l : List Word) : (closure m l).length ≤ l.length + 24 := by
  unfold closure
  split
  · rename_i h
    have h1 := closGo_miss (ws := m.words) (l.length + 24) 0 (closFirst l)
    have h2 := foldPut_len l []
    have h3 := missing_le m.words (closFirst l)
    have h4 := (memoryOk_n h).1
    simp only [closFirst, List.length_nil] at *
    omega
  · simp
def canSeal (m : Mem) (l : List Word) : Bool := (closure m l).any (fun w => hasP w 32)
theorem hasP_is {out : List Word} (h : WOut out) {w : Word} (hw : w ∈ out) (p : Int) : hasP w p = (andI w.key.perms p != 0) := by simp [hasP, (h w hw).2]

def elByte (c : Int) : Int := IntKind.u8.wrap (c)
def mkByteS (n : Nat) (k : Int) : List Int := (List.range n).map (fun j : Nat => elByte (k + 1 * j))
theorem mkByteS_length (n : Nat) (k : Int) : (mkByteS n k).length = n := by simp [mkByteS]

def orI (a b : Int) : Int := IntKind.i64.wrap (BitVec.ofInt IntKind.i64.bits a ||| BitVec.ofInt IntKind.i64.bits b).toNat
theorem orI_eq (a b : Int) : IntKind.i64.wrap (BitVec.ofInt IntKind.i64.bits a ||| BitVec.ofInt IntKind.i64.bits b).toNat = orI a b := rfl
def U8s (b : List Int) : Prop := ∀ x ∈ b, 0 ≤ x ∧ x ≤ 255
theorem wfU8 {x : Int} (h : wfI .u8 x) : 0 ≤ x ∧ x ≤ 255 := by
  have h : (decide (IntKind.u8.min ≤ x) && decide (x ≤ IntKind.u8.max)) = true := h
  simp at h
  have e1 : IntKind.u8.min = 0 := rfl
  have e2 : IntKind.u8.max = 255 := rfl
  omega
theorem U8s.at {b : List Int} (h : U8s b) (i : Nat) : 0 ≤ b.getD i 0 ∧ b.getD i 0 ≤ 255 := by
  rw [List.getD_eq_getElem?_getD]
  cases e : b[i]? with
  | none => simp
  | some x => exact h x (List.mem_of_getElem? e)
theorem orI_add {x y : Int} (hx : 0 ≤ x ∧ x ≤ 255) (hy : 0 ≤ y ∧ y ≤ 255) : orI (x * 256) y = x * 256 + y := by
  obtain ⟨m, rfl⟩ := Int.eq_ofNat_of_zero_le hx.1
  obtain ⟨n, rfl⟩ := Int.eq_ofNat_of_zero_le hy.1
  have e : (m * 256 : Nat) ||| n = m * 256 + n := by
    have := Nat.two_pow_add_eq_or_of_lt (i := 8) (b := n) (by omega) m
    rw [Nat.mul_comm]; exact this.symm
  unfold orI
  rw [show ((m : Int) * 256) = ((m * 256 : Nat) : Int) by omega, BitVec.ofInt_natCast, BitVec.ofInt_natCast, BitVec.toNat_or, BitVec.toNat_ofNat, BitVec.toNat_ofNat]
  rw [Nat.mod_eq_of_lt (a := m * 256) (by show _ < 2 ^ 64; omega), Nat.mod_eq_of_lt (a := n) (by show _ < 2 ^ 64; omega), e]
  rw [wrap_id (by omega) (by omega)]; omega
theorem andI_255 {n : Int} (h : 0 ≤ n ∧ n ≤ 65535) : andI n 255 = n % 256 := by
  obtain ⟨m, rfl⟩ := Int.eq_ofNat_of_zero_le h.1
  have e : m &&& 255 = m % 256 := Nat.and_two_pow_sub_one_eq_mod m 8
  unfold andI
  rw [show (255 : Int) = ((255 : Nat) : Int) by rfl, BitVec.ofInt_natCast, BitVec.ofInt_natCast, BitVec.toNat_and, BitVec.toNat_ofNat, BitVec.toNat_ofNat]
  rw [Nat.mod_eq_of_lt (a := m) (by show _ < 2 ^ 64; omega), Nat.mod_eq_of_lt (a := 255) (by decide), e]
  rw [wrap_id (by omega) (by omega)]; omega
theorem u8_id {n : Int} (h : 0 ≤ n ∧ n ≤ 255) : IntKind.u8.wrap n = n := by
  show n % 256 = n
  omega
theorem hi8 {n : Int} (h : 0 ≤ n ∧ n ≤ 65535) : IntKind.u8.wrap (n.fdiv (2 ^ min (Int.toNat 8) IntKind.i64.bits)) = n / 256 := by
  rw [show (2 ^ min (Int.toNat 8) IntKind.i64.bits : Int) = 256 by decide, Int.fdiv_eq_ediv_of_nonneg _ (by decide), u8_id (by omega)]
theorem lo8 {n : Int} (h : 0 ≤ n ∧ n ≤ 65535) : IntKind.u8.wrap (andI n 255) = n % 256 := by
  rw [andI_255 h, u8_id (by omega)]
theorem two8 {x y : Int} (hx : 0 ≤ x ∧ x ≤ 255) (hy : 0 ≤ y ∧ y ≤ 255) : orI (IntKind.i64.wrap (IntKind.i64.wrap x * 2 ^ min (Int.toNat 8) IntKind.i64.bits)) (IntKind.i64.wrap y) = x * 256 + y := by
  rw [show (2 ^ min (Int.toNat 8) IntKind.i64.bits : Int) = 256 by decide, wrap_id (n := x) (by omega) (by omega), wrap_id (n := y) (by omega) (by omega), wrap_id (by omega) (by omega), orI_add hx hy]
def wordBytes (w : Word) : List Int :=
  if wordOk w then (if w.is then [w.n / 256, w.n % 256, 1, w.key.base / 256, w.key.base % 256, w.key.top / 256, w.key.top % 256, w.key.perms, w.key.sealed] else [w.n / 256, w.n % 256, 0]) else []
theorem wordOk_n {w : Word} (h : wordOk w = true) : 0 ≤ w.n ∧ w.n ≤ 65535 := by
  simp only [wordOk, Bool.and_eq_true] at h; simpa [inR] using h.1
theorem wordOk_key {w : Word} (h : wordOk w = true) (h2 : w.is = true) : 0 ≤ w.key.base ∧ w.key.base ≤ w.key.top ∧ w.key.top ≤ 4096 ∧ 0 ≤ w.key.perms ∧ w.key.perms ≤ 63 ∧ 0 ≤ w.key.sealed ∧ w.key.sealed ≤ 7 := by
  simp only [wordOk, h2, if_true, Bool.and_eq_true, keyOk, exact_] at h
  have := bounds_n h.2.1.1.1.1
  have h3 := h.2.1.2
  have h4 := h.2.2
  simp [inR] at h3 h4
  omega
theorem zu8 : FT.zero (.int .u8) = (0 : Int) := rfl
theorem win_at {b : List Int} {o n i : Nat} (h : i < n) : (win b o n).getD i 0 = b.getD (o + i) 0 := by
  simp [win, List.getD_eq_getElem?_getD, List.getElem?_take, h]
theorem win_len {α : Type} {b : List α} {o n : Nat} (h : o + n ≤ b.length) : (win b o n).length = n := by
  simp [win]; omega
theorem U8s.win {b : List Int} (h : U8s b) (o n : Nat) : U8s (win b o n) := fun x hx => h x (List.mem_of_mem_drop (List.mem_of_mem_take hx))
theorem tn (n : Nat) : Int.toNat (OfNat.ofNat n) = n := rfl
theorem tn2 : Int.toNat 2 = 2 := rfl
theorem tn3 : Int.toNat 3 = 3 := rfl
theorem tn5 : Int.toNat 5 = 5 := rfl
theorem tn7 : Int.toNat 7 = 7 := rfl
theorem tn8 : Int.toNat 8 = 8 := rfl

def wordAt (b : List Int) (i : Nat) : Word := ⟨b.getD i 0 * 256 + b.getD (i + 1) 0, true, ⟨b.getD (i + 3) 0 * 256 + b.getD (i + 4) 0, b.getD (i + 5) 0 * 256 + b.getD (i + 6) 0, b.getD (i + 7) 0, b.getD (i + 8) 0⟩⟩
def wordOf (b : List Int) (a : Int) : Option (Word × Int) :=
  if inR a 0 (b.length - 3) then
    (if b.getD (a.toNat + 2) 0 = 0 then some (⟨b.getD a.toNat 0 * 256 + b.getD (a.toNat + 1) 0, false, ⟨0, 0, 0, 0⟩⟩, a + 3)
     else if b.getD (a.toNat + 2) 0 = 1 ∧ a + 9 ≤ b.length ∧ wordOk (wordAt b a.toNat) = true then some (wordAt b a.toNat, a + 9) else none)
  else none
def wordOfT (o : Option (Word × Int)) : Tree := .tup [.g ((o.getD (⟨0, false, ⟨0, 0, 0, 0⟩⟩, 0)).1.tc []), .c (.int .i64 (o.getD (⟨0, false, ⟨0, 0, 0, 0⟩⟩, 0)).2), .c (.bool o.isSome)]
theorem wordOf_out {b : List Int} {a : Int} (h : inR a 0 (b.length - 3) = false) : wordOf b a = none := by simp [wordOf, h]
theorem wordOf_plain {b : List Int} {a : Int} (h : inR a 0 (b.length - 3) = true) (h2 : b.getD (a.toNat + 2) 0 = 0) : wordOf b a = some (⟨b.getD a.toNat 0 * 256 + b.getD (a.toNat + 1) 0, false, ⟨0, 0, 0, 0⟩⟩, a + 3) := by simp only [wordOf, h, h2, if_true]
theorem wordOf_key {b : List Int} {a : Int} (h : inR a 0 (b.length - 3) = true) (h2 : b.getD (a.toNat + 2) 0 = 1) (h3 : a + 9 ≤ b.length) (h4 : wordOk (wordAt b a.toNat) = true) : wordOf b a = some (wordAt b a.toNat, a + 9) := by
  simp only [wordOf, h, h2, h3, h4, if_true]; rfl
theorem wordOf_no {b : List Int} {a : Int} (h2 : b.getD (a.toNat + 2) 0 ≠ 0) (h3 : ¬ (b.getD (a.toNat + 2) 0 = 1 ∧ a + 9 ≤ b.length ∧ wordOk (wordAt b a.toNat) = true)) : wordOf b a = none := by
  simp only [wordOf, h2, h3, if_false]; simp
theorem strI_inj {xs ys : List Int} (hx : U8s xs) (hy : U8s ys) (h : strI xs = strI ys) : xs = ys := by
  have h1 : xs.map (fun n => UInt8.ofNat n.toNat) = ys.map (fun n => UInt8.ofNat n.toNat) := by
    have := congrArg (fun s => s.data.toList) h
    simpa [strI] using this
  clear h
  induction xs generalizing ys with
  | nil => cases ys with
    | nil => rfl
    | cons y ys => simp at h1
  | cons x xs ih => cases ys with
    | nil => simp at h1
    | cons y ys =>
      simp only [List.map_cons, List.cons.injEq] at h1
      have e := ih (fun z hz => hx z (by simp [hz])) (fun z hz => hy z (by simp [hz])) h1.2
      have a1 := hx x (by simp)
      have a2 := hy y (by simp)
      have h2 := congrArg UInt8.toNat h1.1
      simp only [UInt8.toNat_ofNat'] at h2
      rw [e, show x = y by omega]
theorem beqS (a b : ByteArray) : (a == b) = decide (a = b) := by
  obtain ⟨a⟩ := a
  obtain ⟨b⟩ := b
  rw [Bool.eq_iff_iff]
  simp only [decide_eq_true_eq, ByteArray.mk.injEq]
  show (a == b) = true ↔ _
  exact beq_iff_eq
theorem strI_eq {xs ys : List Int} (hx : U8s xs) (hy : U8s ys) : (strI xs == strI ys) = decide (xs = ys) := by
  rw [beqS, Bool.eq_iff_iff]; simp only [decide_eq_true_eq]
  exact ⟨strI_inj hx hy, fun h => by rw [h]⟩
theorem wordBytes_u8 (w : Word) : U8s (wordBytes w) := by
  intro x hx
  unfold wordBytes at hx
  split at hx
  · rename_i h
    have hn := wordOk_n h
    split at hx
    · rename_i h2
      have hk := wordOk_key h h2
      simp at hx
      omega
    · simp at hx
      omega
  · cases hx
theorem win3 {b : List Int} {a : Nat} (h : a + 3 ≤ b.length) : win b a 3 = [b.getD a 0, b.getD (a + 1) 0, b.getD (a + 2) 0] := by
  apply List.ext_getElem
  · rw [win_len h]; rfl
  · intro i h1 h2
    have hi : i < 3 := by simpa using h2
    have e := win_at (b := b) (o := a) hi
    rw [List.getD_eq_getElem?_getD, List.getElem?_eq_getElem h1, Option.getD_some] at e
    rw [e]
    match i, hi with
    | 0, _ => rfl
    | 1, _ => rfl
    | 2, _ => rfl
theorem win9 {b : List Int} {a : Nat} (h : a + 9 ≤ b.length) : win b a 9 = [b.getD a 0, b.getD (a + 1) 0, b.getD (a + 2) 0, b.getD (a + 3) 0, b.getD (a + 4) 0, b.getD (a + 5) 0, b.getD (a + 6) 0, b.getD (a + 7) 0, b.getD (a + 8) 0] := by
  apply List.ext_getElem
  · rw [win_len h]; rfl
  · intro i h1 h2
    have hi : i < 9 := by simpa using h2
    have e := win_at (b := b) (o := a) hi
    rw [List.getD_eq_getElem?_getD, List.getElem?_eq_getElem h1, Option.getD_some] at e
    rw [e]
    match i, hi with
    | 0, _ => rfl
    | 1, _ => rfl
    | 2, _ => rfl
    | 3, _ => rfl
    | 4, _ => rfl
    | 5, _ => rfl
    | 6, _ => rfl
    | 7, _ => rfl
    | 8, _ => rfl
theorem wordOk_plain {b : List Int} (h : U8s b) (i j : Nat) : wordOk ⟨b.getD i 0 * 256 + b.getD j 0, false, ⟨0, 0, 0, 0⟩⟩ = true := by
  have := h.at i; have := h.at j
  generalize b.getD i 0 = x at *
  generalize b.getD j 0 = y at *
  simp [wordOk, inR]; omega
theorem wordBytes_plain {b : List Int} (h : U8s b) (i j : Nat) : wordBytes ⟨b.getD i 0 * 256 + b.getD j 0, false, ⟨0, 0, 0, 0⟩⟩ = [b.getD i 0, b.getD j 0, 0] := by
  have := h.at i; have := h.at j
  simp only [wordBytes, wordOk_plain h, if_true, Bool.false_eq_true, if_false]
  rw [show (b.getD i 0 * 256 + b.getD j 0) / 256 = b.getD i 0 by omega, show (b.getD i 0 * 256 + b.getD j 0) % 256 = b.getD j 0 by omega]
theorem wordBytes_at {b : List Int} (h : U8s b) {a : Nat} (hw : wordOk (wordAt b a) = true) : wordBytes (wordAt b a) = [b.getD a 0, b.getD (a + 1) 0, 1, b.getD (a + 3) 0, b.getD (a + 4) 0, b.getD (a + 5) 0, b.getD (a + 6) 0, b.getD (a + 7) 0, b.getD (a + 8) 0] := by
  have := h.at a; have := h.at (a + 1); have := h.at (a + 3); have := h.at (a + 4); have := h.at (a + 5); have := h.at (a + 6)
  unfold wordBytes
  rw [if_pos hw]
  simp only [wordAt, if_true]
  rw [show (b.getD a 0 * 256 + b.getD (a + 1) 0) / 256 = b.getD a 0 by omega, show (b.getD a 0 * 256 + b.getD (a + 1) 0) % 256 = b.getD (a + 1) 0 by omega,
    show (b.getD (a + 3) 0 * 256 + b.getD (a + 4) 0) / 256 = b.getD (a + 3) 0 by omega, show (b.getD (a + 3) 0 * 256 + b.getD (a + 4) 0) % 256 = b.getD (a + 4) 0 by omega,
    show (b.getD (a + 5) 0 * 256 + b.getD (a + 6) 0) / 256 = b.getD (a + 5) 0 by omega, show (b.getD (a + 5) 0 * 256 + b.getD (a + 6) 0) % 256 = b.getD (a + 6) 0 by omega]


def filt (f : Nat → Bool) (n : Nat) : List Int := ((List.range n).filter f).map (fun c : Nat => (c : Int))
theorem filt_yes {f : Nat → Bool} {n : Nat} (h : f n = true) : filt f (n + 1) = filt f n ++ [(n : Int)] := by simp [filt, List.range_succ, List.filter_append, h]
theorem filt_no {f : Nat → Bool} {n : Nat} (h : f n = false) : filt f (n + 1) = filt f n := by simp [filt, List.range_succ, List.filter_append, h]
theorem filt_len (f : Nat → Bool) (n : Nat) : (filt f n).length ≤ n := by
  have := List.length_filter_le f (List.range n)
  simp [filt] at this ⊢; exact this
theorem filt_congr {f g : Nat → Bool} {n : Nat} (h : ∀ c, c < n → f c = g c) : filt f n = filt g n := by
  unfold filt
  congr 1
  apply List.filter_congr
  intro c hc
  exact h c (by simpa using hc)
def coverP (ws : List Word) (p : Int) (c : Nat) : Bool := ws.any (fun w => hasP w p && inR c w.key.base (w.key.top - 1))
def cellsBy (m : Mem) (l : List Word) (p : Int) : List Int := filt (coverP (closure m l) p) 24
theorem any_take {α : Type} (p : α → Bool) {xs : List α} {i : Nat} (z : α) (h : i < xs.length) : (xs.take (i + 1)).any p = ((xs.take i).any p || p (xs.getD i z)) := by
  have e : xs.getD i z = xs[i] := by simp [List.getD_eq_getElem?_getD, h]
  rw [List.take_add_one, List.getElem?_eq_getElem h, List.any_append, e]; simp
theorem getD_set {α : Type} (xs : List α) (i j : Nat) (v d : α) (h : j < xs.length) : (xs.set i v).getD j d = if i = j then v else xs.getD j d := by
  simp only [List.getD_eq_getElem?_getD, List.getElem?_set]
  by_cases e : i = j
  · subst e; simp [h]
  · simp [e]
theorem rep_getD {α : Type} {n c : Nat} {x d : α} (h : c < n) : (List.replicate n x).getD c d = x := by
  simp only [List.getD_eq_getElem?_getD, List.getElem?_replicate, if_pos h, Option.getD_some]


def heldW (s : Side) : List Word := s.regs ++ [s.pc]
def meetI (a b : List Int) : Bool := a.any (fun n => b.any (fun x => n == x))
def crossesB (m : Mem) (a b : List Word) : Bool := meetI (cellsBy m a 2) (cellsBy m b 1 ++ cellsBy m b 2)
def apartB (t : Two) : Bool := twoOk t && !canSeal t.mem (heldW t.a) && !canSeal t.mem (heldW t.b) && (!crossesB t.mem (heldW t.a) (heldW t.b) && !crossesB t.mem (heldW t.b) (heldW t.a))
theorem any_or {α : Type} (p q : α → Bool) (xs : List α) : xs.any (fun x => p x || q x) = (xs.any p || xs.any q) := by
  rw [Bool.eq_iff_iff]; simp only [List.any_eq_true, Bool.or_eq_true]
  constructor
  · rintro ⟨x, hx, h | h⟩
    · exact .inl ⟨x, hx, h⟩
    · exact .inr ⟨x, hx, h⟩
  · rintro (⟨x, hx, h⟩ | ⟨x, hx, h⟩)
    · exact ⟨x, hx, .inl h⟩
    · exact ⟨x, hx, .inr h⟩
theorem meetI_app (a b c : List Int) : meetI a (b ++ c) = (meetI a b || meetI a c) := by
  unfold meetI
  rw [← any_or]
  congr 1; funext n; rw [List.any_append]
theorem meetI_comm (a b : List Int) : meetI a b = meetI b a := by
  unfold meetI
  rw [Bool.eq_iff_iff]; simp only [List.any_eq_true, beq_iff_eq]
  constructor
  · rintro ⟨x, hx, y, hy, e⟩; exact ⟨y, hy, x, hx, e.symm⟩
  · rintro ⟨x, hx, y, hy, e⟩; exact ⟨y, hy, x, hx, e.symm⟩
theorem apart_bool (a b c d : Bool) : (!(a || b) && !(c || b)) = (!b && !a && !c) := by cases a <;> cases b <;> cases c <;> rfl
theorem apart_spec (m : Mem) (a b : List Word) : (!crossesB m a b && !crossesB m b a) = (!meetI (cellsBy m a 2) (cellsBy m b 2) && !meetI (cellsBy m a 2) (cellsBy m b 1) && !meetI (cellsBy m b 2) (cellsBy m a 1)) := by
  unfold crossesB
  rw [meetI_app, meetI_app, meetI_comm (cellsBy m b 2) (cellsBy m a 2), apart_bool _ _ _ true]
theorem cellsBy_le (m : Mem) (l : List Word) (p : Int) : (cellsBy m l p).length ≤ 24 := filt_len _ _
theorem twoOk_len {t : Two} (h : twoOk t = true) : t.a.regs.length = 8 ∧ t.b.regs.length = 8 := by
  simp only [twoOk, stateOk, Bool.and_eq_true, decide_eq_true_eq] at h
  exact ⟨h.1.1.1.1.1, h.2.1.1.1.1⟩

def LHeap (h : Heap) (n : Nat) : Prop := LMem h.mem n ∧ h.live.length ≤ n ∧ h.waits.length ≤ n
def szHeapI (h : Heap) (k : Int) : Int := szB (szMem h.mem k) fun k => szB (szr k h.live.length) fun k => szr k h.waits.length
theorem szHeap_n {h : Heap} {k : Int} (h0 : k ≤ 1048576) (hh : 0 ≤ szHeapI h k) : LHeap h 1048576 := by
  obtain ⟨h1, h2, _⟩ := szB_pos hh
  obtain ⟨h3, h4, _⟩ := szB_pos h2
  have h5 := szMem_n h0 h1; have h6 := szr_n h3; have h7 := szr_n h4
  exact ⟨h5.1, by omega, by omega⟩
theorem LHeap.mono {t : Heap} {n m : Nat} (h : LHeap t n) (k : n ≤ m) : LHeap t m := ⟨⟨Nat.le_trans h.1.1 k, Nat.le_trans h.1.2 k⟩, Nat.le_trans h.2.1 k, Nat.le_trans h.2.2 k⟩
theorem lHeap_of {t : Heap} (h : WHeap t) : LHeap t 9223372036854775807 := ⟨⟨h.1.1.2, h.1.2.2⟩, h.2.1.2, h.2.2.2⟩

def inS (s : Span) (c : Nat) : Bool := inR c s.at_ (s.at_ + s.len - 1)
def spanOk (s : Span) : Bool := inR s.at_ 0 23 && inR s.len 1 (24 - s.at_)
def spanChk (l : List Span) (i : Nat) : Bool := spanOk (l.getD i (FT.zero .span)) && (i == 0 || decide ((l.getD (i - 1) (FT.zero .span)).at_ < (l.getD i (FT.zero .span)).at_))
def okTo (l : List Span) (i : Nat) : Bool := (List.range i).all (spanChk l)
def spansOk (l : List Span) : Bool := okTo l l.length
theorem okTo_yes {l : List Span} {i : Nat} (h : okTo l i = true) (h2 : spanChk l i = true) : okTo l (i + 1) = true := by simp only [okTo, List.range_succ, List.all_append, List.all_cons, List.all_nil, h2, Bool.and_true]; exact h
theorem okTo_no {l : List Span} {i n : Nat} (h : i < n) (h2 : spanChk l i = false) : okTo l n = false := by
  unfold okTo
  rw [Bool.eq_false_iff]
  intro hh
  have := List.all_eq_true.1 hh i (by simpa using h)
  rw [h2] at this; cases this

theorem inR_t {n lo hi : Int} : inR n lo hi = true ↔ lo ≤ n ∧ n ≤ hi := by simp [inR]
theorem inR_f {n lo hi : Int} : inR n lo hi = false ↔ (n < lo ∨ hi < n) := by
  rw [Bool.eq_false_iff, ne_eq, inR_t]; omega
theorem spanChk_iff (l : List Span) (i : Nat) : spanChk l i = true ↔ (((0 ≤ (l.getD i (FT.zero .span)).at_ ∧ (l.getD i (FT.zero .span)).at_ ≤ 23) ∧ 1 ≤ (l.getD i (FT.zero .span)).len ∧ (l.getD i (FT.zero .span)).len ≤ 24 - (l.getD i (FT.zero .span)).at_) ∧ (i = 0 ∨ (l.getD (i - 1) (FT.zero .span)).at_ < (l.getD i (FT.zero .span)).at_)) := by
  simp only [spanChk, spanOk, Bool.and_eq_true, inR_t, Bool.or_eq_true, beq_iff_eq, decide_eq_true_eq]
theorem spanChk_f (l : List Span) (i : Nat) : spanChk l i = false ↔ ¬ (((0 ≤ (l.getD i (FT.zero .span)).at_ ∧ (l.getD i (FT.zero .span)).at_ ≤ 23) ∧ 1 ≤ (l.getD i (FT.zero .span)).len ∧ (l.getD i (FT.zero .span)).len ≤ 24 - (l.getD i (FT.zero .span)).at_) ∧ (i = 0 ∨ (l.getD (i - 1) (FT.zero .span)).at_ < (l.getD i (FT.zero .span)).at_)) := by
  rw [← spanChk_iff]; simp
theorem spanChk_val (l : List Span) (i : Nat) : spanChk l i = (inR (l.getD i (FT.zero .span)).at_ 0 23 && inR (l.getD i (FT.zero .span)).len 1 (24 - (l.getD i (FT.zero .span)).at_) && (i == 0 || decide ((l.getD (i - 1) (FT.zero .span)).at_ < (l.getD i (FT.zero .span)).at_))) := rfl
def inRaw (s : Span) (c : Int) : Bool := inR c s.at_ (IntKind.i64.wrap (IntKind.i64.wrap (s.at_ + s.len) - 1))
def inL (l : List Span) (c : Int) : Bool := l.any (fun s => inRaw s c)
def ownRun (s : Span) : Nat → Nat → List Int → List Int
  | 0, _, u => u
  | n + 1, c, u => if decide (IntKind.i64.wrap ((c : Int) - s.at_) < s.len) then ownRun s n (c + 1) (u.set c (IntKind.i64.wrap (u.getD c 0 + 1))) else u
def ownOne (u : List Int) (s : Span) : List Int := ownRun s (24 - max s.at_ 0).toNat (max s.at_ 0).toNat u
def owners (l : List Span) : List Int := l.foldl ownOne (List.replicate 24 0)
theorem ownRun_len (s : Span) : ∀ (n c : Nat) (u : List Int), (ownRun s n c u).length = u.length
  | 0, _, _ => rfl
  | n + 1, c, u => by
    unfold ownRun
    split
    · rw [ownRun_len s n (c + 1)]; simp
    · rfl
def markRun : Nat → Nat → List Bool → Bool × List Bool
  | 0, _, u => (true, u)
  | n + 1, c, u => if u.getD c false then (false, u) else markRun n (c + 1) (u.set c true)
def markedGo (l : List Span) : Nat → Nat → List Bool → Bool × List Bool
  | 0, _, u => (true, u)
  | n + 1, i, u => if spanChk l i then (if (markRun (l.getD i (FT.zero .span)).len.toNat (l.getD i (FT.zero .span)).at_.toNat u).1 then markedGo l n (i + 1) (markRun (l.getD i (FT.zero .span)).len.toNat (l.getD i (FT.zero .span)).at_.toNat u).2 else markRun (l.getD i (FT.zero .span)).len.toNat (l.getD i (FT.zero .span)).at_.toNat u) else (false, u)
def markedF (u : List Bool) (l : List Span) : Bool × List Bool := markedGo l l.length 0 u
theorem markRun_len : ∀ (n c : Nat) (u : List Bool), (markRun n c u).2.length = u.length
  | 0, _, _ => rfl
  | n + 1, c, u => by
    unfold markRun
    split
    · rfl
    · rw [markRun_len n (c + 1)]; simp

def allR (f : Nat → Bool) (n : Nat) : Bool := (List.range n).all f
theorem allR_yes {f : Nat → Bool} {i : Nat} (h : allR f i = true) (h2 : f i = true) : allR f (i + 1) = true := by simp only [allR, List.range_succ, List.all_append, List.all_cons, List.all_nil, h2, Bool.and_true]; exact h
theorem allR_no {f : Nat → Bool} {i n : Nat} (h : i < n) (h2 : f i = false) : allR f n = false := by
  unfold allR
  rw [Bool.eq_false_iff]
  intro hh
  have := List.all_eq_true.1 hh i (by simpa using h)
  rw [h2] at this; cases this
theorem allR_iff {f : Nat → Bool} {n : Nat} : allR f n = true ↔ ∀ c, c < n → f c = true := by simp [allR]
def cnt (l : List Span) (c : Nat) : Nat := l.countP (fun s => inS s c)
def heapOk (h : Heap) : Bool := memoryOk h.mem && spansOk h.live && spansOk h.waits && allR (fun c => decide (cnt h.live c + cnt h.waits c ≤ 1) && (h.mem.gone.getD c false == decide (0 < cnt h.waits c))) 24
theorem markedGo_len (l : List Span) : ∀ (n i : Nat) (u : List Bool), (markedGo l n i u).2.length = u.length
  | 0, _, _ => rfl
  | n + 1, i, u => by
    unfold markedGo
    split
    · split
      · rw [markedGo_len l n (i + 1), markRun_len]
      · rw [markRun_len]
    · rfl
theorem bool_ext {a b : Bool} (h : a = true ↔ b = true) : a = b := by cases a <;> cases b <;> simp_all
theorem markRun_spec : ∀ (n a : Nat) (u : List Bool), u.length = 24 → a + n ≤ 24 →
    ((markRun n a u).1 = true ↔ ∀ c, a ≤ c → c < a + n → u.getD c false = false) ∧ ((markRun n a u).1 = true → ∀ c, c < 24 → (markRun n a u).2.getD c false = (u.getD c false || (decide (a ≤ c) && decide (c < a + n))))
  | 0, a, u, hu, _ => by
    refine ⟨⟨fun _ c h1 h2 => by omega, fun _ => rfl⟩, fun _ c hc => ?_⟩
    have : (decide (a ≤ c) && decide (c < a + 0)) = false := by
      rw [Bool.eq_false_iff]; intro h; simp only [Bool.and_eq_true, decide_eq_true_eq] at h; omega
    rw [this, Bool.or_false]; rfl
  | n + 1, a, u, hu, ha => by
    unfold markRun
    by_cases e : u.getD a false = true
    · rw [if_pos e]
      refine ⟨⟨fun h => (by cases h), fun h => ?_⟩, fun h => (by cases h)⟩
      rw [h a (Nat.le_refl _) (by omega)] at e; cases e
    · rw [if_neg e]
      obtain ⟨h1, h2⟩ := markRun_spec n (a + 1) (u.set a true) (by simpa using hu) (by omega)
      have hset : ∀ c, c < 24 → (u.set a true).getD c false = if a = c then true else u.getD c false := fun c hc => getD_set _ _ _ _ _ (by omega)
      refine ⟨⟨fun h c hc hc2 => ?_, fun h => h1.2 fun c hc hc2 => ?_⟩, fun h c hc => ?_⟩
      · by_cases e2 : a = c
        · subst e2; simpa using e
        · have := h1.1 h c (by omega) (by omega)
          rw [hset c (by omega), if_neg e2] at this
          exact this
      · rw [hset c (by omega), if_neg (by omega)]
        exact h c (by omega) (by omega)
      · rw [h2 h c hc, hset c hc]
        by_cases e2 : a = c
        · subst e2
          rw [if_pos rfl, decide_eq_true (Nat.le_refl a), decide_eq_true (show a < a + (n + 1) by omega)]; simp
        · rw [if_neg e2, decide_eq_decide.2 (show a + 1 ≤ c ↔ a ≤ c by omega), decide_eq_decide.2 (show c < a + 1 + n ↔ c < a + (n + 1) by omega)]
theorem inS_nat {s : Span} (h : spanOk s = true) (c : Nat) : inS s c = (decide (s.at_.toNat ≤ c) && decide (c < s.at_.toNat + s.len.toNat)) := by
  simp only [spanOk, Bool.and_eq_true, inR_t] at h
  unfold inS inR
  rw [decide_eq_decide.2 (show s.at_ ≤ (c : Int) ↔ s.at_.toNat ≤ c by omega), decide_eq_decide.2 (show (c : Int) ≤ s.at_ + s.len - 1 ↔ c < s.at_.toNat + s.len.toNat by omega)]
theorem spanChk_ok {l : List Span} {i : Nat} (h : spanChk l i = true) : spanOk (l.getD i (FT.zero .span)) = true := by
  simp only [spanChk, Bool.and_eq_true] at h; exact h.1
theorem drop_getD {α : Type} {l : List α} {i : Nat} (z : α) (h : i < l.length) : l.drop i = l.getD i z :: l.drop (i + 1) := by
  have e : l.getD i z = l[i] := by simp [List.getD_eq_getElem?_getD, h]
  rw [List.drop_eq_getElem_cons h, e]
theorem cnt_cons (s : Span) (l : List Span) (c : Nat) : cnt (s :: l) c = (if inS s c then 1 else 0) + cnt l c := by
  simp only [cnt, List.countP_cons]; omega
theorem markedGo_spec (l : List Span) : ∀ (n i : Nat) (u : List Bool), n = l.length - i → u.length = 24 →
    ((markedGo l n i u).1 = true ↔ (∀ j, i ≤ j → j < l.length → spanChk l j = true) ∧ ∀ c, c < 24 → (if u.getD c false then 1 else 0) + cnt (l.drop i) c ≤ 1) ∧
    ((markedGo l n i u).1 = true → ∀ c, c < 24 → (markedGo l n i u).2.getD c false = (u.getD c false || decide (0 < cnt (l.drop i) c)))
  | 0, i, u, hn, hu => by
    have hd : l.drop i = [] := List.drop_eq_nil_of_le (by omega)
    refine ⟨⟨fun _ => ⟨fun j h1 h2 => by omega, fun c _ => ?_⟩, fun _ => rfl⟩, fun _ c hc => ?_⟩
    · rw [hd]; simp only [cnt, List.countP_nil]; split <;> omega
    · rw [hd]; simp [cnt, markedGo]
  | n + 1, i, u, hn, hu => by
    have hlt : i < l.length := by omega
    have hd := drop_getD (FT.zero .span) hlt
    unfold markedGo
    by_cases hc : spanChk l i = true
    · rw [if_pos hc]
      have hok := spanChk_ok hc
      have hin := inS_nat hok
      have hb : (l.getD i (FT.zero .span)).at_.toNat + (l.getD i (FT.zero .span)).len.toNat ≤ 24 := by
        simp only [spanOk, Bool.and_eq_true, inR_t] at hok; omega
      rw [hd]
      generalize l.getD i (FT.zero .span) = s at *
      obtain ⟨m1, m2⟩ := markRun_spec s.len.toNat s.at_.toNat u hu hb
      have ml := markRun_len s.len.toNat s.at_.toNat u
      generalize markRun s.len.toNat s.at_.toNat u = r at *
      by_cases hr : r.1 = true
      · rw [if_pos hr]
        obtain ⟨g1, g2⟩ := markedGo_spec l n (i + 1) r.2 (by omega) (by omega)
        have hr2 := m2 hr
        have hfree := m1.1 hr
        have hsum : ∀ c, c < 24 → ((if r.2.getD c false then 1 else 0) + cnt (l.drop (i + 1)) c = (if u.getD c false then 1 else 0) + cnt (s :: l.drop (i + 1)) c) := fun c hc24 => by
          rw [cnt_cons, hr2 c hc24, hin c]
          by_cases e : s.at_.toNat ≤ c ∧ c < s.at_.toNat + s.len.toNat
          · rw [hfree c e.1 e.2, decide_eq_true e.1, decide_eq_true e.2]; simp
          · have : (decide (s.at_.toNat ≤ c) && decide (c < s.at_.toNat + s.len.toNat)) = false := by rw [Bool.eq_false_iff]; simp; omega
            rw [this]; simp
        refine ⟨⟨fun h => ?_, fun h => g1.2 ⟨fun j h1 h2 => h.1 j (by omega) h2, fun c hc24 => by rw [hsum c hc24]; exact h.2 c hc24⟩⟩, fun h c hc24 => ?_⟩
        · obtain ⟨a1, a2⟩ := g1.1 h
          refine ⟨fun j h1 h2 => ?_, fun c hc24 => by rw [← hsum c hc24]; exact a2 c hc24⟩
          by_cases e : j = i
          · rw [e]; exact hc
          · exact a1 j (by omega) h2
        · rw [g2 h c hc24, hr2 c hc24, cnt_cons, hin c]
          cases u.getD c false <;> cases (decide (s.at_.toNat ≤ c) && decide (c < s.at_.toNat + s.len.toNat)) <;> simp <;> omega
      · rw [if_neg hr]
        refine ⟨⟨fun h => absurd h hr, fun h => absurd (m1.2 fun c h1 h2 => ?_) hr⟩, fun h => absurd h hr⟩
        have := h.2 c (by omega)
        rw [cnt_cons, hin c, decide_eq_true h1, decide_eq_true h2] at this
        cases e : u.getD c false with
        | false => rfl
        | true => rw [e] at this; simp at this; omega
    · rw [if_neg hc]
      refine ⟨⟨fun h => (by cases h), fun h => absurd (h.1 i (Nat.le_refl _) hlt) hc⟩, fun h => (by cases h)⟩
theorem spansOk_iff {l : List Span} : spansOk l = true ↔ ∀ j, j < l.length → spanChk l j = true := by simp [spansOk, okTo]
theorem spansOk_mem {l : List Span} (h : spansOk l = true) : ∀ s ∈ l, spanOk s = true := fun s hs => by
  obtain ⟨i, hi, rfl⟩ := List.getElem_of_mem hs
  have := spanChk_ok (spansOk_iff.1 h i hi)
  rw [show l.getD i (FT.zero .span) = l[i] by simp [List.getD_eq_getElem?_getD, hi]] at this
  exact this
theorem markedF_spec (l : List Span) :
    ((markedF (List.replicate 24 false) l).1 = true ↔ spansOk l = true ∧ ∀ c, c < 24 → cnt l c ≤ 1) ∧
    ((markedF (List.replicate 24 false) l).1 = true → ∀ c, c < 24 → (markedF (List.replicate 24 false) l).2.getD c false = decide (0 < cnt l c)) := by
  obtain ⟨h1, h2⟩ := markedGo_spec l l.length 0 (List.replicate 24 false) (by simp) (by simp)
  refine ⟨⟨fun h => ?_, fun h => h1.2 ⟨fun j _ hj => spansOk_iff.1 h.1 j hj, fun c hc => ?_⟩⟩, fun h c hc => ?_⟩
  · obtain ⟨a1, a2⟩ := h1.1 h
    refine ⟨spansOk_iff.2 fun j hj => a1 j (Nat.zero_le _) hj, fun c hc => ?_⟩
    have := a2 c hc
    rw [rep_getD hc] at this
    simpa using this
  · rw [rep_getD hc]; simpa using h.2 c hc
  · have := h2 h c hc
    rw [rep_getD hc, Bool.false_or] at this
    exact this
theorem ownRun_spec (s : Span) (hs : spanOk s = true) : ∀ (n c : Nat) (u : List Int), n = 24 - c → u.length = 24 → s.at_ ≤ c →
    ∀ j, j < 24 → (ownRun s n c u).getD j 0 = if c ≤ j ∧ inS s j = true then IntKind.i64.wrap (u.getD j 0 + 1) else u.getD j 0
  | 0, c, u, hn, hu, hc => fun j hj => by
    rw [if_neg (by omega)]; rfl
  | n + 1, c, u, hn, hu, hc => fun j hj => by
    have hok := hs
    simp only [spanOk, Bool.and_eq_true, inR_t] at hok
    unfold ownRun
    rw [wrap_id (n := (c : Int) - s.at_) (by omega) (by omega)]
    have hin : inS s j = true ↔ s.at_ ≤ j ∧ (j : Int) ≤ s.at_ + s.len - 1 := by unfold inS; exact inR_t
    by_cases e : (c : Int) - s.at_ < s.len
    · rw [decide_eq_true e, if_pos rfl, ownRun_spec s hs n (c + 1) _ (by omega) (by simpa using hu) (by omega) j hj, getD_set _ _ _ _ _ (by omega)]
      by_cases e2 : c = j
      · subst e2
        rw [if_pos rfl, if_neg (by omega), if_pos ⟨Nat.le_refl _, hin.2 (by omega)⟩]
      · rw [if_neg e2]
        by_cases e3 : c + 1 ≤ j ∧ inS s j = true
        · rw [if_pos e3, if_pos ⟨by omega, e3.2⟩]
        · rw [if_neg e3, if_neg (fun h => e3 ⟨by omega, h.2⟩)]
    · rw [decide_eq_false e, if_neg (by decide), if_neg (fun h => by have := hin.1 h.2; omega)]
theorem ownOne_spec {s : Span} (hs : spanOk s = true) {u : List Int} (hu : u.length = 24) {j : Nat} (hj : j < 24) : (ownOne u s).getD j 0 = if inS s j = true then IntKind.i64.wrap (u.getD j 0 + 1) else u.getD j 0 := by
  have hok := hs
  simp only [spanOk, Bool.and_eq_true, inR_t] at hok
  unfold ownOne
  rw [ownRun_spec s hs _ _ u (by omega) hu (by omega) j hj]
  have hin : inS s j = true → s.at_ ≤ j := fun h => by unfold inS at h; exact (inR_t.1 h).1
  by_cases e : inS s j = true
  · rw [if_pos e, if_pos ⟨by have := hin e; omega, e⟩]
  · rw [if_neg e, if_neg (fun h => e h.2)]
theorem owners_go : ∀ (l : List Span) (u : List Int) (K : Nat), (∀ s ∈ l, spanOk s = true) → u.length = 24 → (∀ j, j < 24 → 0 ≤ u.getD j 0 ∧ u.getD j 0 ≤ K) → K + l.length ≤ 1000000000 →
    ∀ j, j < 24 → (l.foldl ownOne u).getD j 0 = u.getD j 0 + (cnt l j : Int)
  | [], u, K, _, _, _, _ => fun j hj => by simp [cnt]
  | s :: l, u, K, hl, hu, hk, hK => fun j hj => by
    have hs := hl s (by simp)
    have ho : ∀ j, j < 24 → (ownOne u s).getD j 0 = u.getD j 0 + (if inS s j then 1 else 0) := fun j hj => by
      rw [ownOne_spec hs hu hj]
      have := hk j hj
      split
      · simp only [List.length_cons] at hK; exact wrap_id (by omega) (by omega)
      · omega
    rw [List.foldl_cons, owners_go l (ownOne u s) (K + 1) (fun x hx => hl x (by simp [hx])) (by unfold ownOne; rw [ownRun_len]; exact hu) (fun j hj => by
      rw [ho j hj]; have := hk j hj; split <;> omega) (by simp only [List.length_cons] at hK; omega) j hj, ho j hj, cnt_cons]
    split <;> omega
theorem owners_spec {l : List Span} (h : ∀ s ∈ l, spanOk s = true) (hl : l.length ≤ 100000000) {j : Nat} (hj : j < 24) : (owners l).getD j 0 = (cnt l j : Int) := by
  unfold owners
  rw [owners_go l _ 0 h (by simp) (fun j hj => by rw [rep_getD hj]; omega) (by omega) j hj, rep_getD hj]
  omega
theorem owners_len (l : List Span) : (owners l).length = 24 := by
  have key : ∀ (l : List Span) (u : List Int), (l.foldl ownOne u).length = u.length := fun l => by
    induction l with
    | nil => intro u; rfl
    | cons s l ih => intro u; rw [List.foldl_cons, ih]; unfold ownOne; rw [ownRun_len]
  unfold owners; rw [key]; simp
theorem inRaw_eq {s : Span} (hs : spanOk s = true) (c : Nat) : inRaw s c = inS s c := by
  simp only [spanOk, Bool.and_eq_true, inR_t] at hs
  unfold inRaw inS
  rw [wrap_id (n := s.at_ + s.len) (by omega) (by omega), wrap_id (by omega) (by omega)]
theorem inL_eq {l : List Span} (h : ∀ s ∈ l, spanOk s = true) (c : Nat) : inL l c = decide (0 < cnt l c) := by
  unfold inL cnt
  rw [Bool.eq_iff_iff, List.any_eq_true, decide_eq_true_eq, List.countP_pos_iff]
  constructor
  · rintro ⟨s, hs, e⟩; exact ⟨s, hs, by rw [inRaw_eq (h s hs)] at e; exact e⟩
  · rintro ⟨s, hs, e⟩; exact ⟨s, hs, by rw [inRaw_eq (h s hs)]; exact e⟩
theorem cnt_app (a b : List Span) (c : Nat) : cnt (a ++ b) c = cnt a c + cnt b c := by simp [cnt]
def heapOkI (h : Heap) : Bool := memoryOk h.mem && (markedF (List.replicate 24 false) h.waits).1 && (markedF (List.replicate 24 false) h.live).1 &&
  allR (fun c => !((markedF (List.replicate 24 false) h.waits).2.getD c false && (markedF (List.replicate 24 false) h.live).2.getD c false) && ((markedF (List.replicate 24 false) h.waits).2.getD c false == h.mem.gone.getD c false)) 24
def heapOkS (h : Heap) : Bool := memoryOk h.mem && spansOk h.live && spansOk h.waits && allR (fun c => decide ((owners (h.live ++ h.waits)).getD c 0 ≤ 1) && (h.mem.gone.getD c false == inL h.waits c)) 24
theorem heapOkI_eq (h : Heap) : heapOkI h = heapOk h := by
  obtain ⟨w1, w2⟩ := markedF_spec h.waits
  obtain ⟨l1, l2⟩ := markedF_spec h.live
  apply bool_ext
  unfold heapOkI heapOk
  simp only [Bool.and_eq_true, allR_iff]
  constructor
  · rintro ⟨⟨⟨hm, hw⟩, hl⟩, hc⟩
    refine ⟨⟨⟨hm, (l1.1 hl).1⟩, (w1.1 hw).1⟩, fun c hc24 => ?_⟩
    have h1 := (hc c hc24).1
    have h2 := (hc c hc24).2
    rw [w2 hw c hc24] at h1 h2
    rw [l2 hl c hc24] at h1
    have := (l1.1 hl).2 c hc24
    have := (w1.1 hw).2 c hc24
    simp only [Bool.not_eq_true', Bool.and_eq_false_iff, decide_eq_false_iff_not, beq_iff_eq] at h1 h2
    exact ⟨decide_eq_true (by omega), by rw [h2]; simp⟩
  · rintro ⟨⟨⟨hm, hl⟩, hw⟩, hc⟩
    have hb : ∀ c, c < 24 → cnt h.live c + cnt h.waits c ≤ 1 := fun c hc24 => by simpa using (hc c hc24).1
    have hl1 := l1.2 ⟨hl, fun c hc24 => by have := hb c hc24; omega⟩
    have hw1 := w1.2 ⟨hw, fun c hc24 => by have := hb c hc24; omega⟩
    refine ⟨⟨⟨hm, hw1⟩, hl1⟩, fun c hc24 => ?_⟩
    rw [w2 hw1 c hc24, l2 hl1 c hc24]
    have h2 := (hc c hc24).2
    have := hb c hc24
    simp only [beq_iff_eq] at h2
    refine ⟨?_, by rw [h2]; simp⟩
    simp only [Bool.not_eq_true', Bool.and_eq_false_iff, decide_eq_false_iff_not]; omega
theorem heapOkS_eq {h : Heap} (hl : LHeap h 1048576) : heapOkS h = heapOk h := by
  apply bool_ext
  unfold heapOkS heapOk
  simp only [Bool.and_eq_true, allR_iff]
  have key : spansOk h.live = true → spansOk h.waits = true → ∀ c, c < 24 → (decide ((owners (h.live ++ h.waits)).getD c 0 ≤ 1) = decide (cnt h.live c + cnt h.waits c ≤ 1) ∧ inL h.waits c = decide (0 < cnt h.waits c)) := fun a b c hc => by
    refine ⟨?_, inL_eq (spansOk_mem b) c⟩
    rw [owners_spec (fun s hs => by rcases List.mem_append.1 hs with h | h; · exact spansOk_mem a s h
                                    · exact spansOk_mem b s h) (by rw [List.length_append]; have := hl.2.1; have := hl.2.2; omega) hc, cnt_app]
    exact decide_eq_decide.2 (by omega)
  constructor
  · rintro ⟨⟨⟨hm, a⟩, b⟩, hc⟩
    exact ⟨⟨⟨hm, a⟩, b⟩, fun c hc24 => by rw [← (key a b c hc24).1, ← (key a b c hc24).2]; exact hc c hc24⟩
  · rintro ⟨⟨⟨hm, a⟩, b⟩, hc⟩
    exact ⟨⟨⟨hm, a⟩, b⟩, fun c hc24 => by rw [(key a b c hc24).1, (key a b c hc24).2]; exact hc c hc24⟩

def plainW (n : Int) : Word := ⟨andI n 65535, false, ⟨0, 0, 0, 0⟩⟩
def gonB (g : List Bool) (w : Word) : Bool := w.is && inR w.key.base 0 (g.length - 1) && g.getD w.key.base.toNat false
def filterW (g : List Bool) (w : Word) : Word := if gonB g w then plainW w.n else w

def pf_spec_Plain : PF := ⟨[.c 2 true 6], .seq (.reg [.s (.alloc 2 [.int .i64 0, .ff, .int .i64 0, .int .i64 0, .int .i64 0, .int .i64 0])]) (.seq (.reg [.s (.mv 3 (.t 0)), .s (.bin 4 .and (.t 3) (.k (.v (.c (.int .i64 65535))))), .s (.build 5 [.int .i64 0, .ff, .int .i64 0, .int .i64 0, .int .i64 0, .int .i64 0] [(0, 1, (.t 4))]), .s (.store 6 (.t 2) (.t 5))]) (.ret))⟩
def c_spec_Plain : Fun := ⟨117, [], fun ts K => as1 ts fun t0 => arC (pI .i64) t0 fun n => K (tG ((plainW n).tc [])) []⟩
theorem run_spec_Plain (n : Int) : runK [] (0) [] pf_spec_Plain [tI .i64 n] fun r o => r = tG ((plainW n).tc []) ∧ o = [] := by
  conv => whnf
  repeat' (first
    | exact rfl
    | exact trivial
    | (refine sel_i (fun h => ?_) (fun h => ?_) <;> conv => whnf)
    | (refine chk_c ?_ ?_ <;> conv => whnf)
    | (refine And.intro ?_ ?_ <;> conv => whnf))
theorem ok_spec_Plain : FunOk Tryz.prog c_spec_Plain := funOk (E := []) (envOk_nil) mixd Tryz.func117 (pf := pf_spec_Plain) (by kernel_rfl) fun ts K h => by
  obtain ⟨t0, e0, h⟩ := as1_out h
  subst e0
  obtain ⟨n, e1, hq⟩ := arC_out (rd_int .i64) h
  clear h
  subst e1
  have h := hq
  clear hq
  exact ⟨_, _, h, Nat.le_of_ble_eq_true (show Nat.ble 1 Tryz.f117.ntmps = true by kernel_rfl), _, run_spec_Plain n⟩

def pf_impl_Plain : PF := ⟨[.c 2 true 6], .seq (.reg [.s (.alloc 2 [.int .i64 0, .ff, .int .i64 0, .int .i64 0, .int .i64 0, .int .i64 0])]) (.seq (.reg [.s (.mv 3 (.t 0)), .s (.bin 4 .and (.t 3) (.k (.v (.c (.int .i64 65535))))), .s (.build 5 [.int .i64 0, .ff, .int .i64 0, .int .i64 0, .int .i64 0, .int .i64 0] [(0, 1, (.t 4))]), .s (.store 6 (.t 2) (.t 5))]) (.ret))⟩
def c_impl_Plain : Fun := ⟨128, [], fun ts K => as1 ts fun t0 => arC (pI .i64) t0 fun n => K (tG ((plainW n).tc [])) []⟩
theorem run_impl_Plain (n : Int) : runK [] (0) [] pf_impl_Plain [tI .i64 n] fun r o => r = tG ((plainW n).tc []) ∧ o = [] := by
  conv => whnf
  repeat' (first
    | exact rfl
    | exact trivial
    | (refine sel_i (fun h => ?_) (fun h => ?_) <;> conv => whnf)
    | (refine chk_c ?_ ?_ <;> conv => whnf)
    | (refine And.intro ?_ ?_ <;> conv => whnf))
theorem ok_impl_Plain : FunOk Tryz.prog c_impl_Plain := funOk (E := []) (envOk_nil) mixd Tryz.func128 (pf := pf_impl_Plain) (by kernel_rfl) fun ts K h => by
  obtain ⟨t0, e0, h⟩ := as1_out h
  subst e0
  obtain ⟨n, e1, hq⟩ := arC_out (rd_int .i64) h
  clear h
  subst e1
  have h := hq
  clear hq
  exact ⟨_, _, h, Nat.le_of_ble_eq_true (show Nat.ble 1 Tryz.f128.ntmps = true by kernel_rfl), _, run_impl_Plain n⟩

def pf_spec_Bare : PF := ⟨[.c 2 true 6], .seq (.reg [.s (.box 1 (.t 0)), .s (.alloc 2 [.int .i64 0, .ff, .int .i64 0, .int .i64 0, .int .i64 0, .int .i64 0])]) (.seq (.reg [.s (.fa 3 (.t 1) 0), .s (.load 4 false 1 (.t 3)), .s (.call (some 5) 117 [(.t 4)]), .s (.store 6 (.t 2) (.t 5))]) (.ret))⟩
def c_spec_Bare : Fun := ⟨137, [], fun ts K => as1 ts fun t0 => arG pWordT t0 fun w => K (tG ((plainW w.n).tc [])) []⟩
theorem run_spec_Bare (w : Word) : runK [c_spec_Plain] (0) [] pf_spec_Bare [tG (w.tc [])] fun r o => r = tG ((plainW w.n).tc []) ∧ o = [] := by
  conv => whnf
  repeat' (first
    | exact rfl
    | exact trivial
    | (refine sel_i (fun h => ?_) (fun h => ?_) <;> conv => whnf)
    | (refine chk_c ?_ ?_ <;> conv => whnf)
    | (refine And.intro ?_ ?_ <;> conv => whnf))
theorem ok_spec_Bare : FunOk Tryz.prog c_spec_Bare := funOk (E := [c_spec_Plain]) (envOk_cons ok_spec_Plain (envOk_nil)) mixd Tryz.func137 (pf := pf_spec_Bare) (by kernel_rfl) fun ts K h => by
  obtain ⟨t0, e0, h⟩ := as1_out h
  subst e0
  obtain ⟨w, e1, hq⟩ := arG_out rd_word h
  clear h
  subst e1
  have h := hq
  clear hq
  exact ⟨_, _, h, Nat.le_of_ble_eq_true (show Nat.ble 1 Tryz.f137.ntmps = true by kernel_rfl), _, run_spec_Bare w⟩

def pf_impl_Bare : PF := ⟨[.c 2 true 6], .seq (.reg [.s (.box 1 (.t 0)), .s (.alloc 2 [.int .i64 0, .ff, .int .i64 0, .int .i64 0, .int .i64 0, .int .i64 0])]) (.seq (.reg [.s (.fa 3 (.t 1) 0), .s (.load 4 false 1 (.t 3)), .s (.call (some 5) 128 [(.t 4)]), .s (.store 6 (.t 2) (.t 5))]) (.ret))⟩
def c_impl_Bare : Fun := ⟨126, [], fun ts K => as1 ts fun t0 => arG pWordT t0 fun w => K (tG ((plainW w.n).tc [])) []⟩
theorem run_impl_Bare (w : Word) : runK [c_impl_Plain] (0) [] pf_impl_Bare [tG (w.tc [])] fun r o => r = tG ((plainW w.n).tc []) ∧ o = [] := by
  conv => whnf
  repeat' (first
    | exact rfl
    | exact trivial
    | (refine sel_i (fun h => ?_) (fun h => ?_) <;> conv => whnf)
    | (refine chk_c ?_ ?_ <;> conv => whnf)
    | (refine And.intro ?_ ?_ <;> conv => whnf))
theorem ok_impl_Bare : FunOk Tryz.prog c_impl_Bare := funOk (E := [c_impl_Plain]) (envOk_cons ok_impl_Plain (envOk_nil)) mixd Tryz.func126 (pf := pf_impl_Bare) (by kernel_rfl) fun ts K h => by
  obtain ⟨t0, e0, h⟩ := as1_out h
  subst e0
  obtain ⟨w, e1, hq⟩ := arG_out rd_word h
  clear h
  subst e1
  have h := hq
  clear hq
  exact ⟨_, _, h, Nat.le_of_ble_eq_true (show Nat.ble 1 Tryz.f126.ntmps = true by kernel_rfl), _, run_impl_Bare w⟩

def pf_spec_Filter : PF := ⟨[.c 4 true 6], .seq (.reg [.s (.box 2 (.t 0)), .s (.box 3 (.t 1)), .s (.alloc 4 [.int .i64 0, .ff, .int .i64 0, .int .i64 0, .int .i64 0, .int .i64 0])]) (.seq (.seq (.reg [.s (.fa 5 (.t 3) 1), .s (.load 6 false 1 (.t 5)), .s (.mv 7 (.t 6)), .g 7 true (some 8) (.fa 8 (.t 3) 2), .g 7 true (some 9) (.fa 9 (.t 8) 0), .g 7 true (some 10) (.load 10 false 1 (.t 9)), .g 7 true (some 11) (.fa 11 (.t 2) 1), .g 7 true (some 12) (.load 12 false 1 (.t 11)), .g 7 true (some 13) (.len 13 false (.t 12)), .g 7 true (some 14) (.bin 14 .sub (.t 13) (.k (.v (.c (.int .i64 1))))), .g 7 true (some 15) (.call (some 15) 47 [(.t 10), (.k (.v (.c (.int .i64 0)))), (.t 14)]), .s (.pick 16 (.t 7) (.t 15) (.k (.v (.c .ff)))), .s (.mv 17 (.t 16)), .g 17 true (some 18) (.fa 18 (.t 2) 1), .g 17 true (some 19) (.load 19 false 1 (.t 18)), .g 17 true (some 20) (.fa 20 (.t 3) 2), .g 17 true (some 21) (.fa 21 (.t 20) 0), .g 17 true (some 22) (.load 22 false 1 (.t 21)), .g 17 true (some 23) (.ia 23 .bool (.t 19) (.t 22)), .g 17 true (some 24) (.load 24 false 1 (.t 23)), .s (.pick 25 (.t 17) (.t 24) (.k (.v (.c .ff))))]) (.cond (.t 25) (.seq (.reg [.s (.load 26 true 6 (.t 3)), .s (.call (some 27) 137 [(.t 26)]), .s (.store 6 (.t 4) (.t 27))]) (.ret)) (.skip))) (.seq (.reg [.s (.load 28 true 6 (.t 3)), .s (.store 6 (.t 4) (.t 28))]) (.ret)))⟩
def c_spec_Filter : Fun := ⟨113, [], fun ts K => as2 ts fun t0 t1 => arG pMemT t0 fun m => arG pWordT t1 fun w => chk (LMem m 2147483647) (K (tG ((filterW m.gone w).tc [])) [])⟩
theorem run_spec_Filter (m : Mem) (w : Word) (hpre : LMem m 2147483647) : runK [c_spec_l1In, c_spec_Bare] (0) [] pf_spec_Filter [tG (m.tc false []), tG (w.tc [])] fun r o => r = tG ((filterW m.gone w).tc []) ∧ o = [] := by
  obtain ⟨l1, l2⟩ := hpre
  have w1 : IntKind.i64.wrap ((m.gone.length : Int) - 1) = (m.gone.length : Int) - 1 := wrap_id (by omega) (by omega)
  conv => whnf
  repeat' (first | (refine sel_i (fun h => ?_) (fun h => ?_) <;> conv => whnf) | (refine chk_c ?_ ?_ <;> conv => whnf) | (refine And.intro ?_ rfl) | (refine And.intro ?_ ?_ <;> conv => whnf))
  all_goals (try simp only [w1, show FT.zero .bool = false from rfl] at *)
  all_goals first
    | (refine ⟨?_⟩; rename_i g; have := inR_t.1 g; omega)
    | (refine ⟨?_⟩; have := inR_t.1 h; omega)
    | (rw [show filterW m.gone w = plainW w.n by simp only [filterW, gonB, *, Bool.and_self, if_true]]; rfl)
    | (rw [show filterW m.gone w = w by simp only [filterW, gonB, *, Bool.and_false, Bool.false_and, Bool.false_eq_true, if_false]]; rfl)
    | trace_state
theorem ok_spec_Filter : FunOk Tryz.prog c_spec_Filter := funOk (E := [c_spec_l1In, c_spec_Bare]) (envOk_cons ok_spec_l1In (envOk_cons ok_spec_Bare (envOk_nil))) mixd Tryz.func113 (pf := pf_spec_Filter) (by kernel_rfl) fun ts K h => by
  obtain ⟨t0, t1, e0, h⟩ := as2_out h
  subst e0
  obtain ⟨m, e1, hq⟩ := arG_out rd_mem h
  clear h
  subst e1
  have h := hq
  clear hq
  obtain ⟨w, e1, hq⟩ := arG_out rd_word h
  clear h
  subst e1
  have h := hq
  clear hq
  obtain ⟨hpre, h⟩ := chk_o h
  exact ⟨_, _, h, Nat.le_of_ble_eq_true (show Nat.ble 2 Tryz.f113.ntmps = true by kernel_rfl), _, run_spec_Filter m w hpre⟩

def pf_impl_Filter : PF := ⟨[.c 4 true 6], .seq (.reg [.s (.box 2 (.t 0)), .s (.box 3 (.t 1)), .s (.alloc 4 [.int .i64 0, .ff, .int .i64 0, .int .i64 0, .int .i64 0, .int .i64 0])]) (.seq (.seq (.reg [.s (.fa 5 (.t 3) 1), .s (.load 6 false 1 (.t 5)), .s (.mv 7 (.t 6)), .g 7 true (some 8) (.fa 8 (.t 3) 2), .g 7 true (some 9) (.fa 9 (.t 8) 0), .g 7 true (some 10) (.load 10 false 1 (.t 9)), .g 7 true (some 11) (.fa 11 (.t 2) 1), .g 7 true (some 12) (.load 12 false 1 (.t 11)), .g 7 true (some 13) (.len 13 false (.t 12)), .g 7 true (some 14) (.bin 14 .sub (.t 13) (.k (.v (.c (.int .i64 1))))), .g 7 true (some 15) (.call (some 15) 52 [(.t 10), (.k (.v (.c (.int .i64 0)))), (.t 14)]), .s (.pick 16 (.t 7) (.t 15) (.k (.v (.c .ff)))), .s (.mv 17 (.t 16)), .g 17 true (some 18) (.fa 18 (.t 2) 1), .g 17 true (some 19) (.load 19 false 1 (.t 18)), .g 17 true (some 20) (.fa 20 (.t 3) 2), .g 17 true (some 21) (.fa 21 (.t 20) 0), .g 17 true (some 22) (.load 22 false 1 (.t 21)), .g 17 true (some 23) (.ia 23 .bool (.t 19) (.t 22)), .g 17 true (some 24) (.load 24 false 1 (.t 23)), .s (.pick 25 (.t 17) (.t 24) (.k (.v (.c .ff))))]) (.cond (.t 25) (.seq (.reg [.s (.load 26 true 6 (.t 3)), .s (.call (some 27) 126 [(.t 26)]), .s (.store 6 (.t 4) (.t 27))]) (.ret)) (.skip))) (.seq (.reg [.s (.load 28 true 6 (.t 3)), .s (.store 6 (.t 4) (.t 28))]) (.ret)))⟩
def c_impl_Filter : Fun := ⟨105, [], fun ts K => as2 ts fun t0 t1 => arG pMemT t0 fun m => arG pWordT t1 fun w => chk (LMem m 2147483647) (K (tG ((filterW m.gone w).tc [])) [])⟩
theorem run_impl_Filter (m : Mem) (w : Word) (hpre : LMem m 2147483647) : runK [c_impl_in, c_impl_Bare] (0) [] pf_impl_Filter [tG (m.tc false []), tG (w.tc [])] fun r o => r = tG ((filterW m.gone w).tc []) ∧ o = [] := by
  obtain ⟨l1, l2⟩ := hpre
  have w1 : IntKind.i64.wrap ((m.gone.length : Int) - 1) = (m.gone.length : Int) - 1 := wrap_id (by omega) (by omega)
  conv => whnf
  repeat' (first | (refine sel_i (fun h => ?_) (fun h => ?_) <;> conv => whnf) | (refine chk_c ?_ ?_ <;> conv => whnf) | (refine And.intro ?_ rfl) | (refine And.intro ?_ ?_ <;> conv => whnf))
  all_goals (try simp only [w1, show FT.zero .bool = false from rfl] at *)
  all_goals first
    | (refine ⟨?_⟩; rename_i g; have := inR_t.1 g; omega)
    | (refine ⟨?_⟩; have := inR_t.1 h; omega)
    | (rw [show filterW m.gone w = plainW w.n by simp only [filterW, gonB, *, Bool.and_self, if_true]]; rfl)
    | (rw [show filterW m.gone w = w by simp only [filterW, gonB, *, Bool.and_false, Bool.false_and, Bool.false_eq_true, if_false]]; rfl)
    | trace_state
theorem ok_impl_Filter : FunOk Tryz.prog c_impl_Filter := funOk (E := [c_impl_in, c_impl_Bare]) (envOk_cons ok_impl_in (envOk_cons ok_impl_Bare (envOk_nil))) mixd Tryz.func105 (pf := pf_impl_Filter) (by kernel_rfl) fun ts K h => by
  obtain ⟨t0, t1, e0, h⟩ := as2_out h
  subst e0
  obtain ⟨m, e1, hq⟩ := arG_out rd_mem h
  clear h
  subst e1
  have h := hq
  clear hq
  obtain ⟨w, e1, hq⟩ := arG_out rd_word h
  clear h
  subst e1
  have h := hq
  clear hq
  obtain ⟨hpre, h⟩ := chk_o h
  exact ⟨_, _, h, Nat.le_of_ble_eq_true (show Nat.ble 2 Tryz.f105.ntmps = true by kernel_rfl), _, run_impl_Filter m w hpre⟩

theorem keep_mid {α : Type} {m a : List α} {i : Nat} (h : m.length = a.length) (hi : i < a.length) (hx : m[i]? = a[i]?) : m.take i ++ a.drop i = m.take (i + 1) ++ a.drop (i + 1) := by
  rw [List.drop_eq_getElem_cons hi, List.take_add_one, hx, List.getElem?_eq_getElem hi]
  simp
def cleanW (g : List Bool) (ws : List Word) : List Word := (List.range 24).map (fun c => if g.getD c false then ⟨0, false, ⟨0, 0, 0, 0⟩⟩ else filterW g (ws.getD c (FT.zero .word)))
theorem cleanW_len (g : List Bool) (ws : List Word) : (cleanW g ws).length = 24 := by simp [cleanW]
theorem cleanW_yes {g : List Bool} {ws : List Word} {c : Nat} (h : c < 24) (hg : g.getD c false = true) : (cleanW g ws)[c]? = some ⟨0, false, ⟨0, 0, 0, 0⟩⟩ := by
  unfold cleanW
  rw [List.getElem?_map, List.getElem?_range h, Option.map_some, if_pos hg]
theorem cleanW_no {g : List Bool} {ws : List Word} {c : Nat} (h : c < 24) (hg : g.getD c false = false) : (cleanW g ws)[c]? = some (filterW g (ws.getD c (FT.zero .word))) := by
  unfold cleanW
  rw [List.getElem?_map, List.getElem?_range h, Option.map_some, if_neg (by rw [hg]; decide)]
theorem map_getD {α β : Type} {f : α → β} {xs : List α} {i : Nat} (z : α) (h : i < xs.length) : (xs.map f)[i]? = some (f (xs.getD i z)) := by
  rw [List.getElem?_map, List.getElem?_eq_getElem h, Option.map_some, List.getD_eq_getElem?_getD, List.getElem?_eq_getElem h, Option.getD_some]
def clean (h : Heap) (rs : List Word) : Heap × List Word := if heapOk h then (⟨⟨cleanW h.mem.gone h.mem.words, List.replicate 24 false⟩, h.live, []⟩, rs.map (filterW h.mem.gone)) else (h, rs)
theorem clean_no {h : Heap} {rs : List Word} (k : heapOk h = false) : clean h rs = (h, rs) := by simp [clean, k]
theorem clean_yes {h : Heap} {rs : List Word} (k : heapOk h = true) : clean h rs = (⟨⟨cleanW h.mem.gone h.mem.words, List.replicate 24 false⟩, h.live, []⟩, rs.map (filterW h.mem.gone)) := by simp [clean, k]
theorem heapOk_mem {h : Heap} (k : heapOk h = true) : memoryOk h.mem = true := by
  simp only [heapOk, Bool.and_eq_true] at k; exact k.1.1.1
theorem plainW_0 : plainW 0 = ⟨0, false, ⟨0, 0, 0, 0⟩⟩ := by decide
theorem heapOk_gone {h : Heap} (k : heapOk h = true) {c : Nat} (hc : c < 24) : inL h.waits (c : Int) = h.mem.gone.getD c false := by
  simp only [heapOk, Bool.and_eq_true, allR_iff] at k
  have h1 := (k.2 c hc).2
  rw [inL_eq (spansOk_mem k.1.2)]
  simp only [beq_iff_eq] at h1
  exact h1.symm

theorem szHeap_n2 {h : Heap} {k : Int} (h0 : k ≤ 1048576) (hh : 0 ≤ szHeapI h k) : LHeap h 1048576 ∧ szHeapI h k ≤ 1048576 := by
  obtain ⟨h1, h2, e1⟩ := szB_pos hh
  obtain ⟨h3, h4, e2⟩ := szB_pos h2
  have h5 := szMem_n h0 h1; have h6 := szr_n h3; have h7 := szr_n h4
  have e3 : szHeapI h k = szr (szr (szMem h.mem k) h.live.length) h.waits.length := e1.trans e2
  exact ⟨⟨h5.1, by omega, by omega⟩, by omega⟩
theorem clean_len {h : Heap} {rs : List Word} (l : LHeap h 1048576) (lr : rs.length ≤ 1048576) : LHeap (clean h rs).1 1048576 ∧ (clean h rs).2.length ≤ 1048576 := by
  unfold clean
  split
  · refine ⟨⟨⟨?_, ?_⟩, l.2.1, Nat.zero_le _⟩, by simpa using lr⟩
    · show (cleanW _ _).length ≤ _; rw [cleanW_len]; decide
    · show (List.replicate 24 false).length ≤ _; simp
  · exact ⟨l, lr⟩
end Go.Pi
