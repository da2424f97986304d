/- Contracts of functions, each out of its run by PI. No conditions. -/
import Derived.Test.YtojoiikibimomaaGreatC1
namespace Go.Pi
open Go.Proofs
set_option linter.unusedVariables false
set_option linter.unusedSimpArgs false
set_option maxRecDepth 100000
attribute [local irreducible] iterN
def pf_impl_MemoryOk_1 : PF := ⟨[.t 2], .seq (.reg [.s (.box 1 (.t 0)), .s (.mv 2 (.k (.v (.c .ff))))]) (.seq (.reg [.s (.load 3 true 6 (.t 1)), .s (.call (some 4) 65 [(.t 3)]), .s (.bnot 5 (.t 4)), .s (.mv 2 (.t 5))]) (.ret))⟩
def c_impl_MemoryOk_1 : Fun := ⟨128, [], fun ts K => as1 ts fun t0 => arG pWordT t0 fun w => K (tB (!wordOk w)) []⟩
theorem run_impl_MemoryOk_1 (w : Word) : runK [c_impl_WordOk] (0) [] pf_impl_MemoryOk_1 [tG (w.tc [])] fun r o => r = tB (!wordOk w) ∧ o = [] := by
  conv => whnf
  repeat' (first
    | exact rfl
    | exact trivial
    | (refine sel_i (fun h => ?_) (fun h => ?_) <;> conv => whnf)
    | (refine chk_c ?_ ?_ <;> conv => whnf)
    | (refine And.intro ?_ ?_ <;> conv => whnf))
theorem ok_impl_MemoryOk_1 : FunOk Tryz.prog c_impl_MemoryOk_1 := funOk (E := [c_impl_WordOk]) (envOk_cons ok_impl_WordOk (envOk_nil)) mixd Tryz.func128 (pf := pf_impl_MemoryOk_1) (by kernel_rfl) fun ts K h => by
  obtain ⟨t0, e0, h⟩ := as1_out h
  subst e0
  obtain ⟨w, e1, hq⟩ := arG_out rd_word h
  clear h
  subst e1
  have h := hq
  clear hq
  exact ⟨_, _, h, Nat.le_of_ble_eq_true (show Nat.ble 1 Tryz.f128.ntmps = true by kernel_rfl), _, run_impl_MemoryOk_1 w⟩

def pf_impl_wordsOk_1 : PF := ⟨[.t 2], .seq (.reg [.s (.box 1 (.t 0)), .s (.mv 2 (.k (.v (.c .ff))))]) (.seq (.reg [.s (.load 3 true 6 (.t 1)), .s (.call (some 4) 65 [(.t 3)]), .s (.bnot 5 (.t 4)), .s (.mv 2 (.t 5))]) (.ret))⟩
def c_impl_wordsOk_1 : Fun := ⟨127, [], fun ts K => as1 ts fun t0 => arG pWordT t0 fun w => K (tB (!wordOk w)) []⟩
theorem run_impl_wordsOk_1 (w : Word) : runK [c_impl_WordOk] (0) [] pf_impl_wordsOk_1 [tG (w.tc [])] fun r o => r = tB (!wordOk w) ∧ o = [] := by
  conv => whnf
  repeat' (first
    | exact rfl
    | exact trivial
    | (refine sel_i (fun h => ?_) (fun h => ?_) <;> conv => whnf)
    | (refine chk_c ?_ ?_ <;> conv => whnf)
    | (refine And.intro ?_ ?_ <;> conv => whnf))
theorem ok_impl_wordsOk_1 : FunOk Tryz.prog c_impl_wordsOk_1 := funOk (E := [c_impl_WordOk]) (envOk_cons ok_impl_WordOk (envOk_nil)) mixd Tryz.func127 (pf := pf_impl_wordsOk_1) (by kernel_rfl) fun ts K h => by
  obtain ⟨t0, e0, h⟩ := as1_out h
  subst e0
  obtain ⟨w, e1, hq⟩ := arG_out rd_word h
  clear h
  subst e1
  have h := hq
  clear hq
  exact ⟨_, _, h, Nat.le_of_ble_eq_true (show Nat.ble 1 Tryz.f127.ntmps = true by kernel_rfl), _, run_impl_wordsOk_1 w⟩

def lb_slices_IndexFunc_Word_0 : PC := .seq (.reg [.s (.bin 9 .lss (.t 8) (.t 7))]) (.seq (.cond (.t 9) (.skip) (.exit 0)) (.seq (.blk 1 (.seq (.reg [.s (.mv 10 (.t 8)), .s (.mv 5 (.t 10))]) (.seq (.reg [.s (.mv 11 (.t 1)), .s (.mv 12 (.t 0)), .s (.mv 13 (.t 5)), .s (.ia 14 .word (.t 12) (.t 13)), .s (.load 15 true 6 (.t 14)), .s (.callv (some 16) (.t 11) [(.t 15)])]) (.cond (.t 16) (.seq (.reg [.s (.mv 17 (.t 5)), .s (.mv 4 (.t 17))]) (.ret)) (.skip))))) (.reg [.s (.bin 18 .add (.t 8) (.k (.v (.c (.int .i64 1))))), .s (.mv 8 (.t 18))])))
def pf_slices_IndexFunc_Word : PF := ⟨[.t 4], .seq (.reg [.s (.mv 4 (.k (.v (.c (.int .i64 0)))))]) (.seq (.seq (.reg [.s (.mv 6 (.t 0)), .s (.len 7 false (.t 6)), .s (.mv 8 (.k (.v (.c (.int .i64 0)))))]) (.blk 0 (.loop [0, 1, 7, 8] lb_slices_IndexFunc_Word_0))) (.seq (.reg [.s (.mv 4 (.k (.v (.c (.int .i64 (-1))))))]) (.ret)))⟩
def c_slices_IndexFunc_Word__impl_MemoryOk_1 : Fun := ⟨178, [], fun ts K => as2 ts fun t0 t1 => arC (pL .word) t0 fun xs => arF0 128 t1 fun g => chk (xs.length ≤ 2147483647) (K (tN (idxOf (fun w => !wordOk w) xs)) [])⟩
theorem run_slices_IndexFunc_Word__impl_MemoryOk_1 (xs : List (FT.Ty .word)) (g : Unit) (hpre : xs.length ≤ 2147483647) : runK [c_impl_MemoryOk_1] (xs.length + 1) [] pf_slices_IndexFunc_Word [tL false .word xs, .fn 128 []] fun r o => r = tN (idxOf (fun w => !wordOk w) xs) ∧ o = [] := by
  conv => whnf
  refine loop (α := Nat) (fun i => ⟨[(0, .v (.c (.sl false .word 0))), (1, .fn 128 []), (7, .v (.c (.int .i64 (xs.length : Int)))), (8, .v (.c (.int .i64 (i : Int))))], [(0, some (.flat false .word none xs))], nums.tail, [], false, []⟩)
      (fun i => i ≤ xs.length ∧ idxOf (fun w => !wordOk w) xs = idxGo (fun w => !wordOk w) (xs.drop i) i) (fun i => xs.length - i) (fun i R hI hR => ?_) 0 _ ⟨by simp, rfl⟩ (by simp)
  obtain ⟨hi, hx⟩ := hI
  conv => whnf
  refine sel_i (fun h2 => ?_) (fun h2 => ?_)
  · have hlt : i < xs.length := by simp at h2; omega
    conv => whnf
    repeat (refine chk_i (by first | omega | (simp; omega)) ?_; conv => whnf)
    refine sel_i (fun h3 => ?_) (fun h3 => ?_)
    · conv => whnf
      rw [hx, idxGo_yes (z := FT.zero .word) hlt (by first | (simp only [keyEq] at h3; exact h3) | (simpa using h3))]
      exact ⟨rfl, rfl⟩
    · conv => whnf
      rw [wrap_id (n := (i : Int) + 1) (by omega) (by omega)]
      exact hR (i + 1) ⟨by omega, by rw [hx, idxGo_no (z := FT.zero .word) hlt (by first | (simp only [keyEq] at h3; exact h3) | (simpa using h3))]⟩ (by omega)
  · conv => whnf
    rw [hx, idxGo_end (by simp at h2; omega)]
    exact ⟨rfl, rfl⟩
theorem ok_slices_IndexFunc_Word__impl_MemoryOk_1 : FunOk Tryz.prog c_slices_IndexFunc_Word__impl_MemoryOk_1 := funOk (E := [c_impl_MemoryOk_1]) (envOk_cons ok_impl_MemoryOk_1 (envOk_nil)) mixd Tryz.func178 (pf := pf_slices_IndexFunc_Word) (by kernel_rfl) fun ts K h => by
  obtain ⟨t0, t1, e0, h⟩ := as2_out h
  subst e0
  obtain ⟨xs, e1, hq⟩ := arC_out (rd_l .word) h
  clear h
  subst e1
  have h := hq
  clear hq
  obtain ⟨g, e1, hq⟩ := arF0_out h
  clear h
  subst e1
  have h := hq
  clear hq
  obtain ⟨hpre, h⟩ := chk_o h
  exact ⟨_, _, h, Nat.le_of_ble_eq_true (show Nat.ble 2 Tryz.f178.ntmps = true by kernel_rfl), _, run_slices_IndexFunc_Word__impl_MemoryOk_1 xs g hpre⟩

def pf_slices_ContainsFunc_Word : PF := ⟨[.t 4], .seq (.reg [.s (.mv 4 (.k (.v (.c .ff))))]) (.seq (.reg [.s (.mv 5 (.t 0)), .s (.mv 6 (.t 1)), .s (.call (some 7) 178 [(.t 5), (.t 6)]), .s (.bin 8 .geq (.t 7) (.k (.v (.c (.int .i64 0))))), .s (.mv 4 (.t 8))]) (.ret))⟩
def c_slices_ContainsFunc_Word__impl_MemoryOk_1 : Fun := ⟨126, [], fun ts K => as2 ts fun t0 t1 => arC (pL .word) t0 fun xs => arF0 128 t1 fun g => chk (xs.length ≤ 2147483647) (K (tB (xs.any (fun w => !wordOk w))) [])⟩
theorem run_slices_ContainsFunc_Word__impl_MemoryOk_1 (xs : List (FT.Ty .word)) (g : Unit) (hpre : xs.length ≤ 2147483647) : runK [c_slices_IndexFunc_Word__impl_MemoryOk_1, c_impl_MemoryOk_1] (0) [] pf_slices_ContainsFunc_Word [tL false .word xs, .fn 128 []] fun r o => r = tB (xs.any (fun w => !wordOk w)) ∧ o = [] := by
  conv => whnf
  repeat' (first | (refine sel_i (fun h => ?_) (fun h => ?_) <;> conv => whnf) | (refine chk_c ?_ ?_ <;> conv => whnf) | (refine And.intro ?_ rfl) | (refine And.intro ?_ ?_ <;> conv => whnf))
  all_goals first | (refine ⟨?_⟩; exact hpre) | exact hpre | (rw [← idxOf_any]; rfl) | (rw [← idxOf_any])
theorem ok_slices_ContainsFunc_Word__impl_MemoryOk_1 : FunOk Tryz.prog c_slices_ContainsFunc_Word__impl_MemoryOk_1 := funOk (E := [c_slices_IndexFunc_Word__impl_MemoryOk_1, c_impl_MemoryOk_1]) (envOk_cons ok_slices_IndexFunc_Word__impl_MemoryOk_1 (envOk_cons ok_impl_MemoryOk_1 (envOk_nil))) mixd Tryz.func126 (pf := pf_slices_ContainsFunc_Word) (by kernel_rfl) fun ts K h => by
  obtain ⟨t0, t1, e0, h⟩ := as2_out h
  subst e0
  obtain ⟨xs, e1, hq⟩ := arC_out (rd_l .word) h
  clear h
  subst e1
  have h := hq
  clear hq
  obtain ⟨g, e1, hq⟩ := arF0_out h
  clear h
  subst e1
  have h := hq
  clear hq
  obtain ⟨hpre, h⟩ := chk_o h
  exact ⟨_, _, h, Nat.le_of_ble_eq_true (show Nat.ble 2 Tryz.f126.ntmps = true by kernel_rfl), _, run_slices_ContainsFunc_Word__impl_MemoryOk_1 xs g hpre⟩

def c_slices_IndexFunc_Word__impl_wordsOk_1 : Fun := ⟨178, [], fun ts K => as2 ts fun t0 t1 => arC (pL .word) t0 fun xs => arF0 127 t1 fun g => chk (xs.length ≤ 2147483647) (K (tN (idxOf (fun w => !wordOk w) xs)) [])⟩
theorem run_slices_IndexFunc_Word__impl_wordsOk_1 (xs : List (FT.Ty .word)) (g : Unit) (hpre : xs.length ≤ 2147483647) : runK [c_impl_wordsOk_1] (xs.length + 1) [] pf_slices_IndexFunc_Word [tL false .word xs, .fn 127 []] fun r o => r = tN (idxOf (fun w => !wordOk w) xs) ∧ o = [] := by
  conv => whnf
  refine loop (α := Nat) (fun i => ⟨[(0, .v (.c (.sl false .word 0))), (1, .fn 127 []), (7, .v (.c (.int .i64 (xs.length : Int)))), (8, .v (.c (.int .i64 (i : Int))))], [(0, some (.flat false .word none xs))], nums.tail, [], false, []⟩)
      (fun i => i ≤ xs.length ∧ idxOf (fun w => !wordOk w) xs = idxGo (fun w => !wordOk w) (xs.drop i) i) (fun i => xs.length - i) (fun i R hI hR => ?_) 0 _ ⟨by simp, rfl⟩ (by simp)
  obtain ⟨hi, hx⟩ := hI
  conv => whnf
  refine sel_i (fun h2 => ?_) (fun h2 => ?_)
  · have hlt : i < xs.length := by simp at h2; omega
    conv => whnf
    repeat (refine chk_i (by first | omega | (simp; omega)) ?_; conv => whnf)
    refine sel_i (fun h3 => ?_) (fun h3 => ?_)
    · conv => whnf
      rw [hx, idxGo_yes (z := FT.zero .word) hlt (by first | (simp only [keyEq] at h3; exact h3) | (simpa using h3))]
      exact ⟨rfl, rfl⟩
    · conv => whnf
      rw [wrap_id (n := (i : Int) + 1) (by omega) (by omega)]
      exact hR (i + 1) ⟨by omega, by rw [hx, idxGo_no (z := FT.zero .word) hlt (by first | (simp only [keyEq] at h3; exact h3) | (simpa using h3))]⟩ (by omega)
  · conv => whnf
    rw [hx, idxGo_end (by simp at h2; omega)]
    exact ⟨rfl, rfl⟩
theorem ok_slices_IndexFunc_Word__impl_wordsOk_1 : FunOk Tryz.prog c_slices_IndexFunc_Word__impl_wordsOk_1 := funOk (E := [c_impl_wordsOk_1]) (envOk_cons ok_impl_wordsOk_1 (envOk_nil)) mixd Tryz.func178 (pf := pf_slices_IndexFunc_Word) (by kernel_rfl) fun ts K h => by
  obtain ⟨t0, t1, e0, h⟩ := as2_out h
  subst e0
  obtain ⟨xs, e1, hq⟩ := arC_out (rd_l .word) h
  clear h
  subst e1
  have h := hq
  clear hq
  obtain ⟨g, e1, hq⟩ := arF0_out h
  clear h
  subst e1
  have h := hq
  clear hq
  obtain ⟨hpre, h⟩ := chk_o h
  exact ⟨_, _, h, Nat.le_of_ble_eq_true (show Nat.ble 2 Tryz.f178.ntmps = true by kernel_rfl), _, run_slices_IndexFunc_Word__impl_wordsOk_1 xs g hpre⟩

def c_slices_ContainsFunc_Word__impl_wordsOk_1 : Fun := ⟨126, [], fun ts K => as2 ts fun t0 t1 => arC (pL .word) t0 fun xs => arF0 127 t1 fun g => chk (xs.length ≤ 2147483647) (K (tB (xs.any (fun w => !wordOk w))) [])⟩
theorem run_slices_ContainsFunc_Word__impl_wordsOk_1 (xs : List (FT.Ty .word)) (g : Unit) (hpre : xs.length ≤ 2147483647) : runK [c_slices_IndexFunc_Word__impl_wordsOk_1, c_impl_wordsOk_1] (0) [] pf_slices_ContainsFunc_Word [tL false .word xs, .fn 127 []] fun r o => r = tB (xs.any (fun w => !wordOk w)) ∧ o = [] := by
  conv => whnf
  repeat' (first | (refine sel_i (fun h => ?_) (fun h => ?_) <;> conv => whnf) | (refine chk_c ?_ ?_ <;> conv => whnf) | (refine And.intro ?_ rfl) | (refine And.intro ?_ ?_ <;> conv => whnf))
  all_goals first | (refine ⟨?_⟩; exact hpre) | exact hpre | (rw [← idxOf_any]; rfl) | (rw [← idxOf_any])
theorem ok_slices_ContainsFunc_Word__impl_wordsOk_1 : FunOk Tryz.prog c_slices_ContainsFunc_Word__impl_wordsOk_1 := funOk (E := [c_slices_IndexFunc_Word__impl_wordsOk_1, c_impl_wordsOk_1]) (envOk_cons ok_slices_IndexFunc_Word__impl_wordsOk_1 (envOk_cons ok_impl_wordsOk_1 (envOk_nil))) mixd Tryz.func126 (pf := pf_slices_ContainsFunc_Word) (by kernel_rfl) fun ts K h => by
  obtain ⟨t0, t1, e0, h⟩ := as2_out h
  subst e0
  obtain ⟨xs, e1, hq⟩ := arC_out (rd_l .word) h
  clear h
  subst e1
  have h := hq
  clear hq
  obtain ⟨g, e1, hq⟩ := arF0_out h
  clear h
  subst e1
  have h := hq
  clear hq
  obtain ⟨hpre, h⟩ := chk_o h
  exact ⟨_, _, h, Nat.le_of_ble_eq_true (show Nat.ble 2 Tryz.f126.ntmps = true by kernel_rfl), _, run_slices_ContainsFunc_Word__impl_wordsOk_1 xs g hpre⟩

def memoryOk (m : Mem) : Bool := decide (m.words.length = 24) && decide (m.gone.length = 24) && m.words.all wordOk
def stateOk (s : State) : Bool := decide (s.regs.length = 8) && s.regs.all wordOk && wordOk s.pc && memoryOk s.mem && inR s.trap 0 5
theorem all_any {α : Type} (p : α → Bool) (xs : List α) : xs.any (fun w => !p w) = !xs.all p := by
  induction xs with
  | nil => rfl
  | cons x xs ih => simp [ih]
theorem all_end {α : Type} {p : α → Bool} {xs : List α} {i : Nat} (h : xs.length ≤ i) (hi : (xs.drop i).all p = xs.all p) : xs.all p = true := by
  rw [← hi, List.drop_eq_nil_of_le h]; rfl
theorem all_no {α : Type} {p : α → Bool} {z : α} {xs : List α} {i : Nat} (h : i < xs.length) (hp : p (xs.getD i z) = false) (hi : (xs.drop i).all p = xs.all p) : xs.all p = false := by
  have e : xs.getD i z = xs[i] := by simp [List.getD_eq_getElem?_getD, h]
  rw [e] at hp; rw [← hi, List.drop_eq_getElem_cons h, List.all_cons, hp]; rfl
theorem all_yes {α : Type} {p : α → Bool} {z : α} {xs : List α} {i : Nat} (h : i < xs.length) (hp : p (xs.getD i z) = true) (hi : (xs.drop i).all p = xs.all p) : (xs.drop (i + 1)).all p = xs.all p := by
  have e : xs.getD i z = xs[i] := by simp [List.getD_eq_getElem?_getD, h]
  rw [e] at hp; rw [← hi, List.drop_eq_getElem_cons h, List.all_cons, hp]; rfl
theorem eqLen (n k : Nat) : ((n : Int) == (k : Int)) = decide (n = k) := by
  rw [Bool.eq_iff_iff]; simp; omega
theorem neLen (n k : Nat) : ((n : Int) != (k : Int)) = !decide (n = k) := by
  rw [bne, eqLen]
theorem eqLen8 (n : Nat) : ((n : Int) == 8) = decide (n = 8) := eqLen n 8
theorem eqLen24 (n : Nat) : ((n : Int) == 24) = decide (n = 24) := eqLen n 24
theorem neLen24 (n : Nat) : ((n : Int) != 24) = !decide (n = 24) := neLen n 24

def pf_impl_MemoryOk : PF := ⟨[.t 2], .seq (.reg [.s (.box 1 (.t 0)), .s (.mv 2 (.k (.v (.c .ff))))]) (.seq (.reg [.s (.fa 3 (.t 1) 0), .s (.load 4 false 1 (.t 3)), .s (.len 5 false (.t 4)), .s (.bin 6 .eql (.t 5) (.k (.v (.c (.int .i64 24))))), .s (.mv 7 (.t 6)), .g 7 true (some 8) (.fa 8 (.t 1) 1), .g 7 true (some 9) (.load 9 false 1 (.t 8)), .g 7 true (some 10) (.len 10 false (.t 9)), .g 7 true (some 11) (.bin 11 .eql (.t 10) (.k (.v (.c (.int .i64 24))))), .s (.pick 12 (.t 7) (.t 11) (.k (.v (.c .ff)))), .s (.mv 13 (.t 12)), .g 13 true (some 14) (.fa 14 (.t 1) 0), .g 13 true (some 15) (.load 15 false 1 (.t 14)), .g 13 true (some 16) (.call (some 16) 126 [(.t 15), (.k (.fn 128 []))]), .g 13 true (some 17) (.bnot 17 (.t 16)), .s (.pick 18 (.t 13) (.t 17) (.k (.v (.c .ff)))), .s (.mv 2 (.t 18))]) (.ret))⟩
def c_impl_MemoryOk : Fun := ⟨66, [], fun ts K => as1 ts fun t0 => arG pMemT t0 fun m => chk (LMem m 2147483647) (K (tB (memoryOk m)) [])⟩
theorem run_impl_MemoryOk (m : Mem) (hpre : LMem m 2147483647) : runK [c_slices_ContainsFunc_Word__impl_MemoryOk_1, c_impl_MemoryOk_1] (0) [] pf_impl_MemoryOk [tG (m.tc false [])] fun r o => r = tB (memoryOk m) ∧ o = [] := by
  obtain ⟨l1, l2⟩ := hpre
  conv => whnf
  repeat' (first | (refine sel_i (fun h => ?_) (fun h => ?_) <;> conv => whnf) | (refine chk_c ?_ ?_ <;> conv => whnf) | (refine And.intro ?_ rfl) | (refine And.intro ?_ ?_ <;> conv => whnf))
  all_goals first | (refine ⟨?_⟩; exact l1) | (simp only [eqLen24, all_any] at *; simp_all [memoryOk]; done)
theorem ok_impl_MemoryOk : FunOk Tryz.prog c_impl_MemoryOk := funOk (E := [c_slices_ContainsFunc_Word__impl_MemoryOk_1, c_impl_MemoryOk_1]) (envOk_cons ok_slices_ContainsFunc_Word__impl_MemoryOk_1 (envOk_cons ok_impl_MemoryOk_1 (envOk_nil))) mixd Tryz.func66 (pf := pf_impl_MemoryOk) (by kernel_rfl) fun ts K h => by
  obtain ⟨t0, e0, h⟩ := as1_out h
  subst e0
  obtain ⟨m, e1, hq⟩ := arG_out rd_mem h
  clear h
  subst e1
  have h := hq
  clear hq
  obtain ⟨hpre, h⟩ := chk_o h
  exact ⟨_, _, h, Nat.le_of_ble_eq_true (show Nat.ble 1 Tryz.f66.ntmps = true by kernel_rfl), _, run_impl_MemoryOk m hpre⟩

def pf_impl_wordsOk : PF := ⟨[.t 2], .seq (.reg [.s (.mv 2 (.k (.v (.c .ff))))]) (.seq (.reg [.s (.mv 3 (.t 0)), .s (.call (some 4) 126 [(.t 3), (.k (.fn 127 []))]), .s (.bnot 5 (.t 4)), .s (.mv 2 (.t 5))]) (.ret))⟩
def c_impl_wordsOk : Fun := ⟨64, [], fun ts K => as1 ts fun t0 => arC (pL .word) t0 fun xs => chk (xs.length ≤ 2147483647) (K (tB (xs.all wordOk)) [])⟩
theorem run_impl_wordsOk (xs : List (FT.Ty .word)) (hpre : xs.length ≤ 2147483647) : runK [c_slices_ContainsFunc_Word__impl_wordsOk_1, c_impl_wordsOk_1] (0) [] pf_impl_wordsOk [tL false .word xs] fun r o => r = tB (xs.all wordOk) ∧ o = [] := by
  conv => whnf
  repeat' (first | (refine sel_i (fun h => ?_) (fun h => ?_) <;> conv => whnf) | (refine chk_c ?_ ?_ <;> conv => whnf) | (refine And.intro ?_ rfl) | (refine And.intro ?_ ?_ <;> conv => whnf))
  all_goals first | (refine ⟨?_⟩; exact hpre) | (rw [all_any]; simp; done)
theorem ok_impl_wordsOk : FunOk Tryz.prog c_impl_wordsOk := funOk (E := [c_slices_ContainsFunc_Word__impl_wordsOk_1, c_impl_wordsOk_1]) (envOk_cons ok_slices_ContainsFunc_Word__impl_wordsOk_1 (envOk_cons ok_impl_wordsOk_1 (envOk_nil))) mixd Tryz.func64 (pf := pf_impl_wordsOk) (by kernel_rfl) fun ts K h => by
  obtain ⟨t0, e0, h⟩ := as1_out h
  subst e0
  obtain ⟨xs, e1, hq⟩ := arC_out (rd_l .word) h
  clear h
  subst e1
  have h := hq
  clear hq
  obtain ⟨hpre, h⟩ := chk_o h
  exact ⟨_, _, h, Nat.le_of_ble_eq_true (show Nat.ble 1 Tryz.f64.ntmps = true by kernel_rfl), _, run_impl_wordsOk xs hpre⟩

def pf_impl_StateOk : PF := ⟨[.t 2], .seq (.reg [.s (.box 1 (.t 0)), .s (.mv 2 (.k (.v (.c .ff))))]) (.seq (.reg [.s (.fa 3 (.t 1) 0), .s (.load 4 false 1 (.t 3)), .s (.len 5 false (.t 4)), .s (.bin 6 .eql (.t 5) (.k (.v (.c (.int .i64 8))))), .s (.mv 7 (.t 6)), .g 7 true (some 8) (.fa 8 (.t 1) 0), .g 7 true (some 9) (.load 9 false 1 (.t 8)), .g 7 true (some 10) (.call (some 10) 64 [(.t 9)]), .s (.pick 11 (.t 7) (.t 10) (.k (.v (.c .ff)))), .s (.mv 12 (.t 11)), .g 12 true (some 13) (.fa 13 (.t 1) 1), .g 12 true (some 14) (.load 14 true 6 (.t 13)), .g 12 true (some 15) (.call (some 15) 65 [(.t 14)]), .s (.pick 16 (.t 12) (.t 15) (.k (.v (.c .ff)))), .s (.mv 17 (.t 16)), .g 17 true (some 18) (.fa 18 (.t 1) 7), .g 17 true (some 19) (.load 19 true 2 (.t 18)), .g 17 true (some 20) (.call (some 20) 66 [(.t 19)]), .s (.pick 21 (.t 17) (.t 20) (.k (.v (.c .ff)))), .s (.mv 22 (.t 21)), .g 22 true (some 23) (.fa 23 (.t 1) 9), .g 22 true (some 24) (.load 24 false 1 (.t 23)), .g 22 true (some 25) (.call (some 25) 60 [(.t 24), (.k (.v (.c (.int .i64 0)))), (.k (.v (.c (.int .i64 5))))]), .s (.pick 26 (.t 22) (.t 25) (.k (.v (.c .ff)))), .s (.mv 2 (.t 26))]) (.ret))⟩
def c_impl_StateOk : Fun := ⟨18, [], fun ts K => as1 ts fun t0 => arG pStateT t0 fun s => chk (LState s 2147483647) (K (tB (stateOk s)) [])⟩
theorem run_impl_StateOk (s : State) (hpre : LState s 2147483647) : runK [c_impl_in, c_impl_wordsOk, c_impl_WordOk, c_impl_MemoryOk] (0) [] pf_impl_StateOk [tG (s.tc false [])] fun r o => r = tB (stateOk s) ∧ o = [] := by
  obtain ⟨l0, l1, l2⟩ := hpre
  conv => whnf
  repeat' (first | (refine sel_i (fun h => ?_) (fun h => ?_) <;> conv => whnf) | (refine chk_c ?_ ?_ <;> conv => whnf) | (refine And.intro ?_ rfl) | (refine And.intro ?_ ?_ <;> conv => whnf))
  all_goals first | (refine ⟨?_⟩; exact l0) | (refine ⟨?_⟩; exact ⟨l1, l2⟩)| (simp only [eqLen8, etaKey, etaWord, etaMemory] at *; simp only [stateOk, *, Bool.true_and, Bool.false_and, Bool.and_false, Bool.and_true]; done)
theorem ok_impl_StateOk : FunOk Tryz.prog c_impl_StateOk := funOk (E := [c_impl_in, c_impl_wordsOk, c_impl_WordOk, c_impl_MemoryOk]) (envOk_cons ok_impl_in (envOk_cons ok_impl_wordsOk (envOk_cons ok_impl_WordOk (envOk_cons ok_impl_MemoryOk (envOk_nil))))) mixd Tryz.func18 (pf := pf_impl_StateOk) (by kernel_rfl) fun ts K h => by
  obtain ⟨t0, e0, h⟩ := as1_out h
  subst e0
  obtain ⟨s, e1, hq⟩ := arG_out rd_state h
  clear h
  subst e1
  have h := hq
  clear hq
  obtain ⟨hpre, h⟩ := chk_o h
  exact ⟨_, _, h, Nat.le_of_ble_eq_true (show Nat.ble 1 Tryz.f18.ntmps = true by kernel_rfl), _, run_impl_StateOk s hpre⟩

def lb_spec_MemoryOk_0 : PC := .seq (.seq (.reg [.s (.mv 14 (.t 3)), .s (.bin 15 .lss (.t 14) (.k (.v (.c (.int .i64 24)))))]) (.cond (.t 15) (.skip) (.exit 0))) (.seq (.blk 1 (.seq (.reg [.s (.fa 18 (.t 1) 0), .s (.load 19 false 1 (.t 18)), .s (.mv 20 (.t 3)), .s (.ia 21 .word (.t 19) (.t 20)), .s (.load 22 true 6 (.t 21)), .s (.call (some 23) 140 [(.t 22)]), .s (.bnot 24 (.t 23))]) (.cond (.t 24) (.seq (.reg [.s (.mv 2 (.k (.v (.c .ff))))]) (.ret)) (.skip)))) (.reg [.s (.mv 16 (.t 3)), .s (.bin 17 .add (.t 16) (.k (.v (.c (.int .i64 1))))), .s (.mv 3 (.t 17))]))
def pf_spec_MemoryOk : PF := ⟨[.t 2], .seq (.reg [.s (.box 1 (.t 0)), .s (.mv 2 (.k (.v (.c .ff))))]) (.seq (.seq (.reg [.s (.fa 4 (.t 1) 0), .s (.load 5 false 1 (.t 4)), .s (.len 6 false (.t 5)), .s (.bin 7 .neq (.t 6) (.k (.v (.c (.int .i64 24))))), .s (.mv 8 (.t 7)), .g 8 false (some 9) (.fa 9 (.t 1) 1), .g 8 false (some 10) (.load 10 false 1 (.t 9)), .g 8 false (some 11) (.len 11 false (.t 10)), .g 8 false (some 12) (.bin 12 .neq (.t 11) (.k (.v (.c (.int .i64 24))))), .s (.pick 13 (.t 8) (.k (.v (.c .tt))) (.t 12))]) (.cond (.t 13) (.seq (.reg [.s (.mv 2 (.k (.v (.c .ff))))]) (.ret)) (.skip))) (.seq (.seq (.reg [.s (.mv 3 (.k (.v (.c (.int .i64 0)))))]) (.blk 0 (.loop [1, 3] lb_spec_MemoryOk_0))) (.seq (.reg [.s (.mv 2 (.k (.v (.c .tt))))]) (.ret))))⟩
def c_spec_MemoryOk : Fun := ⟨141, [], fun ts K => as1 ts fun t0 => arG pMemT t0 fun m => K (tB (memoryOk m)) []⟩
theorem run_spec_MemoryOk (m : Mem) : runK [c_spec_WordOk] (25) [] pf_spec_MemoryOk [tG (m.tc false [])] fun r o => r = tB (memoryOk m) ∧ o = [] := by
  conv => whnf
  repeat' (first | (refine sel_i (fun h => ?_) (fun h => ?_) <;> conv => whnf) | (refine chk_c ?_ ?_ <;> conv => whnf) | (refine And.intro ?_ rfl) | (refine And.intro ?_ ?_ <;> conv => whnf))
  · simp only [neLen24] at h; simp_all [memoryOk]
  · simp only [neLen24] at *; simp_all [memoryOk]
  rename_i h1
  have hw : m.words.length = 24 := by simp only [neLen24] at h1; simpa using h1
  have hg : m.gone.length = 24 := by simp only [neLen24] at h; simpa using h
  have hm : memoryOk m = m.words.all wordOk := by simp [memoryOk, hw, hg]
  rw [hm]
  refine loop (α := Nat) (fun i => ⟨[(1, .v (.c (.ptr 0 0))), (3, .v (.c (.int .i64 (i : Int))))], [(2, some (.flat false .bool none m.gone)), (1, some (.flat false .word none m.words)), (0, some (.box true [.sl false .word 1, .sl false .bool 2]))], nums.tail.tail.tail, [], false, []⟩)
      (fun i => i ≤ 24 ∧ (m.words.drop i).all wordOk = m.words.all wordOk) (fun i => 24 - i) (fun i R hI hR => ?_) 0 _ ⟨by simp, by simp⟩ (by simp)
  obtain ⟨hi, hx⟩ := hI
  conv => whnf
  repeat' (first | (refine sel_i (fun h => ?_) (fun h => ?_) <;> conv => whnf) | (refine chk_c ?_ ?_ <;> conv => whnf) | (refine And.intro ?_ rfl) | (refine And.intro ?_ ?_ <;> conv => whnf))
  all_goals simp only [etaKey, etaWord, Int.toNat_natCast, Bool.not_eq_true', Bool.not_eq_false', decide_eq_true_eq, decide_eq_false_iff_not] at *
  all_goals first
    | (refine ⟨?_⟩; omega)
    | (rw [all_no (by omega) (by assumption) hx]; done)
    | (rw [all_end (by omega) hx]; done)
    | (rw [wrap_id (n := (i : Int) + 1) (by omega) (by omega)]; exact hR (i + 1) ⟨by omega, all_yes (by omega) (by assumption) hx⟩ (by omega))
theorem ok_spec_MemoryOk : FunOk Tryz.prog c_spec_MemoryOk := funOk (E := [c_spec_WordOk]) (envOk_cons ok_spec_WordOk (envOk_nil)) mixd Tryz.func141 (pf := pf_spec_MemoryOk) (by kernel_rfl) fun ts K h => by
  obtain ⟨t0, e0, h⟩ := as1_out h
  subst e0
  obtain ⟨m, e1, hq⟩ := arG_out rd_mem h
  clear h
  subst e1
  have h := hq
  clear hq
  exact ⟨_, _, h, Nat.le_of_ble_eq_true (show Nat.ble 1 Tryz.f141.ntmps = true by kernel_rfl), _, run_spec_MemoryOk m⟩

def lb_spec_StateOk_0 : PC := .seq (.seq (.reg [.s (.mv 4 (.t 3)), .s (.fa 5 (.t 1) 0), .s (.load 6 false 1 (.t 5)), .s (.len 7 false (.t 6)), .s (.bin 8 .lss (.t 4) (.t 7))]) (.cond (.t 8) (.skip) (.exit 0))) (.seq (.blk 1 (.seq (.reg [.s (.fa 11 (.t 1) 0), .s (.load 12 false 1 (.t 11)), .s (.mv 13 (.t 3)), .s (.ia 14 .word (.t 12) (.t 13)), .s (.load 15 true 6 (.t 14)), .s (.call (some 16) 140 [(.t 15)]), .s (.bnot 17 (.t 16))]) (.cond (.t 17) (.seq (.reg [.s (.mv 2 (.k (.v (.c .ff))))]) (.ret)) (.skip)))) (.reg [.s (.mv 9 (.t 3)), .s (.bin 10 .add (.t 9) (.k (.v (.c (.int .i64 1))))), .s (.mv 3 (.t 10))]))
def pf_spec_StateOk : PF := ⟨[.t 2], .seq (.reg [.s (.box 1 (.t 0)), .s (.mv 2 (.k (.v (.c .ff))))]) (.seq (.seq (.reg [.s (.mv 3 (.k (.v (.c (.int .i64 0)))))]) (.blk 0 (.loop [1, 3] lb_spec_StateOk_0))) (.seq (.reg [.s (.fa 18 (.t 1) 0), .s (.load 19 false 1 (.t 18)), .s (.len 20 false (.t 19)), .s (.bin 21 .eql (.t 20) (.k (.v (.c (.int .i64 8))))), .s (.mv 22 (.t 21)), .g 22 true (some 23) (.fa 23 (.t 1) 1), .g 22 true (some 24) (.load 24 true 6 (.t 23)), .g 22 true (some 25) (.call (some 25) 140 [(.t 24)]), .s (.pick 26 (.t 22) (.t 25) (.k (.v (.c .ff)))), .s (.mv 27 (.t 26)), .g 27 true (some 28) (.fa 28 (.t 1) 7), .g 27 true (some 29) (.load 29 true 2 (.t 28)), .g 27 true (some 30) (.call (some 30) 141 [(.t 29)]), .s (.pick 31 (.t 27) (.t 30) (.k (.v (.c .ff)))), .s (.mv 32 (.t 31)), .g 32 true (some 33) (.fa 33 (.t 1) 9), .g 32 true (some 34) (.load 34 false 1 (.t 33)), .g 32 true (some 35) (.call (some 35) 77 [(.t 34), (.k (.v (.c (.int .i64 0)))), (.k (.v (.c (.int .i64 5))))]), .s (.pick 36 (.t 32) (.t 35) (.k (.v (.c .ff)))), .s (.mv 2 (.t 36))]) (.ret)))⟩
def c_spec_StateOk : Fun := ⟨76, [], fun ts K => as1 ts fun t0 => arG pStateT t0 fun s => chk (LState s 2147483647) (K (tB (stateOk s)) [])⟩
theorem run_spec_StateOk (s : State) (hpre : LState s 2147483647) : runK [c_spec_l1In, c_spec_WordOk, c_spec_MemoryOk] (s.regs.length + 1) [] pf_spec_StateOk [tG (s.tc false [])] fun r o => r = tB (stateOk s) ∧ o = [] := by
  obtain ⟨l0, l1, l2⟩ := hpre
  conv => whnf
  refine loop (α := Nat) (fun i => ⟨[(1, .v (.c (.ptr 0 0))), (3, .v (.c (.int .i64 (i : Int))))], [(3, some (.flat false .bool none s.mem.gone)), (2, some (.flat false .word none s.mem.words)), (1, some (.flat false .word none s.regs)),
        (0, some (.box true [.sl false .word 1, .int .i64 s.pc.n, .bool s.pc.is, .int .i64 s.pc.key.base, .int .i64 s.pc.key.top, .int .i64 s.pc.key.perms, .int .i64 s.pc.key.sealed, .sl false .word 2, .sl false .bool 3, .int .i64 s.trap]))], nums.tail.tail.tail.tail, [], false, []⟩)
      (fun i => i ≤ s.regs.length ∧ (s.regs.drop i).all wordOk = s.regs.all wordOk) (fun i => s.regs.length - i) (fun i R hI hR => ?_) 0 _ ⟨by simp, by simp⟩ (by simp)
  obtain ⟨hi, hx⟩ := hI
  conv => whnf
  repeat' (first | (refine sel_i (fun h => ?_) (fun h => ?_) <;> conv => whnf) | (refine chk_c ?_ ?_ <;> conv => whnf) | (refine And.intro ?_ rfl) | (refine And.intro ?_ ?_ <;> conv => whnf))
  all_goals simp only [etaKey, etaWord, etaMemory, eqLen8, Int.toNat_natCast, Bool.not_eq_true', Bool.not_eq_false', decide_eq_true_eq, decide_eq_false_iff_not] at *
  all_goals first
    | (refine ⟨?_⟩; omega)
    | (have e := all_no (by omega) (by assumption) hx; simp only [stateOk, e, Bool.false_and, Bool.and_false]; done)
    | (rw [wrap_id (n := (i : Int) + 1) (by omega) (by omega)]; exact hR (i + 1) ⟨by omega, all_yes (by omega) (by assumption) hx⟩ (by omega))
    | (have e := all_end (by omega) hx; simp only [stateOk, e, *, decide_true, decide_false, Bool.true_and, Bool.false_and, Bool.and_false, Bool.and_true]; done)
    | trace_state
theorem ok_spec_StateOk : FunOk Tryz.prog c_spec_StateOk := funOk (E := [c_spec_l1In, c_spec_WordOk, c_spec_MemoryOk]) (envOk_cons ok_spec_l1In (envOk_cons ok_spec_WordOk (envOk_cons ok_spec_MemoryOk (envOk_nil)))) mixd Tryz.func76 (pf := pf_spec_StateOk) (by kernel_rfl) fun ts K h => by
  obtain ⟨t0, e0, h⟩ := as1_out h
  subst e0
  obtain ⟨s, e1, hq⟩ := arG_out rd_state h
  clear h
  subst e1
  have h := hq
  clear hq
  obtain ⟨hpre, h⟩ := chk_o h
  exact ⟨_, _, h, Nat.le_of_ble_eq_true (show Nat.ble 1 Tryz.f76.ntmps = true by kernel_rfl), _, run_spec_StateOk s hpre⟩

def twoOk (t : Two) : Bool := stateOk (sideState t 0) && stateOk (sideState t 1)

def andI (a b : Int) : Int := IntKind.i64.wrap (BitVec.ofInt IntKind.i64.bits a &&& BitVec.ofInt IntKind.i64.bits b).toNat
theorem andI_eq (a b : Int) : IntKind.i64.wrap (BitVec.ofInt IntKind.i64.bits a &&& BitVec.ofInt IntKind.i64.bits b).toNat = andI a b := rfl
abbrev w0 : Word := ⟨0, false, ⟨0, 0, 0, 0⟩⟩
def hasKey (l : List Word) (k : Key) : Bool := l.any (fun x => decide (x.key = k))
def putW (out : List Word) (w : Word) : List Word := if w.is && wordOk w && !hasKey out w.key then out ++ [w] else out
def scan (ws : List Word) : Nat → Nat → List Word → List Word
  | 0, _, out => out
  | n + 1, c, out => scan ws n (c + 1) (putW out (ws.getD c (FT.zero .word)))
def opens (k : Key) : Bool := !(andI k.perms 1 == 0) && !(andI k.perms 8 == 0)
def closStep (ws out : List Word) (k : Key) : List Word := if opens k then scan ws (min k.top 24 - k.base).toNat k.base.toNat out else out
def closGo (ws : List Word) : Nat → Nat → List Word → List Word
  | 0, _, out => out
  | n + 1, i, out => if i < out.length then closGo ws n (i + 1) (closStep ws out (out.getD i (FT.zero .word)).key) else out
def closFirst (l : List Word) : List Word := l.foldl putW []
def closure (m : Mem) (l : List Word) : List Word := if memoryOk m then closGo m.words (l.length + 24) 0 (closFirst l) else []
theorem getD_mem {ws : List Word} {c : Nat} (h : c < ws.length) : ws.getD c (FT.zero .word) ∈ ws := by
  have e : ws.getD c (FT.zero .word) = ws[c] := by simp [List.getD_eq_getElem?_getD, h]
  rw [e]; exact List.getElem_mem h

def hasP (w : Word) (p : Int) : Bool := w.is && (andI w.key.perms p != 0)
def canSeal (m : Mem) (l : List Word) : Bool := (closure m l).any (fun w => hasP w 32)

def elByte (c : Int) : Int := IntKind.u8.wrap (c)
def mkByteS (n : Nat) (k : Int) : List Int := (List.range n).map (fun j : Nat => elByte (k + 1 * j))
theorem mkByteS_length (n : Nat) (k : Int) : (mkByteS n k).length = n := by simp [mkByteS]

def U8s (b : List Int) : Prop := ∀ x ∈ b, 0 ≤ x ∧ x ≤ 255
theorem wfU8 {x : Int} (h : wfI .u8 x) : 0 ≤ x ∧ x ≤ 255 := by
  have h : (decide (IntKind.u8.min ≤ x) && decide (x ≤ IntKind.u8.max)) = true := h
  simp at h
  have e1 : IntKind.u8.min = 0 := rfl
  have e2 : IntKind.u8.max = 255 := rfl
  omega
theorem U8s.at {b : List Int} (h : U8s b) (i : Nat) : 0 ≤ b.getD i 0 ∧ b.getD i 0 ≤ 255 := by
  rw [List.getD_eq_getElem?_getD]
  cases e : b[i]? with
  | none => simp
  | some x => exact h x (List.mem_of_getElem? e)
theorem wordOk_n {w : Word} (h : wordOk w = true) : 0 ≤ w.n ∧ w.n ≤ 65535 := by
  simp only [wordOk, Bool.and_eq_true] at h; simpa [inR] using h.1
theorem zu8 : FT.zero (.int .u8) = (0 : Int) := rfl
theorem U8s.win {b : List Int} (h : U8s b) (o n : Nat) : U8s (win b o n) := fun x hx => h x (List.mem_of_mem_drop (List.mem_of_mem_take hx))


def filt (f : Nat → Bool) (n : Nat) : List Int := ((List.range n).filter f).map (fun c : Nat => (c : Int))
def coverP (ws : List Word) (p : Int) (c : Nat) : Bool := ws.any (fun w => hasP w p && inR c w.key.base (w.key.top - 1))
def cellsBy (m : Mem) (l : List Word) (p : Int) : List Int := filt (coverP (closure m l) p) 24


def heldW (s : Side) : List Word := s.regs ++ [s.pc]
def meetI (a b : List Int) : Bool := a.any (fun n => b.any (fun x => n == x))
def crossesB (m : Mem) (a b : List Word) : Bool := meetI (cellsBy m a 2) (cellsBy m b 1 ++ cellsBy m b 2)
def apartB (t : Two) : Bool := twoOk t && !canSeal t.mem (heldW t.a) && !canSeal t.mem (heldW t.b) && (!crossesB t.mem (heldW t.a) (heldW t.b) && !crossesB t.mem (heldW t.b) (heldW t.a))

def LHeap (h : Heap) (n : Nat) : Prop := LMem h.mem n ∧ h.live.length ≤ n ∧ h.waits.length ≤ n
theorem LHeap.mono {t : Heap} {n m : Nat} (h : LHeap t n) (k : n ≤ m) : LHeap t m := ⟨⟨Nat.le_trans h.1.1 k, Nat.le_trans h.1.2 k⟩, Nat.le_trans h.2.1 k, Nat.le_trans h.2.2 k⟩
def inS (s : Span) (c : Nat) : Bool := inR c s.at_ (s.at_ + s.len - 1)
def spanOk (s : Span) : Bool := inR s.at_ 0 23 && inR s.len 1 (24 - s.at_)
def spanChk (l : List Span) (i : Nat) : Bool := spanOk (l.getD i (FT.zero .span)) && (i == 0 || decide ((l.getD (i - 1) (FT.zero .span)).at_ < (l.getD i (FT.zero .span)).at_))
def okTo (l : List Span) (i : Nat) : Bool := (List.range i).all (spanChk l)
def spansOk (l : List Span) : Bool := okTo l l.length
theorem inR_t {n lo hi : Int} : inR n lo hi = true ↔ lo ≤ n ∧ n ≤ hi := by simp [inR]
theorem inR_f {n lo hi : Int} : inR n lo hi = false ↔ (n < lo ∨ hi < n) := by
  rw [Bool.eq_false_iff, ne_eq, inR_t]; omega
theorem spanChk_iff (l : List Span) (i : Nat) : spanChk l i = true ↔ (((0 ≤ (l.getD i (FT.zero .span)).at_ ∧ (l.getD i (FT.zero .span)).at_ ≤ 23) ∧ 1 ≤ (l.getD i (FT.zero .span)).len ∧ (l.getD i (FT.zero .span)).len ≤ 24 - (l.getD i (FT.zero .span)).at_) ∧ (i = 0 ∨ (l.getD (i - 1) (FT.zero .span)).at_ < (l.getD i (FT.zero .span)).at_)) := by
  simp only [spanChk, spanOk, Bool.and_eq_true, inR_t, Bool.or_eq_true, beq_iff_eq, decide_eq_true_eq]
def pf_spec_l1Max : PF := ⟨[.t 4], .seq (.reg [.s (.mv 4 (.k (.v (.c (.int .i64 0)))))]) (.seq (.seq (.reg [.s (.mv 5 (.t 0)), .s (.mv 6 (.t 1)), .s (.bin 7 .gtr (.t 5) (.t 6))]) (.cond (.t 7) (.seq (.reg [.s (.mv 8 (.t 0)), .s (.mv 4 (.t 8))]) (.ret)) (.skip))) (.seq (.reg [.s (.mv 9 (.t 1)), .s (.mv 4 (.t 9))]) (.ret)))⟩
def c_spec_l1Max : Fun := ⟨221, [], fun ts K => as2 ts fun t0 t1 => arC (pI .i64) t0 fun a => arC (pI .i64) t1 fun b => K (tN (max a b)) []⟩
theorem run_spec_l1Max (a : Int) (b : Int) : runK [] (0) [] pf_spec_l1Max [tI .i64 a, tI .i64 b] fun r o => r = tN (max a b) ∧ o = [] := by
  conv => whnf
  repeat' (first | (refine sel_i (fun h => ?_) (fun h => ?_) <;> conv => whnf) | (refine chk_c ?_ ?_ <;> conv => whnf) | (refine And.intro ?_ rfl) | (refine And.intro ?_ ?_ <;> conv => whnf))
  all_goals (simp at h; congr 3; omega)
theorem ok_spec_l1Max : FunOk Tryz.prog c_spec_l1Max := funOk (E := []) (envOk_nil) mixd Tryz.func221 (pf := pf_spec_l1Max) (by kernel_rfl) fun ts K h => by
  obtain ⟨t0, t1, e0, h⟩ := as2_out h
  subst e0
  obtain ⟨a, e1, hq⟩ := arC_out (rd_int .i64) h
  clear h
  subst e1
  have h := hq
  clear hq
  obtain ⟨b, e1, hq⟩ := arC_out (rd_int .i64) h
  clear h
  subst e1
  have h := hq
  clear hq
  exact ⟨_, _, h, Nat.le_of_ble_eq_true (show Nat.ble 2 Tryz.f221.ntmps = true by kernel_rfl), _, run_spec_l1Max a b⟩

def allR (f : Nat → Bool) (n : Nat) : Bool := (List.range n).all f
theorem allR_iff {f : Nat → Bool} {n : Nat} : allR f n = true ↔ ∀ c, c < n → f c = true := by simp [allR]
def cnt (l : List Span) (c : Nat) : Nat := l.countP (fun s => inS s c)
def heapOk (h : Heap) : Bool := memoryOk h.mem && spansOk h.live && spansOk h.waits && allR (fun c => decide (cnt h.live c + cnt h.waits c ≤ 1) && (h.mem.gone.getD c false == decide (0 < cnt h.waits c))) 24
theorem spanChk_ok {l : List Span} {i : Nat} (h : spanChk l i = true) : spanOk (l.getD i (FT.zero .span)) = true := by
  simp only [spanChk, Bool.and_eq_true] at h; exact h.1
theorem spansOk_iff {l : List Span} : spansOk l = true ↔ ∀ j, j < l.length → spanChk l j = true := by simp [spansOk, okTo]
theorem spansOk_mem {l : List Span} (h : spansOk l = true) : ∀ s ∈ l, spanOk s = true := fun s hs => by
  obtain ⟨i, hi, rfl⟩ := List.getElem_of_mem hs
  have := spanChk_ok (spansOk_iff.1 h i hi)
  rw [show l.getD i (FT.zero .span) = l[i] by simp [List.getD_eq_getElem?_getD, hi]] at this
  exact this

def plainW (n : Int) : Word := ⟨andI n 65535, false, ⟨0, 0, 0, 0⟩⟩
def gonB (g : List Bool) (w : Word) : Bool := w.is && inR w.key.base 0 (g.length - 1) && g.getD w.key.base.toNat false
def filterW (g : List Bool) (w : Word) : Word := if gonB g w then plainW w.n else w

def pf_spec_Plain : PF := ⟨[.c 2 true 6], .seq (.reg [.s (.alloc 2 [.int .i64 0, .ff, .int .i64 0, .int .i64 0, .int .i64 0, .int .i64 0])]) (.seq (.reg [.s (.mv 3 (.t 0)), .s (.bin 4 .and (.t 3) (.k (.v (.c (.int .i64 65535))))), .s (.build 5 [.int .i64 0, .ff, .int .i64 0, .int .i64 0, .int .i64 0, .int .i64 0] [(0, 1, (.t 4))]), .s (.store 6 (.t 2) (.t 5))]) (.ret))⟩
def c_spec_Plain : Fun := ⟨109, [], fun ts K => as1 ts fun t0 => arC (pI .i64) t0 fun n => K (tG ((plainW n).tc [])) []⟩
theorem run_spec_Plain (n : Int) : runK [] (0) [] pf_spec_Plain [tI .i64 n] fun r o => r = tG ((plainW n).tc []) ∧ o = [] := by
  conv => whnf
  repeat' (first
    | exact rfl
    | exact trivial
    | (refine sel_i (fun h => ?_) (fun h => ?_) <;> conv => whnf)
    | (refine chk_c ?_ ?_ <;> conv => whnf)
    | (refine And.intro ?_ ?_ <;> conv => whnf))
theorem ok_spec_Plain : FunOk Tryz.prog c_spec_Plain := funOk (E := []) (envOk_nil) mixd Tryz.func109 (pf := pf_spec_Plain) (by kernel_rfl) fun ts K h => by
  obtain ⟨t0, e0, h⟩ := as1_out h
  subst e0
  obtain ⟨n, e1, hq⟩ := arC_out (rd_int .i64) h
  clear h
  subst e1
  have h := hq
  clear hq
  exact ⟨_, _, h, Nat.le_of_ble_eq_true (show Nat.ble 1 Tryz.f109.ntmps = true by kernel_rfl), _, run_spec_Plain n⟩

def pf_impl_Plain : PF := ⟨[.c 2 true 6], .seq (.reg [.s (.alloc 2 [.int .i64 0, .ff, .int .i64 0, .int .i64 0, .int .i64 0, .int .i64 0])]) (.seq (.reg [.s (.mv 3 (.t 0)), .s (.bin 4 .and (.t 3) (.k (.v (.c (.int .i64 65535))))), .s (.build 5 [.int .i64 0, .ff, .int .i64 0, .int .i64 0, .int .i64 0, .int .i64 0] [(0, 1, (.t 4))]), .s (.store 6 (.t 2) (.t 5))]) (.ret))⟩
def c_impl_Plain : Fun := ⟨113, [], fun ts K => as1 ts fun t0 => arC (pI .i64) t0 fun n => K (tG ((plainW n).tc [])) []⟩
theorem run_impl_Plain (n : Int) : runK [] (0) [] pf_impl_Plain [tI .i64 n] fun r o => r = tG ((plainW n).tc []) ∧ o = [] := by
  conv => whnf
  repeat' (first
    | exact rfl
    | exact trivial
    | (refine sel_i (fun h => ?_) (fun h => ?_) <;> conv => whnf)
    | (refine chk_c ?_ ?_ <;> conv => whnf)
    | (refine And.intro ?_ ?_ <;> conv => whnf))
theorem ok_impl_Plain : FunOk Tryz.prog c_impl_Plain := funOk (E := []) (envOk_nil) mixd Tryz.func113 (pf := pf_impl_Plain) (by kernel_rfl) fun ts K h => by
  obtain ⟨t0, e0, h⟩ := as1_out h
  subst e0
  obtain ⟨n, e1, hq⟩ := arC_out (rd_int .i64) h
  clear h
  subst e1
  have h := hq
  clear hq
  exact ⟨_, _, h, Nat.le_of_ble_eq_true (show Nat.ble 1 Tryz.f113.ntmps = true by kernel_rfl), _, run_impl_Plain n⟩

def pf_spec_Bare : PF := ⟨[.c 2 true 6], .seq (.reg [.s (.box 1 (.t 0)), .s (.alloc 2 [.int .i64 0, .ff, .int .i64 0, .int .i64 0, .int .i64 0, .int .i64 0])]) (.seq (.reg [.s (.fa 3 (.t 1) 0), .s (.load 4 false 1 (.t 3)), .s (.call (some 5) 109 [(.t 4)]), .s (.store 6 (.t 2) (.t 5))]) (.ret))⟩
def c_spec_Bare : Fun := ⟨233, [], fun ts K => as1 ts fun t0 => arG pWordT t0 fun w => K (tG ((plainW w.n).tc [])) []⟩
theorem run_spec_Bare (w : Word) : runK [c_spec_Plain] (0) [] pf_spec_Bare [tG (w.tc [])] fun r o => r = tG ((plainW w.n).tc []) ∧ o = [] := by
  conv => whnf
  repeat' (first
    | exact rfl
    | exact trivial
    | (refine sel_i (fun h => ?_) (fun h => ?_) <;> conv => whnf)
    | (refine chk_c ?_ ?_ <;> conv => whnf)
    | (refine And.intro ?_ ?_ <;> conv => whnf))
theorem ok_spec_Bare : FunOk Tryz.prog c_spec_Bare := funOk (E := [c_spec_Plain]) (envOk_cons ok_spec_Plain (envOk_nil)) mixd Tryz.func233 (pf := pf_spec_Bare) (by kernel_rfl) fun ts K h => by
  obtain ⟨t0, e0, h⟩ := as1_out h
  subst e0
  obtain ⟨w, e1, hq⟩ := arG_out rd_word h
  clear h
  subst e1
  have h := hq
  clear hq
  exact ⟨_, _, h, Nat.le_of_ble_eq_true (show Nat.ble 1 Tryz.f233.ntmps = true by kernel_rfl), _, run_spec_Bare w⟩

def pf_impl_Bare : PF := ⟨[.c 2 true 6], .seq (.reg [.s (.box 1 (.t 0)), .s (.alloc 2 [.int .i64 0, .ff, .int .i64 0, .int .i64 0, .int .i64 0, .int .i64 0])]) (.seq (.reg [.s (.fa 3 (.t 1) 0), .s (.load 4 false 1 (.t 3)), .s (.call (some 5) 113 [(.t 4)]), .s (.store 6 (.t 2) (.t 5))]) (.ret))⟩
def c_impl_Bare : Fun := ⟨212, [], fun ts K => as1 ts fun t0 => arG pWordT t0 fun w => K (tG ((plainW w.n).tc [])) []⟩
theorem run_impl_Bare (w : Word) : runK [c_impl_Plain] (0) [] pf_impl_Bare [tG (w.tc [])] fun r o => r = tG ((plainW w.n).tc []) ∧ o = [] := by
  conv => whnf
  repeat' (first
    | exact rfl
    | exact trivial
    | (refine sel_i (fun h => ?_) (fun h => ?_) <;> conv => whnf)
    | (refine chk_c ?_ ?_ <;> conv => whnf)
    | (refine And.intro ?_ ?_ <;> conv => whnf))
theorem ok_impl_Bare : FunOk Tryz.prog c_impl_Bare := funOk (E := [c_impl_Plain]) (envOk_cons ok_impl_Plain (envOk_nil)) mixd Tryz.func212 (pf := pf_impl_Bare) (by kernel_rfl) fun ts K h => by
  obtain ⟨t0, e0, h⟩ := as1_out h
  subst e0
  obtain ⟨w, e1, hq⟩ := arG_out rd_word h
  clear h
  subst e1
  have h := hq
  clear hq
  exact ⟨_, _, h, Nat.le_of_ble_eq_true (show Nat.ble 1 Tryz.f212.ntmps = true by kernel_rfl), _, run_impl_Bare w⟩

def pf_spec_Filter : PF := ⟨[.c 4 true 6], .seq (.reg [.s (.box 2 (.t 0)), .s (.box 3 (.t 1)), .s (.alloc 4 [.int .i64 0, .ff, .int .i64 0, .int .i64 0, .int .i64 0, .int .i64 0])]) (.seq (.seq (.reg [.s (.fa 5 (.t 3) 1), .s (.load 6 false 1 (.t 5)), .s (.mv 7 (.t 6)), .g 7 true (some 8) (.fa 8 (.t 3) 2), .g 7 true (some 9) (.fa 9 (.t 8) 0), .g 7 true (some 10) (.load 10 false 1 (.t 9)), .g 7 true (some 11) (.fa 11 (.t 2) 1), .g 7 true (some 12) (.load 12 false 1 (.t 11)), .g 7 true (some 13) (.len 13 false (.t 12)), .g 7 true (some 14) (.bin 14 .sub (.t 13) (.k (.v (.c (.int .i64 1))))), .g 7 true (some 15) (.call (some 15) 77 [(.t 10), (.k (.v (.c (.int .i64 0)))), (.t 14)]), .s (.pick 16 (.t 7) (.t 15) (.k (.v (.c .ff)))), .s (.mv 17 (.t 16)), .g 17 true (some 18) (.fa 18 (.t 2) 1), .g 17 true (some 19) (.load 19 false 1 (.t 18)), .g 17 true (some 20) (.fa 20 (.t 3) 2), .g 17 true (some 21) (.fa 21 (.t 20) 0), .g 17 true (some 22) (.load 22 false 1 (.t 21)), .g 17 true (some 23) (.ia 23 .bool (.t 19) (.t 22)), .g 17 true (some 24) (.load 24 false 1 (.t 23)), .s (.pick 25 (.t 17) (.t 24) (.k (.v (.c .ff))))]) (.cond (.t 25) (.seq (.reg [.s (.load 26 true 6 (.t 3)), .s (.call (some 27) 233 [(.t 26)]), .s (.store 6 (.t 4) (.t 27))]) (.ret)) (.skip))) (.seq (.reg [.s (.load 28 true 6 (.t 3)), .s (.store 6 (.t 4) (.t 28))]) (.ret)))⟩
def c_spec_Filter : Fun := ⟨201, [], fun ts K => as2 ts fun t0 t1 => arG pMemT t0 fun m => arG pWordT t1 fun w => chk (LMem m 2147483647) (K (tG ((filterW m.gone w).tc [])) [])⟩
theorem run_spec_Filter (m : Mem) (w : Word) (hpre : LMem m 2147483647) : runK [c_spec_l1In, c_spec_Bare] (0) [] pf_spec_Filter [tG (m.tc false []), tG (w.tc [])] fun r o => r = tG ((filterW m.gone w).tc []) ∧ o = [] := by
  obtain ⟨l1, l2⟩ := hpre
  have w1 : IntKind.i64.wrap ((m.gone.length : Int) - 1) = (m.gone.length : Int) - 1 := wrap_id (by omega) (by omega)
  conv => whnf
  repeat' (first | (refine sel_i (fun h => ?_) (fun h => ?_) <;> conv => whnf) | (refine chk_c ?_ ?_ <;> conv => whnf) | (refine And.intro ?_ rfl) | (refine And.intro ?_ ?_ <;> conv => whnf))
  all_goals (try simp only [w1, show FT.zero .bool = false from rfl] at *)
  all_goals first
    | (refine ⟨?_⟩; rename_i g; have := inR_t.1 g; omega)
    | (refine ⟨?_⟩; have := inR_t.1 h; omega)
    | (rw [show filterW m.gone w = plainW w.n by simp only [filterW, gonB, *, Bool.and_self, if_true]]; rfl)
    | (rw [show filterW m.gone w = w by simp only [filterW, gonB, *, Bool.and_false, Bool.false_and, Bool.false_eq_true, if_false]]; rfl)
    | trace_state
theorem ok_spec_Filter : FunOk Tryz.prog c_spec_Filter := funOk (E := [c_spec_l1In, c_spec_Bare]) (envOk_cons ok_spec_l1In (envOk_cons ok_spec_Bare (envOk_nil))) mixd Tryz.func201 (pf := pf_spec_Filter) (by kernel_rfl) fun ts K h => by
  obtain ⟨t0, t1, e0, h⟩ := as2_out h
  subst e0
  obtain ⟨m, e1, hq⟩ := arG_out rd_mem h
  clear h
  subst e1
  have h := hq
  clear hq
  obtain ⟨w, e1, hq⟩ := arG_out rd_word h
  clear h
  subst e1
  have h := hq
  clear hq
  obtain ⟨hpre, h⟩ := chk_o h
  exact ⟨_, _, h, Nat.le_of_ble_eq_true (show Nat.ble 2 Tryz.f201.ntmps = true by kernel_rfl), _, run_spec_Filter m w hpre⟩

def pf_impl_Filter : PF := ⟨[.c 4 true 6], .seq (.reg [.s (.box 2 (.t 0)), .s (.box 3 (.t 1)), .s (.alloc 4 [.int .i64 0, .ff, .int .i64 0, .int .i64 0, .int .i64 0, .int .i64 0])]) (.seq (.seq (.reg [.s (.fa 5 (.t 3) 1), .s (.load 6 false 1 (.t 5)), .s (.mv 7 (.t 6)), .g 7 true (some 8) (.fa 8 (.t 3) 2), .g 7 true (some 9) (.fa 9 (.t 8) 0), .g 7 true (some 10) (.load 10 false 1 (.t 9)), .g 7 true (some 11) (.fa 11 (.t 2) 1), .g 7 true (some 12) (.load 12 false 1 (.t 11)), .g 7 true (some 13) (.len 13 false (.t 12)), .g 7 true (some 14) (.bin 14 .sub (.t 13) (.k (.v (.c (.int .i64 1))))), .g 7 true (some 15) (.call (some 15) 60 [(.t 10), (.k (.v (.c (.int .i64 0)))), (.t 14)]), .s (.pick 16 (.t 7) (.t 15) (.k (.v (.c .ff)))), .s (.mv 17 (.t 16)), .g 17 true (some 18) (.fa 18 (.t 2) 1), .g 17 true (some 19) (.load 19 false 1 (.t 18)), .g 17 true (some 20) (.fa 20 (.t 3) 2), .g 17 true (some 21) (.fa 21 (.t 20) 0), .g 17 true (some 22) (.load 22 false 1 (.t 21)), .g 17 true (some 23) (.ia 23 .bool (.t 19) (.t 22)), .g 17 true (some 24) (.load 24 false 1 (.t 23)), .s (.pick 25 (.t 17) (.t 24) (.k (.v (.c .ff))))]) (.cond (.t 25) (.seq (.reg [.s (.load 26 true 6 (.t 3)), .s (.call (some 27) 212 [(.t 26)]), .s (.store 6 (.t 4) (.t 27))]) (.ret)) (.skip))) (.seq (.reg [.s (.load 28 true 6 (.t 3)), .s (.store 6 (.t 4) (.t 28))]) (.ret)))⟩
def c_impl_Filter : Fun := ⟨172, [], fun ts K => as2 ts fun t0 t1 => arG pMemT t0 fun m => arG pWordT t1 fun w => chk (LMem m 2147483647) (K (tG ((filterW m.gone w).tc [])) [])⟩
theorem run_impl_Filter (m : Mem) (w : Word) (hpre : LMem m 2147483647) : runK [c_impl_in, c_impl_Bare] (0) [] pf_impl_Filter [tG (m.tc false []), tG (w.tc [])] fun r o => r = tG ((filterW m.gone w).tc []) ∧ o = [] := by
  obtain ⟨l1, l2⟩ := hpre
  have w1 : IntKind.i64.wrap ((m.gone.length : Int) - 1) = (m.gone.length : Int) - 1 := wrap_id (by omega) (by omega)
  conv => whnf
  repeat' (first | (refine sel_i (fun h => ?_) (fun h => ?_) <;> conv => whnf) | (refine chk_c ?_ ?_ <;> conv => whnf) | (refine And.intro ?_ rfl) | (refine And.intro ?_ ?_ <;> conv => whnf))
  all_goals (try simp only [w1, show FT.zero .bool = false from rfl] at *)
  all_goals first
    | (refine ⟨?_⟩; rename_i g; have := inR_t.1 g; omega)
    | (refine ⟨?_⟩; have := inR_t.1 h; omega)
    | (rw [show filterW m.gone w = plainW w.n by simp only [filterW, gonB, *, Bool.and_self, if_true]]; rfl)
    | (rw [show filterW m.gone w = w by simp only [filterW, gonB, *, Bool.and_false, Bool.false_and, Bool.false_eq_true, if_false]]; rfl)
    | trace_state
theorem ok_impl_Filter : FunOk Tryz.prog c_impl_Filter := funOk (E := [c_impl_in, c_impl_Bare]) (envOk_cons ok_impl_in (envOk_cons ok_impl_Bare (envOk_nil))) mixd Tryz.func172 (pf := pf_impl_Filter) (by kernel_rfl) fun ts K h => by
  obtain ⟨t0, t1, e0, h⟩ := as2_out h
  subst e0
  obtain ⟨m, e1, hq⟩ := arG_out rd_mem h
  clear h
  subst e1
  have h := hq
  clear hq
  obtain ⟨w, e1, hq⟩ := arG_out rd_word h
  clear h
  subst e1
  have h := hq
  clear hq
  obtain ⟨hpre, h⟩ := chk_o h
  exact ⟨_, _, h, Nat.le_of_ble_eq_true (show Nat.ble 2 Tryz.f172.ntmps = true by kernel_rfl), _, run_impl_Filter m w hpre⟩


theorem andI_mask {q p : Int} (h : 0 ≤ p ∧ p ≤ 63) : (andI q p = p) ↔ (IntKind.i64.wrap (BitVec.ofInt IntKind.i64.bits p &&& ~~~ BitVec.ofInt IntKind.i64.bits q).toNat = 0) := by
  obtain ⟨m, rfl⟩ := Int.eq_ofNat_of_zero_le h.1
  have hy : (BitVec.ofInt IntKind.i64.bits (m : Int)).toNat = m := by
    rw [BitVec.ofInt_natCast, BitVec.toNat_ofNat]; exact Nat.mod_eq_of_lt (by show m < 2 ^ 64; omega)
  unfold andI
  generalize BitVec.ofInt IntKind.i64.bits (m : Int) = y at *
  generalize BitVec.ofInt IntKind.i64.bits q = x at *
  have h1 : (x &&& y).toNat ≤ y.toNat := by rw [BitVec.toNat_and]; exact Nat.and_le_right
  have h2 : (y &&& ~~~ x).toNat ≤ y.toNat := by rw [BitVec.toNat_and]; exact Nat.and_le_left
  have h3 : y.toNat ≤ 63 := by omega
  rw [wrap_id (by omega) (by omega), wrap_id (by omega) (by omega)]
  have e1 : (((x &&& y).toNat : Nat) : Int) = (m : Int) ↔ x &&& y = y := by
    rw [← hy, ← BitVec.toNat_inj]; omega
  have e2 : (((y &&& ~~~ x).toNat : Nat) : Int) = 0 ↔ y &&& ~~~ x = 0#_ := by
    rw [← BitVec.toNat_inj]; simp
  rw [e1, e2]
  constructor
  · intro h
    rw [← h]
    apply BitVec.eq_of_getLsbD_eq
    intro i hi
    simp only [BitVec.getLsbD_and, BitVec.getLsbD_not, BitVec.getLsbD_zero]
    cases x.getLsbD i <;> cases y.getLsbD i <;> simp
  · intro h
    apply BitVec.eq_of_getLsbD_eq
    intro i hi
    have := congrArg (fun v => v.getLsbD i) h
    simp only [BitVec.getLsbD_and, BitVec.getLsbD_not, BitVec.getLsbD_zero, hi, decide_true, Bool.true_and] at this ⊢
    cases hx : x.getLsbD i <;> cases hyy : y.getLsbD i <;> simp_all
def tryW (w : Word) (n p : Int) : Int := if w.is = false ∨ wordOk w = false then 1 else if w.key.sealed ≠ 0 then 2 else if andI w.key.perms p ≠ p then 3 else if n < w.key.base ∨ w.key.top ≤ n then 4 else 0
def takenW (y w : Word) : Word := if andI y.key.perms 8 = 0 then plainW w.n else w
def mayPut (y w : Word) : Bool := !w.is || andI y.key.perms 16 != 0
def openW (w : Word) : Bool := wordOk w && w.is && w.key.sealed == 0
theorem openW_is {w : Word} (h : openW w = true) : w.is = true := by simp only [openW, Bool.and_eq_true] at h; exact h.1.2
def weakenW (w : Word) (m : Int) : Word := if openW w then { w with key := { w.key with perms := andI w.key.perms (andI m 63) } } else plainW w.n
def narrowW (w : Word) (n : Int) : Word :=
  if openW w && inR n 0 4096 && boundsOk w.n (IntKind.i64.wrap (w.n + n)) then
    (if (wide w.n (IntKind.i64.wrap (w.n + n))).1 < w.key.base ∨ w.key.top < (wide w.n (IntKind.i64.wrap (w.n + n))).2 then plainW w.n else { w with key := { w.key with base := (wide w.n (IntKind.i64.wrap (w.n + n))).1, top := (wide w.n (IntKind.i64.wrap (w.n + n))).2 } })
  else plainW w.n
def pointW (w : Word) (n : Int) : Word := if openW w then ⟨andI n 65535, true, w.key⟩ else plainW n
def sealsB (y : Word) : Bool := openW y && (andI y.key.perms 32 != 0) && decide (y.key.base ≤ y.n) && decide (y.n < y.key.top) && inR y.n 1 7
def sealBy (w y : Word) : Word := if openW w && sealsB y then { w with key := { w.key with sealed := y.n } } else plainW w.n
def openBy (w y : Word) : Word := if wordOk w && w.is && sealsB y && w.key.sealed == y.n then { w with key := { w.key with sealed := 0 } } else plainW w.n

def pf_spec_Try : PF := ⟨[.t 6], .seq (.reg [.s (.box 3 (.t 0)), .s (.mv 6 (.k (.v (.c (.int .i64 0)))))]) (.seq (.blk 0 (.seq (.reg [.s (.load 8 true 6 (.t 3)), .s (.call (some 9) 140 [(.t 8)]), .s (.bnot 10 (.t 9)), .s (.mv 11 (.t 10)), .g 11 false (some 12) (.fa 12 (.t 3) 1), .g 11 false (some 13) (.load 13 false 1 (.t 12)), .g 11 false (some 14) (.bnot 14 (.t 13)), .s (.pick 15 (.t 11) (.k (.v (.c .tt))) (.t 14)), .s (.mv 7 (.t 15))]) (.cond (.t 7) (.seq (.reg [.s (.mv 6 (.k (.v (.c (.int .i64 1)))))]) (.ret)) (.seq (.reg [.s (.fa 17 (.t 3) 2), .s (.fa 18 (.t 17) 3), .s (.load 19 false 1 (.t 18)), .s (.bin 20 .neq (.t 19) (.k (.v (.c (.int .i64 0))))), .s (.mv 16 (.t 20))]) (.cond (.t 16) (.seq (.reg [.s (.mv 6 (.k (.v (.c (.int .i64 2)))))]) (.ret)) (.seq (.reg [.s (.fa 22 (.t 3) 2), .s (.fa 23 (.t 22) 2), .s (.load 24 false 1 (.t 23)), .s (.mv 25 (.t 2)), .s (.bin 26 .and (.t 24) (.t 25)), .s (.mv 27 (.t 2)), .s (.bin 28 .neq (.t 26) (.t 27)), .s (.mv 21 (.t 28))]) (.cond (.t 21) (.seq (.reg [.s (.mv 6 (.k (.v (.c (.int .i64 3)))))]) (.ret)) (.seq (.reg [.s (.mv 30 (.t 1)), .s (.fa 31 (.t 3) 2), .s (.fa 32 (.t 31) 0), .s (.load 33 false 1 (.t 32)), .s (.bin 34 .lss (.t 30) (.t 33)), .s (.mv 35 (.t 34)), .g 35 false (some 36) (.mv 36 (.t 1)), .g 35 false (some 37) (.fa 37 (.t 3) 2), .g 35 false (some 38) (.fa 38 (.t 37) 1), .g 35 false (some 39) (.load 39 false 1 (.t 38)), .g 35 false (some 40) (.bin 40 .geq (.t 36) (.t 39)), .s (.pick 41 (.t 35) (.k (.v (.c .tt))) (.t 40)), .s (.mv 29 (.t 41))]) (.cond (.t 29) (.seq (.reg [.s (.mv 6 (.k (.v (.c (.int .i64 4)))))]) (.ret)) (.skip)))))))))) (.seq (.reg [.s (.mv 6 (.k (.v (.c (.int .i64 0)))))]) (.ret)))⟩
def c_spec_Try : Fun := ⟨196, [], fun ts K => as3 ts fun t0 t1 t2 => arG pWordT t0 fun w => arC (pI .i64) t1 fun n => arC (pI .i64) t2 fun p => K (tN (tryW w n p)) []⟩
theorem run_spec_Try (w : Word) (n : Int) (p : Int) : runK [c_spec_WordOk] (0) [] pf_spec_Try [tG (w.tc []), tI .i64 n, tI .i64 p] fun r o => r = tN (tryW w n p) ∧ o = [] := by
  conv => whnf
  repeat' (first | (refine sel_i (fun h => ?_) (fun h => ?_) <;> conv => whnf) | (refine chk_c ?_ ?_ <;> conv => whnf) | (refine And.intro ?_ rfl) | (refine And.intro ?_ ?_ <;> conv => whnf))
  all_goals (try simp only [etaKey, etaWord, andI_eq, Bool.not_eq_true', Bool.not_eq_false', decide_eq_true_eq, decide_eq_false_iff_not, bne_iff_ne, ne_eq, bne_eq_false_iff_eq, beq_iff_eq, beq_eq_false_iff_ne] at *)
  all_goals first | (simp_all [tryW]; done) | (simp_all [tryW]; omega) | trace_state
theorem ok_spec_Try : FunOk Tryz.prog c_spec_Try := funOk (E := [c_spec_WordOk]) (envOk_cons ok_spec_WordOk (envOk_nil)) mixd Tryz.func196 (pf := pf_spec_Try) (by kernel_rfl) fun ts K h => by
  obtain ⟨t0, t1, t2, e0, h⟩ := as3_out h
  subst e0
  obtain ⟨w, e1, hq⟩ := arG_out rd_word h
  clear h
  subst e1
  have h := hq
  clear hq
  obtain ⟨n, e1, hq⟩ := arC_out (rd_int .i64) h
  clear h
  subst e1
  have h := hq
  clear hq
  obtain ⟨p, e1, hq⟩ := arC_out (rd_int .i64) h
  clear h
  subst e1
  have h := hq
  clear hq
  exact ⟨_, _, h, Nat.le_of_ble_eq_true (show Nat.ble 3 Tryz.f196.ntmps = true by kernel_rfl), _, run_spec_Try w n p⟩

def pf_impl_Try : PF := ⟨[.t 6], .seq (.reg [.s (.box 3 (.t 0)), .s (.mv 6 (.k (.v (.c (.int .i64 0)))))]) (.seq (.blk 0 (.seq (.reg [.s (.fa 8 (.t 3) 1), .s (.load 9 false 1 (.t 8)), .s (.bnot 10 (.t 9)), .s (.mv 11 (.t 10)), .g 11 false (some 12) (.load 12 true 6 (.t 3)), .g 11 false (some 13) (.call (some 13) 65 [(.t 12)]), .g 11 false (some 14) (.bnot 14 (.t 13)), .s (.pick 15 (.t 11) (.k (.v (.c .tt))) (.t 14)), .s (.mv 7 (.t 15))]) (.cond (.t 7) (.seq (.reg [.s (.mv 6 (.k (.v (.c (.int .i64 1)))))]) (.ret)) (.seq (.reg [.s (.fa 17 (.t 3) 2), .s (.fa 18 (.t 17) 3), .s (.load 19 false 1 (.t 18)), .s (.bin 20 .neq (.t 19) (.k (.v (.c (.int .i64 0))))), .s (.mv 16 (.t 20))]) (.cond (.t 16) (.seq (.reg [.s (.mv 6 (.k (.v (.c (.int .i64 2)))))]) (.ret)) (.seq (.reg [.s (.mv 22 (.t 2)), .s (.fa 23 (.t 3) 2), .s (.fa 24 (.t 23) 2), .s (.load 25 false 1 (.t 24)), .s (.bin 26 .andNot (.t 22) (.t 25)), .s (.bin 27 .neq (.t 26) (.k (.v (.c (.int .i64 0))))), .s (.mv 21 (.t 27))]) (.cond (.t 21) (.seq (.reg [.s (.mv 6 (.k (.v (.c (.int .i64 3)))))]) (.ret)) (.seq (.reg [.s (.mv 29 (.t 1)), .s (.fa 30 (.t 3) 2), .s (.fa 31 (.t 30) 0), .s (.load 32 false 1 (.t 31)), .s (.bin 33 .lss (.t 29) (.t 32)), .s (.mv 34 (.t 33)), .g 34 false (some 35) (.mv 35 (.t 1)), .g 34 false (some 36) (.fa 36 (.t 3) 2), .g 34 false (some 37) (.fa 37 (.t 36) 1), .g 34 false (some 38) (.load 38 false 1 (.t 37)), .g 34 false (some 39) (.bin 39 .geq (.t 35) (.t 38)), .s (.pick 40 (.t 34) (.k (.v (.c .tt))) (.t 39)), .s (.mv 28 (.t 40))]) (.cond (.t 28) (.seq (.reg [.s (.mv 6 (.k (.v (.c (.int .i64 4)))))]) (.ret)) (.skip)))))))))) (.seq (.reg [.s (.mv 6 (.k (.v (.c (.int .i64 0)))))]) (.ret)))⟩
def c_impl_Try : Fun := ⟨171, [], fun ts K => as3 ts fun t0 t1 t2 => arG pWordT t0 fun w => arC (pI .i64) t1 fun n => arC (pI .i64) t2 fun p => chk (0 ≤ p ∧ p ≤ 63) (K (tN (tryW w n p)) [])⟩
theorem run_impl_Try (w : Word) (n : Int) (p : Int) (hpre : 0 ≤ p ∧ p ≤ 63) : runK [c_impl_WordOk] (0) [] pf_impl_Try [tG (w.tc []), tI .i64 n, tI .i64 p] fun r o => r = tN (tryW w n p) ∧ o = [] := by
  have hm := andI_mask (q := w.key.perms) hpre
  conv => whnf
  repeat' (first | (refine sel_i (fun h => ?_) (fun h => ?_) <;> conv => whnf) | (refine chk_c ?_ ?_ <;> conv => whnf) | (refine And.intro ?_ rfl) | (refine And.intro ?_ ?_ <;> conv => whnf))
  all_goals (try simp only [etaKey, etaWord, andI_eq, Bool.not_eq_true', Bool.not_eq_false', decide_eq_true_eq, decide_eq_false_iff_not, bne_iff_ne, ne_eq, bne_eq_false_iff_eq, beq_iff_eq, beq_eq_false_iff_ne] at *)
  all_goals (try simp only [← hm] at *)
  all_goals first | (simp_all [tryW]; done) | (simp_all [tryW]; omega) | trace_state
theorem ok_impl_Try : FunOk Tryz.prog c_impl_Try := funOk (E := [c_impl_WordOk]) (envOk_cons ok_impl_WordOk (envOk_nil)) mixd Tryz.func171 (pf := pf_impl_Try) (by kernel_rfl) fun ts K h => by
  obtain ⟨t0, t1, t2, e0, h⟩ := as3_out h
  subst e0
  obtain ⟨w, e1, hq⟩ := arG_out rd_word h
  clear h
  subst e1
  have h := hq
  clear hq
  obtain ⟨n, e1, hq⟩ := arC_out (rd_int .i64) h
  clear h
  subst e1
  have h := hq
  clear hq
  obtain ⟨p, e1, hq⟩ := arC_out (rd_int .i64) h
  clear h
  subst e1
  have h := hq
  clear hq
  obtain ⟨hpre, h⟩ := chk_o h
  exact ⟨_, _, h, Nat.le_of_ble_eq_true (show Nat.ble 3 Tryz.f171.ntmps = true by kernel_rfl), _, run_impl_Try w n p hpre⟩

def pf_impl_permits : PF := ⟨[.t 4], .seq (.reg [.s (.box 2 (.t 0)), .s (.mv 4 (.k (.v (.c .ff))))]) (.seq (.reg [.s (.fa 5 (.t 2) 2), .s (.fa 6 (.t 5) 2), .s (.load 7 false 1 (.t 6)), .s (.mv 8 (.t 1)), .s (.bin 9 .and (.t 7) (.t 8)), .s (.bin 10 .neq (.t 9) (.k (.v (.c (.int .i64 0))))), .s (.mv 4 (.t 10))]) (.ret))⟩
def c_impl_permits : Fun := ⟨213, [], fun ts K => as2 ts fun t0 t1 => arG pWordT t0 fun y => arC (pI .i64) t1 fun p => K (tB (andI y.key.perms p != 0)) []⟩
theorem run_impl_permits (y : Word) (p : Int) : runK [] (0) [] pf_impl_permits [tG (y.tc []), tI .i64 p] fun r o => r = tB (andI y.key.perms p != 0) ∧ o = [] := by
  conv => whnf
  repeat' (first
    | exact rfl
    | exact trivial
    | (refine sel_i (fun h => ?_) (fun h => ?_) <;> conv => whnf)
    | (refine chk_c ?_ ?_ <;> conv => whnf)
    | (refine And.intro ?_ ?_ <;> conv => whnf))
theorem ok_impl_permits : FunOk Tryz.prog c_impl_permits := funOk (E := []) (envOk_nil) mixd Tryz.func213 (pf := pf_impl_permits) (by kernel_rfl) fun ts K h => by
  obtain ⟨t0, t1, e0, h⟩ := as2_out h
  subst e0
  obtain ⟨y, e1, hq⟩ := arG_out rd_word h
  clear h
  subst e1
  have h := hq
  clear hq
  obtain ⟨p, e1, hq⟩ := arC_out (rd_int .i64) h
  clear h
  subst e1
  have h := hq
  clear hq
  exact ⟨_, _, h, Nat.le_of_ble_eq_true (show Nat.ble 2 Tryz.f213.ntmps = true by kernel_rfl), _, run_impl_permits y p⟩

def pf_spec_Taken : PF := ⟨[.c 4 true 6], .seq (.reg [.s (.box 2 (.t 0)), .s (.box 3 (.t 1)), .s (.alloc 4 [.int .i64 0, .ff, .int .i64 0, .int .i64 0, .int .i64 0, .int .i64 0])]) (.seq (.seq (.reg [.s (.fa 5 (.t 2) 2), .s (.fa 6 (.t 5) 2), .s (.load 7 false 1 (.t 6)), .s (.bin 8 .and (.t 7) (.k (.v (.c (.int .i64 8))))), .s (.bin 9 .eql (.t 8) (.k (.v (.c (.int .i64 0)))))]) (.cond (.t 9) (.seq (.reg [.s (.load 10 true 6 (.t 3)), .s (.call (some 11) 233 [(.t 10)]), .s (.store 6 (.t 4) (.t 11))]) (.ret)) (.skip))) (.seq (.reg [.s (.load 12 true 6 (.t 3)), .s (.store 6 (.t 4) (.t 12))]) (.ret)))⟩
def c_spec_Taken : Fun := ⟨245, [], fun ts K => as2 ts fun t0 t1 => arG pWordT t0 fun y => arG pWordT t1 fun w => K (tG ((takenW y w).tc [])) []⟩
theorem run_spec_Taken (y : Word) (w : Word) : runK [c_spec_Bare] (0) [] pf_spec_Taken [tG (y.tc []), tG (w.tc [])] fun r o => r = tG ((takenW y w).tc []) ∧ o = [] := by
  conv => whnf
  repeat' (first | (refine sel_i (fun h => ?_) (fun h => ?_) <;> conv => whnf) | (refine chk_c ?_ ?_ <;> conv => whnf) | (refine And.intro ?_ rfl) | (refine And.intro ?_ ?_ <;> conv => whnf))
  all_goals (try simp only [etaKey, etaWord, andI_eq, Bool.not_eq_true', Bool.not_eq_false', decide_eq_true_eq, decide_eq_false_iff_not, bne_iff_ne, ne_eq, bne_eq_false_iff_eq, beq_iff_eq, beq_eq_false_iff_ne] at *)
  all_goals
    first
      | (rw [show takenW y w = plainW w.n by simp_all [takenW]]; rfl)
      | (rw [show takenW y w = w by simp_all [takenW]]; rfl)
      | trace_state
theorem ok_spec_Taken : FunOk Tryz.prog c_spec_Taken := funOk (E := [c_spec_Bare]) (envOk_cons ok_spec_Bare (envOk_nil)) mixd Tryz.func245 (pf := pf_spec_Taken) (by kernel_rfl) fun ts K h => by
  obtain ⟨t0, t1, e0, h⟩ := as2_out h
  subst e0
  obtain ⟨y, e1, hq⟩ := arG_out rd_word h
  clear h
  subst e1
  have h := hq
  clear hq
  obtain ⟨w, e1, hq⟩ := arG_out rd_word h
  clear h
  subst e1
  have h := hq
  clear hq
  exact ⟨_, _, h, Nat.le_of_ble_eq_true (show Nat.ble 2 Tryz.f245.ntmps = true by kernel_rfl), _, run_spec_Taken y w⟩

def pf_impl_Taken : PF := ⟨[.c 4 true 6], .seq (.reg [.s (.box 2 (.t 0)), .s (.box 3 (.t 1)), .s (.alloc 4 [.int .i64 0, .ff, .int .i64 0, .int .i64 0, .int .i64 0, .int .i64 0])]) (.seq (.seq (.reg [.s (.load 5 true 6 (.t 2)), .s (.call (some 6) 213 [(.t 5), (.k (.v (.c (.int .i64 8))))])]) (.cond (.t 6) (.seq (.reg [.s (.load 7 true 6 (.t 3)), .s (.store 6 (.t 4) (.t 7))]) (.ret)) (.skip))) (.seq (.reg [.s (.load 8 true 6 (.t 3)), .s (.call (some 9) 212 [(.t 8)]), .s (.store 6 (.t 4) (.t 9))]) (.ret)))⟩
def c_impl_Taken : Fun := ⟨173, [], fun ts K => as2 ts fun t0 t1 => arG pWordT t0 fun y => arG pWordT t1 fun w => K (tG ((takenW y w).tc [])) []⟩
theorem run_impl_Taken (y : Word) (w : Word) : runK [c_impl_Bare, c_impl_permits] (0) [] pf_impl_Taken [tG (y.tc []), tG (w.tc [])] fun r o => r = tG ((takenW y w).tc []) ∧ o = [] := by
  conv => whnf
  repeat' (first | (refine sel_i (fun h => ?_) (fun h => ?_) <;> conv => whnf) | (refine chk_c ?_ ?_ <;> conv => whnf) | (refine And.intro ?_ rfl) | (refine And.intro ?_ ?_ <;> conv => whnf))
  all_goals (try simp only [etaKey, etaWord, andI_eq, Bool.not_eq_true', Bool.not_eq_false', decide_eq_true_eq, decide_eq_false_iff_not, bne_iff_ne, ne_eq, bne_eq_false_iff_eq, beq_iff_eq, beq_eq_false_iff_ne] at *)
  all_goals
    first
      | (rw [show takenW y w = plainW w.n by simp_all [takenW]]; rfl)
      | (rw [show takenW y w = w by simp_all [takenW]]; rfl)
      | trace_state
theorem ok_impl_Taken : FunOk Tryz.prog c_impl_Taken := funOk (E := [c_impl_Bare, c_impl_permits]) (envOk_cons ok_impl_Bare (envOk_cons ok_impl_permits (envOk_nil))) mixd Tryz.func173 (pf := pf_impl_Taken) (by kernel_rfl) fun ts K h => by
  obtain ⟨t0, t1, e0, h⟩ := as2_out h
  subst e0
  obtain ⟨y, e1, hq⟩ := arG_out rd_word h
  clear h
  subst e1
  have h := hq
  clear hq
  obtain ⟨w, e1, hq⟩ := arG_out rd_word h
  clear h
  subst e1
  have h := hq
  clear hq
  exact ⟨_, _, h, Nat.le_of_ble_eq_true (show Nat.ble 2 Tryz.f173.ntmps = true by kernel_rfl), _, run_impl_Taken y w⟩

def pf_spec_MayPut : PF := ⟨[.t 4], .seq (.reg [.s (.box 2 (.t 0)), .s (.box 3 (.t 1)), .s (.mv 4 (.k (.v (.c .ff))))]) (.seq (.reg [.s (.fa 5 (.t 3) 1), .s (.load 6 false 1 (.t 5)), .s (.bnot 7 (.t 6)), .s (.mv 8 (.t 7)), .g 8 false (some 9) (.fa 9 (.t 2) 2), .g 8 false (some 10) (.fa 10 (.t 9) 2), .g 8 false (some 11) (.load 11 false 1 (.t 10)), .g 8 false (some 12) (.bin 12 .and (.t 11) (.k (.v (.c (.int .i64 16))))), .g 8 false (some 13) (.bin 13 .neq (.t 12) (.k (.v (.c (.int .i64 0))))), .s (.pick 14 (.t 8) (.k (.v (.c .tt))) (.t 13)), .s (.mv 4 (.t 14))]) (.ret))⟩
def c_spec_MayPut : Fun := ⟨246, [], fun ts K => as2 ts fun t0 t1 => arG pWordT t0 fun y => arG pWordT t1 fun w => K (tB (mayPut y w)) []⟩
theorem run_spec_MayPut (y : Word) (w : Word) : runK [] (0) [] pf_spec_MayPut [tG (y.tc []), tG (w.tc [])] fun r o => r = tB (mayPut y w) ∧ o = [] := by
  conv => whnf
  repeat' (first | (refine sel_i (fun h => ?_) (fun h => ?_) <;> conv => whnf) | (refine chk_c ?_ ?_ <;> conv => whnf) | (refine And.intro ?_ rfl) | (refine And.intro ?_ ?_ <;> conv => whnf))
  all_goals (try simp only [etaKey, etaWord, andI_eq, Bool.not_eq_true', Bool.not_eq_false', decide_eq_true_eq, decide_eq_false_iff_not, bne_iff_ne, ne_eq, bne_eq_false_iff_eq, beq_iff_eq, beq_eq_false_iff_ne] at *)
  all_goals first | (simp_all [mayPut]; done) | (simp_all [mayPut]; omega) | trace_state
theorem ok_spec_MayPut : FunOk Tryz.prog c_spec_MayPut := funOk (E := []) (envOk_nil) mixd Tryz.func246 (pf := pf_spec_MayPut) (by kernel_rfl) fun ts K h => by
  obtain ⟨t0, t1, e0, h⟩ := as2_out h
  subst e0
  obtain ⟨y, e1, hq⟩ := arG_out rd_word h
  clear h
  subst e1
  have h := hq
  clear hq
  obtain ⟨w, e1, hq⟩ := arG_out rd_word h
  clear h
  subst e1
  have h := hq
  clear hq
  exact ⟨_, _, h, Nat.le_of_ble_eq_true (show Nat.ble 2 Tryz.f246.ntmps = true by kernel_rfl), _, run_spec_MayPut y w⟩

def pf_impl_MayPut : PF := ⟨[.t 4], .seq (.reg [.s (.box 2 (.t 0)), .s (.box 3 (.t 1)), .s (.mv 4 (.k (.v (.c .ff))))]) (.seq (.reg [.s (.fa 5 (.t 3) 1), .s (.load 6 false 1 (.t 5)), .s (.bnot 7 (.t 6)), .s (.mv 8 (.t 7)), .g 8 false (some 9) (.load 9 true 6 (.t 2)), .g 8 false (some 10) (.call (some 10) 213 [(.t 9), (.k (.v (.c (.int .i64 16))))]), .s (.pick 11 (.t 8) (.k (.v (.c .tt))) (.t 10)), .s (.mv 4 (.t 11))]) (.ret))⟩
def c_impl_MayPut : Fun := ⟨174, [], fun ts K => as2 ts fun t0 t1 => arG pWordT t0 fun y => arG pWordT t1 fun w => K (tB (mayPut y w)) []⟩
theorem run_impl_MayPut (y : Word) (w : Word) : runK [c_impl_permits] (0) [] pf_impl_MayPut [tG (y.tc []), tG (w.tc [])] fun r o => r = tB (mayPut y w) ∧ o = [] := by
  conv => whnf
  repeat' (first | (refine sel_i (fun h => ?_) (fun h => ?_) <;> conv => whnf) | (refine chk_c ?_ ?_ <;> conv => whnf) | (refine And.intro ?_ rfl) | (refine And.intro ?_ ?_ <;> conv => whnf))
  all_goals (try simp only [etaKey, etaWord, andI_eq, Bool.not_eq_true', Bool.not_eq_false', decide_eq_true_eq, decide_eq_false_iff_not, bne_iff_ne, ne_eq, bne_eq_false_iff_eq, beq_iff_eq, beq_eq_false_iff_ne] at *)
  all_goals first | (simp_all [mayPut]; done) | (simp_all [mayPut]; omega) | trace_state
theorem ok_impl_MayPut : FunOk Tryz.prog c_impl_MayPut := funOk (E := [c_impl_permits]) (envOk_cons ok_impl_permits (envOk_nil)) mixd Tryz.func174 (pf := pf_impl_MayPut) (by kernel_rfl) fun ts K h => by
  obtain ⟨t0, t1, e0, h⟩ := as2_out h
  subst e0
  obtain ⟨y, e1, hq⟩ := arG_out rd_word h
  clear h
  subst e1
  have h := hq
  clear hq
  obtain ⟨w, e1, hq⟩ := arG_out rd_word h
  clear h
  subst e1
  have h := hq
  clear hq
  exact ⟨_, _, h, Nat.le_of_ble_eq_true (show Nat.ble 2 Tryz.f174.ntmps = true by kernel_rfl), _, run_impl_MayPut y w⟩

def pf_spec_l4Open : PF := ⟨[.t 2], .seq (.reg [.s (.box 1 (.t 0)), .s (.mv 2 (.k (.v (.c .ff))))]) (.seq (.reg [.s (.load 3 true 6 (.t 1)), .s (.call (some 4) 140 [(.t 3)]), .s (.mv 5 (.t 4)), .g 5 true (some 6) (.fa 6 (.t 1) 1), .g 5 true (some 7) (.load 7 false 1 (.t 6)), .s (.pick 8 (.t 5) (.t 7) (.k (.v (.c .ff)))), .s (.mv 9 (.t 8)), .g 9 true (some 10) (.fa 10 (.t 1) 2), .g 9 true (some 11) (.fa 11 (.t 10) 3), .g 9 true (some 12) (.load 12 false 1 (.t 11)), .g 9 true (some 13) (.bin 13 .eql (.t 12) (.k (.v (.c (.int .i64 0))))), .s (.pick 14 (.t 9) (.t 13) (.k (.v (.c .ff)))), .s (.mv 2 (.t 14))]) (.ret))⟩
def c_spec_l4Open : Fun := ⟨230, [], fun ts K => as1 ts fun t0 => arG pWordT t0 fun w => K (tB (openW w)) []⟩
theorem run_spec_l4Open (w : Word) : runK [c_spec_WordOk] (0) [] pf_spec_l4Open [tG (w.tc [])] fun r o => r = tB (openW w) ∧ o = [] := by
  conv => whnf
  repeat' (first | (refine sel_i (fun h => ?_) (fun h => ?_) <;> conv => whnf) | (refine chk_c ?_ ?_ <;> conv => whnf) | (refine And.intro ?_ rfl) | (refine And.intro ?_ ?_ <;> conv => whnf))
  all_goals (try simp only [etaKey, etaWord, andI_eq, Bool.not_eq_true', Bool.not_eq_false', decide_eq_true_eq, decide_eq_false_iff_not, bne_iff_ne, ne_eq, bne_eq_false_iff_eq, beq_iff_eq, beq_eq_false_iff_ne] at *)
  all_goals first | (simp_all [openW]; done) | (simp_all [openW]; omega) | trace_state
theorem ok_spec_l4Open : FunOk Tryz.prog c_spec_l4Open := funOk (E := [c_spec_WordOk]) (envOk_cons ok_spec_WordOk (envOk_nil)) mixd Tryz.func230 (pf := pf_spec_l4Open) (by kernel_rfl) fun ts K h => by
  obtain ⟨t0, e0, h⟩ := as1_out h
  subst e0
  obtain ⟨w, e1, hq⟩ := arG_out rd_word h
  clear h
  subst e1
  have h := hq
  clear hq
  exact ⟨_, _, h, Nat.le_of_ble_eq_true (show Nat.ble 1 Tryz.f230.ntmps = true by kernel_rfl), _, run_spec_l4Open w⟩

def pf_impl_open : PF := ⟨[.t 2], .seq (.reg [.s (.box 1 (.t 0)), .s (.mv 2 (.k (.v (.c .ff))))]) (.seq (.reg [.s (.load 3 true 6 (.t 1)), .s (.call (some 4) 65 [(.t 3)]), .s (.mv 5 (.t 4)), .g 5 true (some 6) (.fa 6 (.t 1) 1), .g 5 true (some 7) (.load 7 false 1 (.t 6)), .s (.pick 8 (.t 5) (.t 7) (.k (.v (.c .ff)))), .s (.mv 9 (.t 8)), .g 9 true (some 10) (.fa 10 (.t 1) 2), .g 9 true (some 11) (.fa 11 (.t 10) 3), .g 9 true (some 12) (.load 12 false 1 (.t 11)), .g 9 true (some 13) (.bin 13 .eql (.t 12) (.k (.v (.c (.int .i64 0))))), .s (.pick 14 (.t 9) (.t 13) (.k (.v (.c .ff)))), .s (.mv 2 (.t 14))]) (.ret))⟩
def c_impl_open : Fun := ⟨214, [], fun ts K => as1 ts fun t0 => arG pWordT t0 fun w => K (tB (openW w)) []⟩
theorem run_impl_open (w : Word) : runK [c_impl_WordOk] (0) [] pf_impl_open [tG (w.tc [])] fun r o => r = tB (openW w) ∧ o = [] := by
  conv => whnf
  repeat' (first | (refine sel_i (fun h => ?_) (fun h => ?_) <;> conv => whnf) | (refine chk_c ?_ ?_ <;> conv => whnf) | (refine And.intro ?_ rfl) | (refine And.intro ?_ ?_ <;> conv => whnf))
  all_goals (try simp only [etaKey, etaWord, andI_eq, Bool.not_eq_true', Bool.not_eq_false', decide_eq_true_eq, decide_eq_false_iff_not, bne_iff_ne, ne_eq, bne_eq_false_iff_eq, beq_iff_eq, beq_eq_false_iff_ne] at *)
  all_goals first | (simp_all [openW]; done) | (simp_all [openW]; omega) | trace_state
theorem ok_impl_open : FunOk Tryz.prog c_impl_open := funOk (E := [c_impl_WordOk]) (envOk_cons ok_impl_WordOk (envOk_nil)) mixd Tryz.func214 (pf := pf_impl_open) (by kernel_rfl) fun ts K h => by
  obtain ⟨t0, e0, h⟩ := as1_out h
  subst e0
  obtain ⟨w, e1, hq⟩ := arG_out rd_word h
  clear h
  subst e1
  have h := hq
  clear hq
  exact ⟨_, _, h, Nat.le_of_ble_eq_true (show Nat.ble 1 Tryz.f214.ntmps = true by kernel_rfl), _, run_impl_open w⟩

def pf_spec_Weaken : PF := ⟨[.c 4 true 6], .seq (.reg [.s (.box 2 (.t 0)), .s (.alloc 4 [.int .i64 0, .ff, .int .i64 0, .int .i64 0, .int .i64 0, .int .i64 0])]) (.seq (.seq (.reg [.s (.load 5 true 6 (.t 2)), .s (.call (some 6) 230 [(.t 5)]), .s (.bnot 7 (.t 6))]) (.cond (.t 7) (.seq (.reg [.s (.load 8 true 6 (.t 2)), .s (.call (some 9) 233 [(.t 8)]), .s (.store 6 (.t 4) (.t 9))]) (.ret)) (.skip))) (.seq (.reg [.s (.fa 10 (.t 2) 2), .s (.fa 11 (.t 10) 2), .s (.load 12 false 1 (.t 11)), .s (.mv 13 (.t 1)), .s (.bin 14 .and (.t 13) (.k (.v (.c (.int .i64 63))))), .s (.bin 15 .and (.t 12) (.t 14)), .s (.fa 16 (.t 2) 2), .s (.fa 17 (.t 16) 2), .s (.store 1 (.t 17) (.t 15))]) (.seq (.reg [.s (.load 18 true 6 (.t 2)), .s (.store 6 (.t 4) (.t 18))]) (.ret))))⟩
def c_spec_Weaken : Fun := ⟨247, [], fun ts K => as2 ts fun t0 t1 => arG pWordT t0 fun w => arC (pI .i64) t1 fun m => K (tG ((weakenW w m).tc [])) []⟩
theorem run_spec_Weaken (w : Word) (m : Int) : runK [c_spec_l4Open, c_spec_Bare] (0) [] pf_spec_Weaken [tG (w.tc []), tI .i64 m] fun r o => r = tG ((weakenW w m).tc []) ∧ o = [] := by
  conv => whnf
  repeat' (first | (refine sel_i (fun h => ?_) (fun h => ?_) <;> conv => whnf) | (refine chk_c ?_ ?_ <;> conv => whnf) | (refine And.intro ?_ rfl) | (refine And.intro ?_ ?_ <;> conv => whnf))
  all_goals (try simp only [etaKey, etaWord, andI_eq, Bool.not_eq_true', Bool.not_eq_false', decide_eq_true_eq, decide_eq_false_iff_not, bne_iff_ne, ne_eq, bne_eq_false_iff_eq, beq_iff_eq, beq_eq_false_iff_ne] at *)
  all_goals
    first
      | (rw [show weakenW w m = plainW w.n by simp_all [weakenW]]; rfl)
      | (rw [show weakenW w m = { w with key := { w.key with perms := andI w.key.perms (andI m 63) } } by simp_all [weakenW]]; rfl)
      | trace_state
theorem ok_spec_Weaken : FunOk Tryz.prog c_spec_Weaken := funOk (E := [c_spec_l4Open, c_spec_Bare]) (envOk_cons ok_spec_l4Open (envOk_cons ok_spec_Bare (envOk_nil))) mixd Tryz.func247 (pf := pf_spec_Weaken) (by kernel_rfl) fun ts K h => by
  obtain ⟨t0, t1, e0, h⟩ := as2_out h
  subst e0
  obtain ⟨w, e1, hq⟩ := arG_out rd_word h
  clear h
  subst e1
  have h := hq
  clear hq
  obtain ⟨m, e1, hq⟩ := arC_out (rd_int .i64) h
  clear h
  subst e1
  have h := hq
  clear hq
  exact ⟨_, _, h, Nat.le_of_ble_eq_true (show Nat.ble 2 Tryz.f247.ntmps = true by kernel_rfl), _, run_spec_Weaken w m⟩

def pf_impl_Weaken : PF := ⟨[.c 4 true 6], .seq (.reg [.s (.box 2 (.t 0)), .s (.alloc 4 [.int .i64 0, .ff, .int .i64 0, .int .i64 0, .int .i64 0, .int .i64 0])]) (.seq (.seq (.reg [.s (.load 5 true 6 (.t 2)), .s (.call (some 6) 214 [(.t 5)]), .s (.bnot 7 (.t 6))]) (.cond (.t 7) (.seq (.reg [.s (.load 8 true 6 (.t 2)), .s (.call (some 9) 212 [(.t 8)]), .s (.store 6 (.t 4) (.t 9))]) (.ret)) (.skip))) (.seq (.reg [.s (.fa 10 (.t 2) 2), .s (.fa 11 (.t 10) 2), .s (.load 12 false 1 (.t 11)), .s (.mv 13 (.t 1)), .s (.bin 14 .and (.t 13) (.k (.v (.c (.int .i64 63))))), .s (.bin 15 .and (.t 12) (.t 14)), .s (.fa 16 (.t 2) 2), .s (.fa 17 (.t 16) 2), .s (.store 1 (.t 17) (.t 15))]) (.seq (.reg [.s (.load 18 true 6 (.t 2)), .s (.store 6 (.t 4) (.t 18))]) (.ret))))⟩
def c_impl_Weaken : Fun := ⟨215, [], fun ts K => as2 ts fun t0 t1 => arG pWordT t0 fun w => arC (pI .i64) t1 fun m => K (tG ((weakenW w m).tc [])) []⟩
theorem run_impl_Weaken (w : Word) (m : Int) : runK [c_impl_Bare, c_impl_open] (0) [] pf_impl_Weaken [tG (w.tc []), tI .i64 m] fun r o => r = tG ((weakenW w m).tc []) ∧ o = [] := by
  conv => whnf
  repeat' (first | (refine sel_i (fun h => ?_) (fun h => ?_) <;> conv => whnf) | (refine chk_c ?_ ?_ <;> conv => whnf) | (refine And.intro ?_ rfl) | (refine And.intro ?_ ?_ <;> conv => whnf))
  all_goals (try simp only [etaKey, etaWord, andI_eq, Bool.not_eq_true', Bool.not_eq_false', decide_eq_true_eq, decide_eq_false_iff_not, bne_iff_ne, ne_eq, bne_eq_false_iff_eq, beq_iff_eq, beq_eq_false_iff_ne] at *)
  all_goals
    first
      | (rw [show weakenW w m = plainW w.n by simp_all [weakenW]]; rfl)
      | (rw [show weakenW w m = { w with key := { w.key with perms := andI w.key.perms (andI m 63) } } by simp_all [weakenW]]; rfl)
      | trace_state
theorem ok_impl_Weaken : FunOk Tryz.prog c_impl_Weaken := funOk (E := [c_impl_Bare, c_impl_open]) (envOk_cons ok_impl_Bare (envOk_cons ok_impl_open (envOk_nil))) mixd Tryz.func215 (pf := pf_impl_Weaken) (by kernel_rfl) fun ts K h => by
  obtain ⟨t0, t1, e0, h⟩ := as2_out h
  subst e0
  obtain ⟨w, e1, hq⟩ := arG_out rd_word h
  clear h
  subst e1
  have h := hq
  clear hq
  obtain ⟨m, e1, hq⟩ := arC_out (rd_int .i64) h
  clear h
  subst e1
  have h := hq
  clear hq
  exact ⟨_, _, h, Nat.le_of_ble_eq_true (show Nat.ble 2 Tryz.f215.ntmps = true by kernel_rfl), _, run_impl_Weaken w m⟩

def pf_spec_Point : PF := ⟨[.c 4 true 6], .seq (.reg [.s (.box 2 (.t 0)), .s (.alloc 4 [.int .i64 0, .ff, .int .i64 0, .int .i64 0, .int .i64 0, .int .i64 0])]) (.seq (.seq (.reg [.s (.load 5 true 6 (.t 2)), .s (.call (some 6) 230 [(.t 5)]), .s (.bnot 7 (.t 6))]) (.cond (.t 7) (.seq (.reg [.s (.mv 8 (.t 1)), .s (.call (some 9) 109 [(.t 8)]), .s (.store 6 (.t 4) (.t 9))]) (.ret)) (.skip))) (.seq (.reg [.s (.mv 10 (.t 1)), .s (.bin 11 .and (.t 10) (.k (.v (.c (.int .i64 65535))))), .s (.fa 12 (.t 2) 0), .s (.store 1 (.t 12) (.t 11))]) (.seq (.reg [.s (.load 13 true 6 (.t 2)), .s (.store 6 (.t 4) (.t 13))]) (.ret))))⟩
def c_spec_Point : Fun := ⟨197, [], fun ts K => as2 ts fun t0 t1 => arG pWordT t0 fun w => arC (pI .i64) t1 fun n => K (tG ((pointW w n).tc [])) []⟩
theorem run_spec_Point (w : Word) (n : Int) : runK [c_spec_Plain, c_spec_l4Open] (0) [] pf_spec_Point [tG (w.tc []), tI .i64 n] fun r o => r = tG ((pointW w n).tc []) ∧ o = [] := by
  conv => whnf
  repeat' (first | (refine sel_i (fun h => ?_) (fun h => ?_) <;> conv => whnf) | (refine chk_c ?_ ?_ <;> conv => whnf) | (refine And.intro ?_ rfl) | (refine And.intro ?_ ?_ <;> conv => whnf))
  all_goals (try simp only [etaKey, etaWord, andI_eq, Bool.not_eq_true', Bool.not_eq_false', decide_eq_true_eq, decide_eq_false_iff_not, bne_iff_ne, ne_eq, bne_eq_false_iff_eq, beq_iff_eq, beq_eq_false_iff_ne] at *)
  all_goals
    first
      | (rw [show pointW w n = plainW n by simp_all [pointW]]; rfl)
      | (rw [show pointW w n = ⟨andI n 65535, true, w.key⟩ by simp_all [pointW]]; rfl)
      | (rw [show pointW w n = ⟨andI n 65535, w.is, w.key⟩ by (have hi := openW_is h; simp_all [pointW])]; rfl)
      | trace_state
theorem ok_spec_Point : FunOk Tryz.prog c_spec_Point := funOk (E := [c_spec_Plain, c_spec_l4Open]) (envOk_cons ok_spec_Plain (envOk_cons ok_spec_l4Open (envOk_nil))) mixd Tryz.func197 (pf := pf_spec_Point) (by kernel_rfl) fun ts K h => by
  obtain ⟨t0, t1, e0, h⟩ := as2_out h
  subst e0
  obtain ⟨w, e1, hq⟩ := arG_out rd_word h
  clear h
  subst e1
  have h := hq
  clear hq
  obtain ⟨n, e1, hq⟩ := arC_out (rd_int .i64) h
  clear h
  subst e1
  have h := hq
  clear hq
  exact ⟨_, _, h, Nat.le_of_ble_eq_true (show Nat.ble 2 Tryz.f197.ntmps = true by kernel_rfl), _, run_spec_Point w n⟩

def pf_impl_Point : PF := ⟨[.c 4 true 6], .seq (.reg [.s (.box 2 (.t 0)), .s (.alloc 4 [.int .i64 0, .ff, .int .i64 0, .int .i64 0, .int .i64 0, .int .i64 0])]) (.seq (.reg [.s (.mv 6 (.t 1)), .s (.call (some 7) 113 [(.t 6)]), .s (.alloc 5 [.int .i64 0, .ff, .int .i64 0, .int .i64 0, .int .i64 0, .int .i64 0]), .s (.store 6 (.t 5) (.t 7))]) (.seq (.seq (.reg [.s (.load 8 true 6 (.t 2)), .s (.call (some 9) 214 [(.t 8)])]) (.cond (.t 9) (.rgd [] [.s (.fa 10 (.t 2) 2), .s (.load 11 true 4 (.t 10)), .s (.fa 12 (.t 5) 1), .s (.store 1 (.t 12) (.k (.v (.c .tt)))), .s (.fa 13 (.t 5) 2), .s (.store 4 (.t 13) (.t 11))] (.tk 0 (.tk 2 (.alt 1 false (.one 3 true (.tk 4 (.one 5 true (.done (some [4, 5]))))) (.alt 3 true (.one 1 true (.tk 4 (.one 5 true (.done (some [4, 5]))))) (.nil)))))) (.skip))) (.seq (.reg [.s (.load 14 true 6 (.t 5)), .s (.store 6 (.t 4) (.t 14))]) (.ret))))⟩
def c_impl_Point : Fun := ⟨175, [], fun ts K => as2 ts fun t0 t1 => arG pWordT t0 fun w => arC (pI .i64) t1 fun n => K (tG ((pointW w n).tc [])) []⟩
theorem run_impl_Point (w : Word) (n : Int) : runK [c_impl_Plain, c_impl_open] (0) [] pf_impl_Point [tG (w.tc []), tI .i64 n] fun r o => r = tG ((pointW w n).tc []) ∧ o = [] := by
  conv => whnf
  repeat' (first | (refine sel_i (fun h => ?_) (fun h => ?_) <;> conv => whnf) | (refine chk_c ?_ ?_ <;> conv => whnf) | (refine And.intro ?_ rfl) | (refine And.intro ?_ ?_ <;> conv => whnf))
  all_goals (try simp only [etaKey, etaWord, andI_eq, Bool.not_eq_true', Bool.not_eq_false', decide_eq_true_eq, decide_eq_false_iff_not, bne_iff_ne, ne_eq, bne_eq_false_iff_eq, beq_iff_eq, beq_eq_false_iff_ne] at *)
  all_goals
    first
      | (rw [show pointW w n = plainW n by simp_all [pointW]]; rfl)
      | (rw [show pointW w n = ⟨andI n 65535, true, w.key⟩ by simp_all [pointW]]; rfl)
      | (rw [show pointW w n = ⟨andI n 65535, w.is, w.key⟩ by (have hi := openW_is h; simp_all [pointW])]; rfl)
      | trace_state
theorem ok_impl_Point : FunOk Tryz.prog c_impl_Point := funOk (E := [c_impl_Plain, c_impl_open]) (envOk_cons ok_impl_Plain (envOk_cons ok_impl_open (envOk_nil))) mixd Tryz.func175 (pf := pf_impl_Point) (by kernel_rfl) fun ts K h => by
  obtain ⟨t0, t1, e0, h⟩ := as2_out h
  subst e0
  obtain ⟨w, e1, hq⟩ := arG_out rd_word h
  clear h
  subst e1
  have h := hq
  clear hq
  obtain ⟨n, e1, hq⟩ := arC_out (rd_int .i64) h
  clear h
  subst e1
  have h := hq
  clear hq
  exact ⟨_, _, h, Nat.le_of_ble_eq_true (show Nat.ble 2 Tryz.f175.ntmps = true by kernel_rfl), _, run_impl_Point w n⟩

def pf_spec_l4Sealer : PF := ⟨[.t 2], .seq (.reg [.s (.box 1 (.t 0)), .s (.mv 2 (.k (.v (.c .ff))))]) (.seq (.reg [.s (.load 3 true 6 (.t 1)), .s (.call (some 4) 230 [(.t 3)]), .s (.mv 5 (.t 4)), .g 5 true (some 6) (.fa 6 (.t 1) 2), .g 5 true (some 7) (.fa 7 (.t 6) 2), .g 5 true (some 8) (.load 8 false 1 (.t 7)), .g 5 true (some 9) (.bin 9 .and (.t 8) (.k (.v (.c (.int .i64 32))))), .g 5 true (some 10) (.bin 10 .neq (.t 9) (.k (.v (.c (.int .i64 0))))), .s (.pick 11 (.t 5) (.t 10) (.k (.v (.c .ff)))), .s (.mv 12 (.t 11)), .g 12 true (some 13) (.fa 13 (.t 1) 0), .g 12 true (some 14) (.load 14 false 1 (.t 13)), .g 12 true (some 15) (.fa 15 (.t 1) 2), .g 12 true (some 16) (.fa 16 (.t 15) 0), .g 12 true (some 17) (.load 17 false 1 (.t 16)), .g 12 true (some 18) (.bin 18 .geq (.t 14) (.t 17)), .s (.pick 19 (.t 12) (.t 18) (.k (.v (.c .ff)))), .s (.mv 20 (.t 19)), .g 20 true (some 21) (.fa 21 (.t 1) 0), .g 20 true (some 22) (.load 22 false 1 (.t 21)), .g 20 true (some 23) (.fa 23 (.t 1) 2), .g 20 true (some 24) (.fa 24 (.t 23) 1), .g 20 true (some 25) (.load 25 false 1 (.t 24)), .g 20 true (some 26) (.bin 26 .lss (.t 22) (.t 25)), .s (.pick 27 (.t 20) (.t 26) (.k (.v (.c .ff)))), .s (.mv 28 (.t 27)), .g 28 true (some 29) (.fa 29 (.t 1) 0), .g 28 true (some 30) (.load 30 false 1 (.t 29)), .g 28 true (some 31) (.call (some 31) 77 [(.t 30), (.k (.v (.c (.int .i64 1)))), (.k (.v (.c (.int .i64 7))))]), .s (.pick 32 (.t 28) (.t 31) (.k (.v (.c .ff)))), .s (.mv 2 (.t 32))]) (.ret))⟩
def c_spec_l4Sealer : Fun := ⟨266, [], fun ts K => as1 ts fun t0 => arG pWordT t0 fun y => K (tB (sealsB y)) []⟩
theorem run_spec_l4Sealer (y : Word) : runK [c_spec_l1In, c_spec_l4Open] (0) [] pf_spec_l4Sealer [tG (y.tc [])] fun r o => r = tB (sealsB y) ∧ o = [] := by
  conv => whnf
  repeat' (first | (refine sel_i (fun h => ?_) (fun h => ?_) <;> conv => whnf) | (refine chk_c ?_ ?_ <;> conv => whnf) | (refine And.intro ?_ rfl) | (refine And.intro ?_ ?_ <;> conv => whnf))
  all_goals (try simp only [etaKey, etaWord, andI_eq, Bool.not_eq_true', Bool.not_eq_false', decide_eq_true_eq, decide_eq_false_iff_not, bne_iff_ne, ne_eq, bne_eq_false_iff_eq, beq_iff_eq, beq_eq_false_iff_ne] at *)
  all_goals first | (simp_all [sealsB]; done) | (simp_all [sealsB]; omega) | trace_state
theorem ok_spec_l4Sealer : FunOk Tryz.prog c_spec_l4Sealer := funOk (E := [c_spec_l1In, c_spec_l4Open]) (envOk_cons ok_spec_l1In (envOk_cons ok_spec_l4Open (envOk_nil))) mixd Tryz.func266 (pf := pf_spec_l4Sealer) (by kernel_rfl) fun ts K h => by
  obtain ⟨t0, e0, h⟩ := as1_out h
  subst e0
  obtain ⟨y, e1, hq⟩ := arG_out rd_word h
  clear h
  subst e1
  have h := hq
  clear hq
  exact ⟨_, _, h, Nat.le_of_ble_eq_true (show Nat.ble 1 Tryz.f266.ntmps = true by kernel_rfl), _, run_spec_l4Sealer y⟩

def pf_impl_seals : PF := ⟨[.t 2], .seq (.reg [.s (.box 1 (.t 0)), .s (.mv 2 (.k (.v (.c .ff))))]) (.seq (.reg [.s (.load 3 true 6 (.t 1)), .s (.call (some 4) 214 [(.t 3)]), .s (.mv 5 (.t 4)), .g 5 true (some 6) (.fa 6 (.t 1) 2), .g 5 true (some 7) (.fa 7 (.t 6) 2), .g 5 true (some 8) (.load 8 false 1 (.t 7)), .g 5 true (some 9) (.bin 9 .and (.t 8) (.k (.v (.c (.int .i64 32))))), .g 5 true (some 10) (.bin 10 .neq (.t 9) (.k (.v (.c (.int .i64 0))))), .s (.pick 11 (.t 5) (.t 10) (.k (.v (.c .ff)))), .s (.mv 12 (.t 11)), .g 12 true (some 13) (.fa 13 (.t 1) 0), .g 12 true (some 14) (.load 14 false 1 (.t 13)), .g 12 true (some 15) (.fa 15 (.t 1) 2), .g 12 true (some 16) (.fa 16 (.t 15) 0), .g 12 true (some 17) (.load 17 false 1 (.t 16)), .g 12 true (some 18) (.bin 18 .geq (.t 14) (.t 17)), .s (.pick 19 (.t 12) (.t 18) (.k (.v (.c .ff)))), .s (.mv 20 (.t 19)), .g 20 true (some 21) (.fa 21 (.t 1) 0), .g 20 true (some 22) (.load 22 false 1 (.t 21)), .g 20 true (some 23) (.fa 23 (.t 1) 2), .g 20 true (some 24) (.fa 24 (.t 23) 1), .g 20 true (some 25) (.load 25 false 1 (.t 24)), .g 20 true (some 26) (.bin 26 .lss (.t 22) (.t 25)), .s (.pick 27 (.t 20) (.t 26) (.k (.v (.c .ff)))), .s (.mv 28 (.t 27)), .g 28 true (some 29) (.fa 29 (.t 1) 0), .g 28 true (some 30) (.load 30 false 1 (.t 29)), .g 28 true (some 31) (.call (some 31) 60 [(.t 30), (.k (.v (.c (.int .i64 1)))), (.k (.v (.c (.int .i64 7))))]), .s (.pick 32 (.t 28) (.t 31) (.k (.v (.c .ff)))), .s (.mv 2 (.t 32))]) (.ret))⟩
def c_impl_seals : Fun := ⟨255, [], fun ts K => as1 ts fun t0 => arG pWordT t0 fun y => K (tB (sealsB y)) []⟩
theorem run_impl_seals (y : Word) : runK [c_impl_in, c_impl_open] (0) [] pf_impl_seals [tG (y.tc [])] fun r o => r = tB (sealsB y) ∧ o = [] := by
  conv => whnf
  repeat' (first | (refine sel_i (fun h => ?_) (fun h => ?_) <;> conv => whnf) | (refine chk_c ?_ ?_ <;> conv => whnf) | (refine And.intro ?_ rfl) | (refine And.intro ?_ ?_ <;> conv => whnf))
  all_goals (try simp only [etaKey, etaWord, andI_eq, Bool.not_eq_true', Bool.not_eq_false', decide_eq_true_eq, decide_eq_false_iff_not, bne_iff_ne, ne_eq, bne_eq_false_iff_eq, beq_iff_eq, beq_eq_false_iff_ne] at *)
  all_goals first | (simp_all [sealsB]; done) | (simp_all [sealsB]; omega) | trace_state
theorem ok_impl_seals : FunOk Tryz.prog c_impl_seals := funOk (E := [c_impl_in, c_impl_open]) (envOk_cons ok_impl_in (envOk_cons ok_impl_open (envOk_nil))) mixd Tryz.func255 (pf := pf_impl_seals) (by kernel_rfl) fun ts K h => by
  obtain ⟨t0, e0, h⟩ := as1_out h
  subst e0
  obtain ⟨y, e1, hq⟩ := arG_out rd_word h
  clear h
  subst e1
  have h := hq
  clear hq
  exact ⟨_, _, h, Nat.le_of_ble_eq_true (show Nat.ble 1 Tryz.f255.ntmps = true by kernel_rfl), _, run_impl_seals y⟩

def pf_spec_SealBy : PF := ⟨[.c 4 true 6], .seq (.reg [.s (.box 2 (.t 0)), .s (.box 3 (.t 1)), .s (.alloc 4 [.int .i64 0, .ff, .int .i64 0, .int .i64 0, .int .i64 0, .int .i64 0])]) (.seq (.seq (.reg [.s (.load 5 true 6 (.t 2)), .s (.call (some 6) 230 [(.t 5)]), .s (.bnot 7 (.t 6)), .s (.mv 8 (.t 7)), .g 8 false (some 9) (.load 9 true 6 (.t 3)), .g 8 false (some 10) (.call (some 10) 266 [(.t 9)]), .g 8 false (some 11) (.bnot 11 (.t 10)), .s (.pick 12 (.t 8) (.k (.v (.c .tt))) (.t 11))]) (.cond (.t 12) (.seq (.reg [.s (.load 13 true 6 (.t 2)), .s (.call (some 14) 233 [(.t 13)]), .s (.store 6 (.t 4) (.t 14))]) (.ret)) (.skip))) (.seq (.reg [.s (.fa 15 (.t 3) 0), .s (.load 16 false 1 (.t 15)), .s (.fa 17 (.t 2) 2), .s (.fa 18 (.t 17) 3), .s (.store 1 (.t 18) (.t 16))]) (.seq (.reg [.s (.load 19 true 6 (.t 2)), .s (.store 6 (.t 4) (.t 19))]) (.ret))))⟩
def c_spec_SealBy : Fun := ⟨249, [], fun ts K => as2 ts fun t0 t1 => arG pWordT t0 fun w => arG pWordT t1 fun y => K (tG ((sealBy w y).tc [])) []⟩
theorem run_spec_SealBy (w : Word) (y : Word) : runK [c_spec_l4Open, c_spec_Bare, c_spec_l4Sealer] (0) [] pf_spec_SealBy [tG (w.tc []), tG (y.tc [])] fun r o => r = tG ((sealBy w y).tc []) ∧ o = [] := by
  conv => whnf
  repeat' (first | (refine sel_i (fun h => ?_) (fun h => ?_) <;> conv => whnf) | (refine chk_c ?_ ?_ <;> conv => whnf) | (refine And.intro ?_ rfl) | (refine And.intro ?_ ?_ <;> conv => whnf))
  all_goals (try simp only [etaKey, etaWord, andI_eq, Bool.not_eq_true', Bool.not_eq_false', decide_eq_true_eq, decide_eq_false_iff_not, bne_iff_ne, ne_eq, bne_eq_false_iff_eq, beq_iff_eq, beq_eq_false_iff_ne] at *)
  all_goals
    first
      | (rw [show sealBy w y = plainW w.n by simp_all [sealBy]]; rfl)
      | (rw [show sealBy w y = { w with key := { w.key with sealed := y.n } } by simp_all [sealBy]]; rfl)
      | trace_state
theorem ok_spec_SealBy : FunOk Tryz.prog c_spec_SealBy := funOk (E := [c_spec_l4Open, c_spec_Bare, c_spec_l4Sealer]) (envOk_cons ok_spec_l4Open (envOk_cons ok_spec_Bare (envOk_cons ok_spec_l4Sealer (envOk_nil)))) mixd Tryz.func249 (pf := pf_spec_SealBy) (by kernel_rfl) fun ts K h => by
  obtain ⟨t0, t1, e0, h⟩ := as2_out h
  subst e0
  obtain ⟨w, e1, hq⟩ := arG_out rd_word h
  clear h
  subst e1
  have h := hq
  clear hq
  obtain ⟨y, e1, hq⟩ := arG_out rd_word h
  clear h
  subst e1
  have h := hq
  clear hq
  exact ⟨_, _, h, Nat.le_of_ble_eq_true (show Nat.ble 2 Tryz.f249.ntmps = true by kernel_rfl), _, run_spec_SealBy w y⟩

def pf_impl_SealBy : PF := ⟨[.c 4 true 6], .seq (.reg [.s (.box 2 (.t 0)), .s (.box 3 (.t 1)), .s (.alloc 4 [.int .i64 0, .ff, .int .i64 0, .int .i64 0, .int .i64 0, .int .i64 0])]) (.seq (.seq (.reg [.s (.load 5 true 6 (.t 2)), .s (.call (some 6) 214 [(.t 5)]), .s (.bnot 7 (.t 6)), .s (.mv 8 (.t 7)), .g 8 false (some 9) (.load 9 true 6 (.t 3)), .g 8 false (some 10) (.call (some 10) 255 [(.t 9)]), .g 8 false (some 11) (.bnot 11 (.t 10)), .s (.pick 12 (.t 8) (.k (.v (.c .tt))) (.t 11))]) (.cond (.t 12) (.seq (.reg [.s (.load 13 true 6 (.t 2)), .s (.call (some 14) 212 [(.t 13)]), .s (.store 6 (.t 4) (.t 14))]) (.ret)) (.skip))) (.seq (.reg [.s (.fa 15 (.t 3) 0), .s (.load 16 false 1 (.t 15)), .s (.fa 17 (.t 2) 2), .s (.fa 18 (.t 17) 3), .s (.store 1 (.t 18) (.t 16))]) (.seq (.reg [.s (.load 19 true 6 (.t 2)), .s (.store 6 (.t 4) (.t 19))]) (.ret))))⟩
def c_impl_SealBy : Fun := ⟨217, [], fun ts K => as2 ts fun t0 t1 => arG pWordT t0 fun w => arG pWordT t1 fun y => K (tG ((sealBy w y).tc [])) []⟩
theorem run_impl_SealBy (w : Word) (y : Word) : runK [c_impl_Bare, c_impl_open, c_impl_seals] (0) [] pf_impl_SealBy [tG (w.tc []), tG (y.tc [])] fun r o => r = tG ((sealBy w y).tc []) ∧ o = [] := by
  conv => whnf
  repeat' (first | (refine sel_i (fun h => ?_) (fun h => ?_) <;> conv => whnf) | (refine chk_c ?_ ?_ <;> conv => whnf) | (refine And.intro ?_ rfl) | (refine And.intro ?_ ?_ <;> conv => whnf))
  all_goals (try simp only [etaKey, etaWord, andI_eq, Bool.not_eq_true', Bool.not_eq_false', decide_eq_true_eq, decide_eq_false_iff_not, bne_iff_ne, ne_eq, bne_eq_false_iff_eq, beq_iff_eq, beq_eq_false_iff_ne] at *)
  all_goals
    first
      | (rw [show sealBy w y = plainW w.n by simp_all [sealBy]]; rfl)
      | (rw [show sealBy w y = { w with key := { w.key with sealed := y.n } } by simp_all [sealBy]]; rfl)
      | trace_state
theorem ok_impl_SealBy : FunOk Tryz.prog c_impl_SealBy := funOk (E := [c_impl_Bare, c_impl_open, c_impl_seals]) (envOk_cons ok_impl_Bare (envOk_cons ok_impl_open (envOk_cons ok_impl_seals (envOk_nil)))) mixd Tryz.func217 (pf := pf_impl_SealBy) (by kernel_rfl) fun ts K h => by
  obtain ⟨t0, t1, e0, h⟩ := as2_out h
  subst e0
  obtain ⟨w, e1, hq⟩ := arG_out rd_word h
  clear h
  subst e1
  have h := hq
  clear hq
  obtain ⟨y, e1, hq⟩ := arG_out rd_word h
  clear h
  subst e1
  have h := hq
  clear hq
  exact ⟨_, _, h, Nat.le_of_ble_eq_true (show Nat.ble 2 Tryz.f217.ntmps = true by kernel_rfl), _, run_impl_SealBy w y⟩

def pf_spec_OpenBy : PF := ⟨[.c 4 true 6], .seq (.reg [.s (.box 2 (.t 0)), .s (.box 3 (.t 1)), .s (.alloc 4 [.int .i64 0, .ff, .int .i64 0, .int .i64 0, .int .i64 0, .int .i64 0])]) (.seq (.seq (.reg [.s (.load 5 true 6 (.t 2)), .s (.call (some 6) 140 [(.t 5)]), .s (.bnot 7 (.t 6)), .s (.mv 8 (.t 7)), .g 8 false (some 9) (.fa 9 (.t 2) 1), .g 8 false (some 10) (.load 10 false 1 (.t 9)), .g 8 false (some 11) (.bnot 11 (.t 10)), .s (.pick 12 (.t 8) (.k (.v (.c .tt))) (.t 11)), .s (.mv 13 (.t 12)), .g 13 false (some 14) (.load 14 true 6 (.t 3)), .g 13 false (some 15) (.call (some 15) 266 [(.t 14)]), .g 13 false (some 16) (.bnot 16 (.t 15)), .s (.pick 17 (.t 13) (.k (.v (.c .tt))) (.t 16)), .s (.mv 18 (.t 17)), .g 18 false (some 19) (.fa 19 (.t 2) 2), .g 18 false (some 20) (.fa 20 (.t 19) 3), .g 18 false (some 21) (.load 21 false 1 (.t 20)), .g 18 false (some 22) (.fa 22 (.t 3) 0), .g 18 false (some 23) (.load 23 false 1 (.t 22)), .g 18 false (some 24) (.bin 24 .neq (.t 21) (.t 23)), .s (.pick 25 (.t 18) (.k (.v (.c .tt))) (.t 24))]) (.cond (.t 25) (.seq (.reg [.s (.load 26 true 6 (.t 2)), .s (.call (some 27) 233 [(.t 26)]), .s (.store 6 (.t 4) (.t 27))]) (.ret)) (.skip))) (.seq (.reg [.s (.fa 28 (.t 2) 2), .s (.fa 29 (.t 28) 3), .s (.store 1 (.t 29) (.k (.v (.c (.int .i64 0)))))]) (.seq (.reg [.s (.load 30 true 6 (.t 2)), .s (.store 6 (.t 4) (.t 30))]) (.ret))))⟩
def c_spec_OpenBy : Fun := ⟨250, [], fun ts K => as2 ts fun t0 t1 => arG pWordT t0 fun w => arG pWordT t1 fun y => K (tG ((openBy w y).tc [])) []⟩
theorem run_spec_OpenBy (w : Word) (y : Word) : runK [c_spec_WordOk, c_spec_Bare, c_spec_l4Sealer] (0) [] pf_spec_OpenBy [tG (w.tc []), tG (y.tc [])] fun r o => r = tG ((openBy w y).tc []) ∧ o = [] := by
  conv => whnf
  repeat' (first | (refine sel_i (fun h => ?_) (fun h => ?_) <;> conv => whnf) | (refine chk_c ?_ ?_ <;> conv => whnf) | (refine And.intro ?_ rfl) | (refine And.intro ?_ ?_ <;> conv => whnf))
  all_goals (try simp only [etaKey, etaWord, andI_eq, Bool.not_eq_true', Bool.not_eq_false', decide_eq_true_eq, decide_eq_false_iff_not, bne_iff_ne, ne_eq, bne_eq_false_iff_eq, beq_iff_eq, beq_eq_false_iff_ne] at *)
  all_goals
    first
      | (rw [show openBy w y = plainW w.n by simp_all [openBy]]; rfl)
      | (rw [show openBy w y = { w with key := { w.key with sealed := 0 } } by simp_all [openBy]]; rfl)
      | trace_state
theorem ok_spec_OpenBy : FunOk Tryz.prog c_spec_OpenBy := funOk (E := [c_spec_WordOk, c_spec_Bare, c_spec_l4Sealer]) (envOk_cons ok_spec_WordOk (envOk_cons ok_spec_Bare (envOk_cons ok_spec_l4Sealer (envOk_nil)))) mixd Tryz.func250 (pf := pf_spec_OpenBy) (by kernel_rfl) fun ts K h => by
  obtain ⟨t0, t1, e0, h⟩ := as2_out h
  subst e0
  obtain ⟨w, e1, hq⟩ := arG_out rd_word h
  clear h
  subst e1
  have h := hq
  clear hq
  obtain ⟨y, e1, hq⟩ := arG_out rd_word h
  clear h
  subst e1
  have h := hq
  clear hq
  exact ⟨_, _, h, Nat.le_of_ble_eq_true (show Nat.ble 2 Tryz.f250.ntmps = true by kernel_rfl), _, run_spec_OpenBy w y⟩

def pf_impl_OpenBy : PF := ⟨[.c 4 true 6], .seq (.reg [.s (.box 2 (.t 0)), .s (.box 3 (.t 1)), .s (.alloc 4 [.int .i64 0, .ff, .int .i64 0, .int .i64 0, .int .i64 0, .int .i64 0])]) (.seq (.seq (.reg [.s (.load 5 true 6 (.t 2)), .s (.call (some 6) 65 [(.t 5)]), .s (.bnot 7 (.t 6)), .s (.mv 8 (.t 7)), .g 8 false (some 9) (.fa 9 (.t 2) 1), .g 8 false (some 10) (.load 10 false 1 (.t 9)), .g 8 false (some 11) (.bnot 11 (.t 10)), .s (.pick 12 (.t 8) (.k (.v (.c .tt))) (.t 11)), .s (.mv 13 (.t 12)), .g 13 false (some 14) (.load 14 true 6 (.t 3)), .g 13 false (some 15) (.call (some 15) 255 [(.t 14)]), .g 13 false (some 16) (.bnot 16 (.t 15)), .s (.pick 17 (.t 13) (.k (.v (.c .tt))) (.t 16)), .s (.mv 18 (.t 17)), .g 18 false (some 19) (.fa 19 (.t 2) 2), .g 18 false (some 20) (.fa 20 (.t 19) 3), .g 18 false (some 21) (.load 21 false 1 (.t 20)), .g 18 false (some 22) (.fa 22 (.t 3) 0), .g 18 false (some 23) (.load 23 false 1 (.t 22)), .g 18 false (some 24) (.bin 24 .neq (.t 21) (.t 23)), .s (.pick 25 (.t 18) (.k (.v (.c .tt))) (.t 24))]) (.cond (.t 25) (.seq (.reg [.s (.load 26 true 6 (.t 2)), .s (.call (some 27) 212 [(.t 26)]), .s (.store 6 (.t 4) (.t 27))]) (.ret)) (.skip))) (.seq (.reg [.s (.fa 28 (.t 2) 2), .s (.fa 29 (.t 28) 3), .s (.store 1 (.t 29) (.k (.v (.c (.int .i64 0)))))]) (.seq (.reg [.s (.load 30 true 6 (.t 2)), .s (.store 6 (.t 4) (.t 30))]) (.ret))))⟩
def c_impl_OpenBy : Fun := ⟨218, [], fun ts K => as2 ts fun t0 t1 => arG pWordT t0 fun w => arG pWordT t1 fun y => K (tG ((openBy w y).tc [])) []⟩
theorem run_impl_OpenBy (w : Word) (y : Word) : runK [c_impl_WordOk, c_impl_Bare, c_impl_seals] (0) [] pf_impl_OpenBy [tG (w.tc []), tG (y.tc [])] fun r o => r = tG ((openBy w y).tc []) ∧ o = [] := by
  conv => whnf
  repeat' (first | (refine sel_i (fun h => ?_) (fun h => ?_) <;> conv => whnf) | (refine chk_c ?_ ?_ <;> conv => whnf) | (refine And.intro ?_ rfl) | (refine And.intro ?_ ?_ <;> conv => whnf))
  all_goals (try simp only [etaKey, etaWord, andI_eq, Bool.not_eq_true', Bool.not_eq_false', decide_eq_true_eq, decide_eq_false_iff_not, bne_iff_ne, ne_eq, bne_eq_false_iff_eq, beq_iff_eq, beq_eq_false_iff_ne] at *)
  all_goals
    first
      | (rw [show openBy w y = plainW w.n by simp_all [openBy]]; rfl)
      | (rw [show openBy w y = { w with key := { w.key with sealed := 0 } } by simp_all [openBy]]; rfl)
      | trace_state
theorem ok_impl_OpenBy : FunOk Tryz.prog c_impl_OpenBy := funOk (E := [c_impl_WordOk, c_impl_Bare, c_impl_seals]) (envOk_cons ok_impl_WordOk (envOk_cons ok_impl_Bare (envOk_cons ok_impl_seals (envOk_nil)))) mixd Tryz.func218 (pf := pf_impl_OpenBy) (by kernel_rfl) fun ts K h => by
  obtain ⟨t0, t1, e0, h⟩ := as2_out h
  subst e0
  obtain ⟨w, e1, hq⟩ := arG_out rd_word h
  clear h
  subst e1
  have h := hq
  clear hq
  obtain ⟨y, e1, hq⟩ := arG_out rd_word h
  clear h
  subst e1
  have h := hq
  clear hq
  exact ⟨_, _, h, Nat.le_of_ble_eq_true (show Nat.ble 2 Tryz.f218.ntmps = true by kernel_rfl), _, run_impl_OpenBy w y⟩

theorem narrow_no {w : Word} {n : Int} (h : ¬ (openW w = true ∧ (0 ≤ n ∧ n ≤ 4096) ∧ boundsOk w.n (IntKind.i64.wrap (w.n + n)) = true)) : narrowW w n = plainW w.n := by
  unfold narrowW
  rw [if_neg]
  intro hh
  simp only [Bool.and_eq_true, inR_t] at hh
  exact h ⟨hh.1.1, hh.1.2, hh.2⟩
theorem narrow_yes {w : Word} {n : Int} (h : openW w = true ∧ (0 ≤ n ∧ n ≤ 4096) ∧ boundsOk w.n (IntKind.i64.wrap (w.n + n)) = true) : narrowW w n = if (wide w.n (IntKind.i64.wrap (w.n + n))).1 < w.key.base ∨ w.key.top < (wide w.n (IntKind.i64.wrap (w.n + n))).2 then plainW w.n else { w with key := { w.key with base := (wide w.n (IntKind.i64.wrap (w.n + n))).1, top := (wide w.n (IntKind.i64.wrap (w.n + n))).2 } } := by
  unfold narrowW
  rw [if_pos]
  simp only [Bool.and_eq_true, inR_t]
  exact ⟨⟨h.1, h.2.1⟩, h.2.2⟩

def pf_spec_Narrow : PF := ⟨[.c 4 true 6], .seq (.reg [.s (.box 2 (.t 0)), .s (.alloc 4 [.int .i64 0, .ff, .int .i64 0, .int .i64 0, .int .i64 0, .int .i64 0])]) (.seq (.seq (.reg [.s (.load 7 true 6 (.t 2)), .s (.call (some 8) 230 [(.t 7)]), .s (.bnot 9 (.t 8)), .s (.mv 10 (.t 9)), .g 10 false (some 11) (.mv 11 (.t 1)), .g 10 false (some 12) (.call (some 12) 77 [(.t 11), (.k (.v (.c (.int .i64 0)))), (.k (.v (.c (.int .i64 4096))))]), .g 10 false (some 13) (.bnot 13 (.t 12)), .s (.pick 14 (.t 10) (.k (.v (.c .tt))) (.t 13)), .s (.mv 15 (.t 14)), .g 15 false (some 16) (.fa 16 (.t 2) 0), .g 15 false (some 17) (.load 17 false 1 (.t 16)), .g 15 false (some 18) (.fa 18 (.t 2) 0), .g 15 false (some 19) (.load 19 false 1 (.t 18)), .g 15 false (some 20) (.mv 20 (.t 1)), .g 15 false (some 21) (.bin 21 .add (.t 19) (.t 20)), .g 15 false (some 22) (.call (some 22) 252 [(.t 17), (.t 21)]), .g 15 false (some 23) (.bnot 23 (.t 22)), .s (.pick 24 (.t 15) (.k (.v (.c .tt))) (.t 23))]) (.cond (.t 24) (.seq (.reg [.s (.load 25 true 6 (.t 2)), .s (.call (some 26) 233 [(.t 25)]), .s (.store 6 (.t 4) (.t 26))]) (.ret)) (.skip))) (.seq (.reg [.s (.fa 28 (.t 2) 0), .s (.load 29 false 1 (.t 28)), .s (.fa 30 (.t 2) 0), .s (.load 31 false 1 (.t 30)), .s (.mv 32 (.t 1)), .s (.bin 33 .add (.t 31) (.t 32)), .s (.call (some 34) 251 [(.t 29), (.t 33)]), .s (.mv 27 (.t 34)), .s (.ext 35 (.t 27) 0), .s (.ext 36 (.t 27) 1), .s (.mv 5 (.t 35)), .s (.mv 6 (.t 36))]) (.seq (.seq (.reg [.s (.mv 37 (.t 5)), .s (.fa 38 (.t 2) 2), .s (.fa 39 (.t 38) 0), .s (.load 40 false 1 (.t 39)), .s (.bin 41 .lss (.t 37) (.t 40)), .s (.mv 42 (.t 41)), .g 42 false (some 43) (.mv 43 (.t 6)), .g 42 false (some 44) (.fa 44 (.t 2) 2), .g 42 false (some 45) (.fa 45 (.t 44) 1), .g 42 false (some 46) (.load 46 false 1 (.t 45)), .g 42 false (some 47) (.bin 47 .gtr (.t 43) (.t 46)), .s (.pick 48 (.t 42) (.k (.v (.c .tt))) (.t 47))]) (.cond (.t 48) (.seq (.reg [.s (.load 49 true 6 (.t 2)), .s (.call (some 50) 233 [(.t 49)]), .s (.store 6 (.t 4) (.t 50))]) (.ret)) (.skip))) (.seq (.reg [.s (.mv 51 (.t 5)), .s (.fa 52 (.t 2) 2), .s (.fa 53 (.t 52) 0), .s (.store 1 (.t 53) (.t 51))]) (.seq (.reg [.s (.mv 54 (.t 6)), .s (.fa 55 (.t 2) 2), .s (.fa 56 (.t 55) 1), .s (.store 1 (.t 56) (.t 54))]) (.seq (.reg [.s (.load 57 true 6 (.t 2)), .s (.store 6 (.t 4) (.t 57))]) (.ret)))))))⟩
def c_spec_Narrow : Fun := ⟨248, [], fun ts K => as2 ts fun t0 t1 => arG pWordT t0 fun w => arC (pI .i64) t1 fun n => K (tG ((narrowW w n).tc [])) []⟩
theorem run_spec_Narrow (w : Word) (n : Int) : runK [c_spec_l1In, c_spec_l4Open, c_spec_Bare, c_spec_Wide, c_spec_BoundsOk] (0) [] pf_spec_Narrow [tG (w.tc []), tI .i64 n] fun r o => r = tG ((narrowW w n).tc []) ∧ o = [] := by
  by_cases hc : openW w = true ∧ (0 ≤ n ∧ n ≤ 4096) ∧ boundsOk w.n (IntKind.i64.wrap (w.n + n)) = true
  · rw [narrow_yes hc]
    obtain ⟨g1, g2, g3⟩ := hc
    conv => whnf
    repeat' (first | (refine sel_i (fun h => ?_) (fun h => ?_) <;> conv => whnf) | (refine chk_c ?_ ?_ <;> conv => whnf) | (refine And.intro ?_ rfl) | (refine And.intro ?_ ?_ <;> conv => whnf))
    all_goals (try simp only [etaKey, etaWord, inR_t, inR_f, g1, g3, Bool.not_eq_true', Bool.not_eq_false', Bool.true_eq_false, Bool.not_true, Bool.false_eq_true, decide_eq_true_eq, decide_eq_false_iff_not] at *)
    all_goals first
      | contradiction
      | (exfalso; omega)
      | (rw [if_pos (by omega)]; rfl)
      | (rw [if_neg (by omega)]; rfl)
      | trace_state
  · rw [narrow_no hc]
    conv => whnf
    repeat' (first | (refine sel_i (fun h => ?_) (fun h => ?_) <;> conv => whnf) | (refine chk_c ?_ ?_ <;> conv => whnf) | (refine And.intro ?_ rfl) | (refine And.intro ?_ ?_ <;> conv => whnf))
    all_goals (try simp only [etaKey, etaWord, inR_t, inR_f, Bool.not_eq_true', Bool.not_eq_false', decide_eq_true_eq, decide_eq_false_iff_not] at *)
    all_goals first
      | rfl
      | exact absurd ⟨by assumption, by omega, by assumption⟩ hc
      | trace_state
theorem ok_spec_Narrow : FunOk Tryz.prog c_spec_Narrow := funOk (E := [c_spec_l1In, c_spec_l4Open, c_spec_Bare, c_spec_Wide, c_spec_BoundsOk]) (envOk_cons ok_spec_l1In (envOk_cons ok_spec_l4Open (envOk_cons ok_spec_Bare (envOk_cons ok_spec_Wide (envOk_cons ok_spec_BoundsOk (envOk_nil)))))) mixd Tryz.func248 (pf := pf_spec_Narrow) (by kernel_rfl) fun ts K h => by
  obtain ⟨t0, t1, e0, h⟩ := as2_out h
  subst e0
  obtain ⟨w, e1, hq⟩ := arG_out rd_word h
  clear h
  subst e1
  have h := hq
  clear hq
  obtain ⟨n, e1, hq⟩ := arC_out (rd_int .i64) h
  clear h
  subst e1
  have h := hq
  clear hq
  exact ⟨_, _, h, Nat.le_of_ble_eq_true (show Nat.ble 2 Tryz.f248.ntmps = true by kernel_rfl), _, run_spec_Narrow w n⟩

def pf_impl_Narrow : PF := ⟨[.c 4 true 6], .seq (.reg [.s (.box 2 (.t 0)), .s (.alloc 4 [.int .i64 0, .ff, .int .i64 0, .int .i64 0, .int .i64 0, .int .i64 0])]) (.seq (.seq (.reg [.s (.load 7 true 6 (.t 2)), .s (.call (some 8) 214 [(.t 7)]), .s (.bnot 9 (.t 8)), .s (.mv 10 (.t 9)), .g 10 false (some 11) (.mv 11 (.t 1)), .g 10 false (some 12) (.bin 12 .lss (.t 11) (.k (.v (.c (.int .i64 0))))), .s (.pick 13 (.t 10) (.k (.v (.c .tt))) (.t 12)), .s (.mv 14 (.t 13)), .g 14 false (some 15) (.mv 15 (.t 1)), .g 14 false (some 16) (.bin 16 .gtr (.t 15) (.k (.v (.c (.int .i64 4096))))), .s (.pick 17 (.t 14) (.k (.v (.c .tt))) (.t 16)), .s (.mv 18 (.t 17)), .g 18 false (some 19) (.fa 19 (.t 2) 0), .g 18 false (some 20) (.load 20 false 1 (.t 19)), .g 18 false (some 21) (.fa 21 (.t 2) 0), .g 18 false (some 22) (.load 22 false 1 (.t 21)), .g 18 false (some 23) (.mv 23 (.t 1)), .g 18 false (some 24) (.bin 24 .add (.t 22) (.t 23)), .g 18 false (some 25) (.call (some 25) 211 [(.t 20), (.t 24)]), .g 18 false (some 26) (.bnot 26 (.t 25)), .s (.pick 27 (.t 18) (.k (.v (.c .tt))) (.t 26))]) (.cond (.t 27) (.seq (.reg [.s (.load 28 true 6 (.t 2)), .s (.call (some 29) 212 [(.t 28)]), .s (.store 6 (.t 4) (.t 29))]) (.ret)) (.skip))) (.seq (.reg [.s (.fa 31 (.t 2) 0), .s (.load 32 false 1 (.t 31)), .s (.fa 33 (.t 2) 0), .s (.load 34 false 1 (.t 33)), .s (.mv 35 (.t 1)), .s (.bin 36 .add (.t 34) (.t 35)), .s (.call (some 37) 210 [(.t 32), (.t 36)]), .s (.mv 30 (.t 37)), .s (.ext 38 (.t 30) 0), .s (.ext 39 (.t 30) 1), .s (.mv 5 (.t 38)), .s (.mv 6 (.t 39))]) (.seq (.seq (.reg [.s (.mv 40 (.t 5)), .s (.fa 41 (.t 2) 2), .s (.fa 42 (.t 41) 0), .s (.load 43 false 1 (.t 42)), .s (.bin 44 .lss (.t 40) (.t 43)), .s (.mv 45 (.t 44)), .g 45 false (some 46) (.mv 46 (.t 6)), .g 45 false (some 47) (.fa 47 (.t 2) 2), .g 45 false (some 48) (.fa 48 (.t 47) 1), .g 45 false (some 49) (.load 49 false 1 (.t 48)), .g 45 false (some 50) (.bin 50 .gtr (.t 46) (.t 49)), .s (.pick 51 (.t 45) (.k (.v (.c .tt))) (.t 50))]) (.cond (.t 51) (.seq (.reg [.s (.load 52 true 6 (.t 2)), .s (.call (some 53) 212 [(.t 52)]), .s (.store 6 (.t 4) (.t 53))]) (.ret)) (.skip))) (.seq (.reg [.s (.mv 54 (.t 5)), .s (.mv 55 (.t 6)), .s (.fa 56 (.t 2) 2), .s (.fa 57 (.t 56) 0), .s (.store 1 (.t 57) (.t 54)), .s (.fa 58 (.t 2) 2), .s (.fa 59 (.t 58) 1), .s (.store 1 (.t 59) (.t 55))]) (.seq (.reg [.s (.load 60 true 6 (.t 2)), .s (.store 6 (.t 4) (.t 60))]) (.ret))))))⟩
def c_impl_Narrow : Fun := ⟨216, [], fun ts K => as2 ts fun t0 t1 => arG pWordT t0 fun w => arC (pI .i64) t1 fun n => K (tG ((narrowW w n).tc [])) []⟩
theorem run_impl_Narrow (w : Word) (n : Int) : runK [c_impl_Wide, c_impl_BoundsOk, c_impl_Bare, c_impl_open] (0) [] pf_impl_Narrow [tG (w.tc []), tI .i64 n] fun r o => r = tG ((narrowW w n).tc []) ∧ o = [] := by
  by_cases hc : openW w = true ∧ (0 ≤ n ∧ n ≤ 4096) ∧ boundsOk w.n (IntKind.i64.wrap (w.n + n)) = true
  · rw [narrow_yes hc]
    obtain ⟨g1, g2, g3⟩ := hc
    conv => whnf
    repeat' (first | (refine sel_i (fun h => ?_) (fun h => ?_) <;> conv => whnf) | (refine chk_c ?_ ?_ <;> conv => whnf) | (refine And.intro ?_ rfl) | (refine And.intro ?_ ?_ <;> conv => whnf))
    all_goals (try simp only [etaKey, etaWord, inR_t, inR_f, g1, g3, Bool.not_eq_true', Bool.not_eq_false', Bool.true_eq_false, Bool.not_true, Bool.false_eq_true, decide_eq_true_eq, decide_eq_false_iff_not] at *)
    all_goals first
      | contradiction
      | (exfalso; omega)
      | (rw [if_pos (by omega)]; rfl)
      | (rw [if_neg (by omega)]; rfl)
      | trace_state
  · rw [narrow_no hc]
    conv => whnf
    repeat' (first | (refine sel_i (fun h => ?_) (fun h => ?_) <;> conv => whnf) | (refine chk_c ?_ ?_ <;> conv => whnf) | (refine And.intro ?_ rfl) | (refine And.intro ?_ ?_ <;> conv => whnf))
    all_goals (try simp only [etaKey, etaWord, inR_t, inR_f, Bool.not_eq_true', Bool.not_eq_false', decide_eq_true_eq, decide_eq_false_iff_not] at *)
    all_goals first
      | rfl
      | exact absurd ⟨by assumption, by omega, by assumption⟩ hc
      | trace_state
theorem ok_impl_Narrow : FunOk Tryz.prog c_impl_Narrow := funOk (E := [c_impl_Wide, c_impl_BoundsOk, c_impl_Bare, c_impl_open]) (envOk_cons ok_impl_Wide (envOk_cons ok_impl_BoundsOk (envOk_cons ok_impl_Bare (envOk_cons ok_impl_open (envOk_nil))))) mixd Tryz.func216 (pf := pf_impl_Narrow) (by kernel_rfl) fun ts K h => by
  obtain ⟨t0, t1, e0, h⟩ := as2_out h
  subst e0
  obtain ⟨w, e1, hq⟩ := arG_out rd_word h
  clear h
  subst e1
  have h := hq
  clear hq
  obtain ⟨n, e1, hq⟩ := arC_out (rd_int .i64) h
  clear h
  subst e1
  have h := hq
  clear hq
  exact ⟨_, _, h, Nat.le_of_ble_eq_true (show Nat.ble 2 Tryz.f216.ntmps = true by kernel_rfl), _, run_impl_Narrow w n⟩
end Go.Pi
