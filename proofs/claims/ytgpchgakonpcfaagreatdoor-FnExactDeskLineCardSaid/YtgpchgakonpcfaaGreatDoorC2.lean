/- Contracts of functions, each out of its run by PI. No conditions. -/
import Derived.Test.YtgpchgakonpcfaaGreatDoorC1
namespace Go.Pi
open Go.Proofs
set_option linter.unusedVariables false
set_option linter.unusedSimpArgs false
set_option maxRecDepth 100000
attribute [local irreducible] iterN
def pf_i_MemoryOk_1 : PF := ⟨[.t 2], .r [.box 1 0, .mv 2 .F] (.r [.L 3 6 1, .c 4 65 [3], .bnot 5 4, .m 2 5] .ret)⟩
def c_i_MemoryOk_1 : Fun := ⟨160, [], fun ts K => as1 ts fun t0 => arG pWordT t0 fun w => K (tB (!wordOk w)) []⟩
theorem run_i_MemoryOk_1 (w : Word) : runK [c_i_WordOk] (0) [] pf_i_MemoryOk_1 [tG (w.tc [])] fun r o => r = tB (!wordOk w) ∧ o = [] := by
  conv => whnf
  repeat' (first
    | exact rfl
    | exact trivial
    | (refine sel_i (fun h => ?_) (fun h => ?_) <;> conv => whnf)
    | (refine chk_c ?_ ?_ <;> conv => whnf)
    | (refine And.intro ?_ ?_ <;> conv => whnf))
theorem ok_i_MemoryOk_1 : FunOk Tryz.prog c_i_MemoryOk_1 := funOk (eK ok_i_WordOk eN) mixd Tryz.func160 (pf := pf_i_MemoryOk_1) (by kernel_rfl) fun ts K h => by
  obtain ⟨t0, rfl, q0⟩ := as1_out h
  obtain ⟨w, rfl, q1⟩ := arG_out rd_word q0
  exact ⟨_, _, q1, nb 1 Tryz.f160 (by kernel_rfl), _, run_i_MemoryOk_1 w⟩

def pf_i_wordsOk_1 : PF := ⟨[.t 2], .r [.box 1 0, .mv 2 .F] (.r [.L 3 6 1, .c 4 65 [3], .bnot 5 4, .m 2 5] .ret)⟩
def c_i_wordsOk_1 : Fun := ⟨159, [], fun ts K => as1 ts fun t0 => arG pWordT t0 fun w => K (tB (!wordOk w)) []⟩
theorem run_i_wordsOk_1 (w : Word) : runK [c_i_WordOk] (0) [] pf_i_wordsOk_1 [tG (w.tc [])] fun r o => r = tB (!wordOk w) ∧ o = [] := by
  conv => whnf
  repeat' (first
    | exact rfl
    | exact trivial
    | (refine sel_i (fun h => ?_) (fun h => ?_) <;> conv => whnf)
    | (refine chk_c ?_ ?_ <;> conv => whnf)
    | (refine And.intro ?_ ?_ <;> conv => whnf))
theorem ok_i_wordsOk_1 : FunOk Tryz.prog c_i_wordsOk_1 := funOk (eK ok_i_WordOk eN) mixd Tryz.func159 (pf := pf_i_wordsOk_1) (by kernel_rfl) fun ts K h => by
  obtain ⟨t0, rfl, q0⟩ := as1_out h
  obtain ⟨w, rfl, q1⟩ := arG_out rd_word q0
  exact ⟨_, _, q1, nb 1 Tryz.f159 (by kernel_rfl), _, run_i_wordsOk_1 w⟩

def lb_slices_IndexFunc_Word_0 : PC := .r [.bin 9 .lss 8 7] (.seq (.cond 9 .skip (.exit 0)) (.seq (.blk 1 (.r [.m 10 8, .m 5 10] (.r [.m 11 1, .m 12 0, .m 13 5, .ia 14 .word 12 13, .L 15 6 14, .s (.callv (some 16) 11 [15])] (.cond 16 (.r [.m 17 5, .m 4 17] .ret) .skip)))) (.reg [.bin 18 .add 8 (.i 1), .m 8 18])))
def pf_slices_IndexFunc_Word : PF := ⟨[.t 4], .r [.mv 4 (.i 0)] (.seq (.r [.m 6 0, .len 7 false 6, .mv 8 (.i 0)] (.blk 0 (.loop [0, 1, 7, 8] lb_slices_IndexFunc_Word_0))) (.r [.mv 4 (.i (-1))] .ret))⟩
def c_slices_IndexFunc_Word__impl_MemoryOk_1 : Fun := ⟨202, [], fun ts K => as2 ts fun t0 t1 => arC (pL .word) t0 fun xs => arF0 160 t1 fun g => chk (xs.length ≤ 2147483647) (K (tN (idxOf (fun w => !wordOk w) xs)) [])⟩
theorem run_slices_IndexFunc_Word__impl_MemoryOk_1 (xs : List (FT.Ty .word)) (g : Unit) (hpre : xs.length ≤ 2147483647) : runK [c_i_MemoryOk_1] (xs.length + 1) [] pf_slices_IndexFunc_Word [tL false .word xs, .fn 160 []] fun r o => r = tN (idxOf (fun w => !wordOk w) xs) ∧ o = [] := by
  conv => whnf
  refine loop (α := Nat) (fun i => ⟨[(0, .v (.c (.sl false .word 0))), (1, .fn 160 []), (7, .v (.c (.int .i64 (xs.length : Int)))), (8, .v (.c (.int .i64 (i : Int))))], [(0, some (.flat false .word none xs))], nums.tail, [], false, []⟩)
      (fun i => i ≤ xs.length ∧ idxOf (fun w => !wordOk w) xs = idxGo (fun w => !wordOk w) (xs.drop i) i) (fun i => xs.length - i) (fun i R hI hR => ?_) 0 _ ⟨by simp, rfl⟩ (by simp)
  obtain ⟨hi, hx⟩ := hI
  conv => whnf
  refine sel_i (fun h2 => ?_) (fun h2 => ?_)
  · have hlt : i < xs.length := by simp at h2; omega
    conv => whnf
    repeat (refine chk_i (by first | omega | (simp; omega)) ?_; conv => whnf)
    refine sel_i (fun h3 => ?_) (fun h3 => ?_)
    · conv => whnf
      rw [hx, idxGo_yes (z := FT.zero .word) hlt (by first | (simp only [keyEq] at h3; exact h3) | (simpa using h3))]
      exact ⟨rfl, rfl⟩
    · conv => whnf
      rw [wrap_id (n := (i : Int) + 1) (by omega) (by omega)]
      exact hR (i + 1) ⟨by omega, by rw [hx, idxGo_no (z := FT.zero .word) hlt (by first | (simp only [keyEq] at h3; exact h3) | (simpa using h3))]⟩ (by omega)
  · conv => whnf
    rw [hx, idxGo_end (by simp at h2; omega)]
    exact ⟨rfl, rfl⟩
theorem ok_slices_IndexFunc_Word__impl_MemoryOk_1 : FunOk Tryz.prog c_slices_IndexFunc_Word__impl_MemoryOk_1 := funOk (eK ok_i_MemoryOk_1 eN) mixd Tryz.func202 (pf := pf_slices_IndexFunc_Word) (by kernel_rfl) fun ts K h => by
  obtain ⟨t0, t1, rfl, q0⟩ := as2_out h
  obtain ⟨xs, rfl, q1⟩ := arC_out (rd_l .word) q0
  obtain ⟨g, rfl, q2⟩ := arF0_out q1
  obtain ⟨hpre, hk⟩ := chk_o q2
  exact ⟨_, _, hk, nb 2 Tryz.f202 (by kernel_rfl), _, run_slices_IndexFunc_Word__impl_MemoryOk_1 xs g hpre⟩

def pf_slices_ContainsFunc_Word : PF := ⟨[.t 4], .r [.mv 4 .F] (.r [.m 5 0, .m 6 1, .c 7 202 [5, 6], .bin 8 .geq 7 (.i 0), .m 4 8] .ret)⟩
def c_slices_ContainsFunc_Word__impl_MemoryOk_1 : Fun := ⟨158, [], fun ts K => as2 ts fun t0 t1 => arC (pL .word) t0 fun xs => arF0 160 t1 fun g => chk (xs.length ≤ 2147483647) (K (tB (xs.any (fun w => !wordOk w))) [])⟩
theorem run_slices_ContainsFunc_Word__impl_MemoryOk_1 (xs : List (FT.Ty .word)) (g : Unit) (hpre : xs.length ≤ 2147483647) : runK [c_slices_IndexFunc_Word__impl_MemoryOk_1, c_i_MemoryOk_1] (0) [] pf_slices_ContainsFunc_Word [tL false .word xs, .fn 160 []] fun r o => r = tB (xs.any (fun w => !wordOk w)) ∧ o = [] := by
  conv => whnf
  repeat' (first | ((first | refine sel_i (fun h => ?_) (fun h => ?_) | refine chk_c ?_ ?_) <;> conv => whnf) | refine And.intro ?_ rfl | (refine And.intro ?_ ?_ <;> conv => whnf))
  all_goals first | (refine ⟨?_⟩; exact hpre) | exact hpre | (rw [← idxOf_any]; rfl) | (rw [← idxOf_any])
theorem ok_slices_ContainsFunc_Word__impl_MemoryOk_1 : FunOk Tryz.prog c_slices_ContainsFunc_Word__impl_MemoryOk_1 := funOk (eK ok_slices_IndexFunc_Word__impl_MemoryOk_1 (eK ok_i_MemoryOk_1 eN)) mixd Tryz.func158 (pf := pf_slices_ContainsFunc_Word) (by kernel_rfl) fun ts K h => by
  obtain ⟨t0, t1, rfl, q0⟩ := as2_out h
  obtain ⟨xs, rfl, q1⟩ := arC_out (rd_l .word) q0
  obtain ⟨g, rfl, q2⟩ := arF0_out q1
  obtain ⟨hpre, hk⟩ := chk_o q2
  exact ⟨_, _, hk, nb 2 Tryz.f158 (by kernel_rfl), _, run_slices_ContainsFunc_Word__impl_MemoryOk_1 xs g hpre⟩

def c_slices_IndexFunc_Word__impl_wordsOk_1 : Fun := ⟨202, [], fun ts K => as2 ts fun t0 t1 => arC (pL .word) t0 fun xs => arF0 159 t1 fun g => chk (xs.length ≤ 2147483647) (K (tN (idxOf (fun w => !wordOk w) xs)) [])⟩
theorem run_slices_IndexFunc_Word__impl_wordsOk_1 (xs : List (FT.Ty .word)) (g : Unit) (hpre : xs.length ≤ 2147483647) : runK [c_i_wordsOk_1] (xs.length + 1) [] pf_slices_IndexFunc_Word [tL false .word xs, .fn 159 []] fun r o => r = tN (idxOf (fun w => !wordOk w) xs) ∧ o = [] := by
  conv => whnf
  refine loop (α := Nat) (fun i => ⟨[(0, .v (.c (.sl false .word 0))), (1, .fn 159 []), (7, .v (.c (.int .i64 (xs.length : Int)))), (8, .v (.c (.int .i64 (i : Int))))], [(0, some (.flat false .word none xs))], nums.tail, [], false, []⟩)
      (fun i => i ≤ xs.length ∧ idxOf (fun w => !wordOk w) xs = idxGo (fun w => !wordOk w) (xs.drop i) i) (fun i => xs.length - i) (fun i R hI hR => ?_) 0 _ ⟨by simp, rfl⟩ (by simp)
  obtain ⟨hi, hx⟩ := hI
  conv => whnf
  refine sel_i (fun h2 => ?_) (fun h2 => ?_)
  · have hlt : i < xs.length := by simp at h2; omega
    conv => whnf
    repeat (refine chk_i (by first | omega | (simp; omega)) ?_; conv => whnf)
    refine sel_i (fun h3 => ?_) (fun h3 => ?_)
    · conv => whnf
      rw [hx, idxGo_yes (z := FT.zero .word) hlt (by first | (simp only [keyEq] at h3; exact h3) | (simpa using h3))]
      exact ⟨rfl, rfl⟩
    · conv => whnf
      rw [wrap_id (n := (i : Int) + 1) (by omega) (by omega)]
      exact hR (i + 1) ⟨by omega, by rw [hx, idxGo_no (z := FT.zero .word) hlt (by first | (simp only [keyEq] at h3; exact h3) | (simpa using h3))]⟩ (by omega)
  · conv => whnf
    rw [hx, idxGo_end (by simp at h2; omega)]
    exact ⟨rfl, rfl⟩
theorem ok_slices_IndexFunc_Word__impl_wordsOk_1 : FunOk Tryz.prog c_slices_IndexFunc_Word__impl_wordsOk_1 := funOk (eK ok_i_wordsOk_1 eN) mixd Tryz.func202 (pf := pf_slices_IndexFunc_Word) (by kernel_rfl) fun ts K h => by
  obtain ⟨t0, t1, rfl, q0⟩ := as2_out h
  obtain ⟨xs, rfl, q1⟩ := arC_out (rd_l .word) q0
  obtain ⟨g, rfl, q2⟩ := arF0_out q1
  obtain ⟨hpre, hk⟩ := chk_o q2
  exact ⟨_, _, hk, nb 2 Tryz.f202 (by kernel_rfl), _, run_slices_IndexFunc_Word__impl_wordsOk_1 xs g hpre⟩

def c_slices_ContainsFunc_Word__impl_wordsOk_1 : Fun := ⟨158, [], fun ts K => as2 ts fun t0 t1 => arC (pL .word) t0 fun xs => arF0 159 t1 fun g => chk (xs.length ≤ 2147483647) (K (tB (xs.any (fun w => !wordOk w))) [])⟩
theorem run_slices_ContainsFunc_Word__impl_wordsOk_1 (xs : List (FT.Ty .word)) (g : Unit) (hpre : xs.length ≤ 2147483647) : runK [c_slices_IndexFunc_Word__impl_wordsOk_1, c_i_wordsOk_1] (0) [] pf_slices_ContainsFunc_Word [tL false .word xs, .fn 159 []] fun r o => r = tB (xs.any (fun w => !wordOk w)) ∧ o = [] := by
  conv => whnf
  repeat' (first | ((first | refine sel_i (fun h => ?_) (fun h => ?_) | refine chk_c ?_ ?_) <;> conv => whnf) | refine And.intro ?_ rfl | (refine And.intro ?_ ?_ <;> conv => whnf))
  all_goals first | (refine ⟨?_⟩; exact hpre) | exact hpre | (rw [← idxOf_any]; rfl) | (rw [← idxOf_any])
theorem ok_slices_ContainsFunc_Word__impl_wordsOk_1 : FunOk Tryz.prog c_slices_ContainsFunc_Word__impl_wordsOk_1 := funOk (eK ok_slices_IndexFunc_Word__impl_wordsOk_1 (eK ok_i_wordsOk_1 eN)) mixd Tryz.func158 (pf := pf_slices_ContainsFunc_Word) (by kernel_rfl) fun ts K h => by
  obtain ⟨t0, t1, rfl, q0⟩ := as2_out h
  obtain ⟨xs, rfl, q1⟩ := arC_out (rd_l .word) q0
  obtain ⟨g, rfl, q2⟩ := arF0_out q1
  obtain ⟨hpre, hk⟩ := chk_o q2
  exact ⟨_, _, hk, nb 2 Tryz.f158 (by kernel_rfl), _, run_slices_ContainsFunc_Word__impl_wordsOk_1 xs g hpre⟩

def memoryOk (m : Mem) : Bool := decide (m.words.length = 24) && decide (m.gone.length = 24) && m.words.all wordOk
def stateOk (s : State) : Bool := decide (s.regs.length = 8) && s.regs.all wordOk && wordOk s.pc && memoryOk s.mem && inR s.trap 0 5
theorem all_any {α : Type} (p : α → Bool) (xs : List α) : xs.any (fun w => !p w) = !xs.all p := by
  induction xs with
  | nil => rfl
  | cons x xs ih => simp [ih]
theorem all_end {α : Type} {p : α → Bool} {xs : List α} {i : Nat} (h : xs.length ≤ i) (hi : (xs.drop i).all p = xs.all p) : xs.all p = true := by
  rw [← hi, List.drop_eq_nil_of_le h]; rfl
theorem all_no {α : Type} {p : α → Bool} {z : α} {xs : List α} {i : Nat} (h : i < xs.length) (hp : p (xs.getD i z) = false) (hi : (xs.drop i).all p = xs.all p) : xs.all p = false := by
  have e : xs.getD i z = xs[i] := by simp [List.getD_eq_getElem?_getD, h]
  rw [e] at hp; rw [← hi, List.drop_eq_getElem_cons h, List.all_cons, hp]; rfl
theorem all_yes {α : Type} {p : α → Bool} {z : α} {xs : List α} {i : Nat} (h : i < xs.length) (hp : p (xs.getD i z) = true) (hi : (xs.drop i).all p = xs.all p) : (xs.drop (i + 1)).all p = xs.all p := by
  have e : xs.getD i z = xs[i] := by simp [List.getD_eq_getElem?_getD, h]
  rw [e] at hp; rw [← hi, List.drop_eq_getElem_cons h, List.all_cons, hp]; rfl
theorem eqLen (n k : Nat) : ((n : Int) == (k : Int)) = decide (n = k) := by
  rw [Bool.eq_iff_iff]; simp; omega
theorem neLen (n k : Nat) : ((n : Int) != (k : Int)) = !decide (n = k) := by
  rw [bne, eqLen]
theorem eqLen8 (n : Nat) : ((n : Int) == 8) = decide (n = 8) := eqLen n 8
theorem eqLen24 (n : Nat) : ((n : Int) == 24) = decide (n = 24) := eqLen n 24
theorem neLen24 (n : Nat) : ((n : Int) != 24) = !decide (n = 24) := neLen n 24

def pf_i_MemoryOk : PF := ⟨[.t 2], .r [.box 1 0, .mv 2 .F] (.r [.f 3 1 0, .l 4 1 3, .len 5 false 4, .bin 6 .eql 5 (.i 24), .m 7 6, .y 7 8 (.fa 8 1 1), .y 7 9 (.load 9 false 1 8), .y 7 10 (.len 10 false 9), .y 7 11 (.bin 11 .eql 10 (.i 24)), .pick 12 7 11 .F, .m 13 12, .y 13 14 (.fa 14 1 0), .y 13 15 (.load 15 false 1 14), .y 13 16 (.call (some 16) 158 [15, (.k (.fn 160 []))]), .y 13 17 (.bnot 17 16), .pick 18 13 17 .F, .m 2 18] .ret)⟩
def c_i_MemoryOk : Fun := ⟨111, [], fun ts K => as1 ts fun t0 => arG pMemT t0 fun m => chk (LMem m 2147483647) (K (tB (memoryOk m)) [])⟩
theorem run_i_MemoryOk (m : Mem) (hpre : LMem m 2147483647) : runK [c_slices_ContainsFunc_Word__impl_MemoryOk_1, c_i_MemoryOk_1] (0) [] pf_i_MemoryOk [tG (m.tc false [])] fun r o => r = tB (memoryOk m) ∧ o = [] := by
  obtain ⟨l1, l2⟩ := hpre
  conv => whnf
  repeat' (first | ((first | refine sel_i (fun h => ?_) (fun h => ?_) | refine chk_c ?_ ?_) <;> conv => whnf) | refine And.intro ?_ rfl | (refine And.intro ?_ ?_ <;> conv => whnf))
  all_goals first | (refine ⟨?_⟩; exact l1) | (simp only [eqLen24, all_any] at *; simp_all [memoryOk]; done)
theorem ok_i_MemoryOk : FunOk Tryz.prog c_i_MemoryOk := funOk (eK ok_slices_ContainsFunc_Word__impl_MemoryOk_1 (eK ok_i_MemoryOk_1 eN)) mixd Tryz.func111 (pf := pf_i_MemoryOk) (by kernel_rfl) fun ts K h => by
  obtain ⟨t0, rfl, q0⟩ := as1_out h
  obtain ⟨m, rfl, q1⟩ := arG_out rd_mem q0
  obtain ⟨hpre, hk⟩ := chk_o q1
  exact ⟨_, _, hk, nb 1 Tryz.f111 (by kernel_rfl), _, run_i_MemoryOk m hpre⟩

def pf_i_wordsOk : PF := ⟨[.t 2], .r [.mv 2 .F] (.r [.m 3 0, .c 4 158 [3, (.k (.fn 159 []))], .bnot 5 4, .m 2 5] .ret)⟩
def c_i_wordsOk : Fun := ⟨110, [], fun ts K => as1 ts fun t0 => arC (pL .word) t0 fun xs => chk (xs.length ≤ 2147483647) (K (tB (xs.all wordOk)) [])⟩
theorem run_i_wordsOk (xs : List (FT.Ty .word)) (hpre : xs.length ≤ 2147483647) : runK [c_slices_ContainsFunc_Word__impl_wordsOk_1, c_i_wordsOk_1] (0) [] pf_i_wordsOk [tL false .word xs] fun r o => r = tB (xs.all wordOk) ∧ o = [] := by
  conv => whnf
  repeat' (first | ((first | refine sel_i (fun h => ?_) (fun h => ?_) | refine chk_c ?_ ?_) <;> conv => whnf) | refine And.intro ?_ rfl | (refine And.intro ?_ ?_ <;> conv => whnf))
  all_goals first | (refine ⟨?_⟩; exact hpre) | (rw [all_any]; simp; done)
theorem ok_i_wordsOk : FunOk Tryz.prog c_i_wordsOk := funOk (eK ok_slices_ContainsFunc_Word__impl_wordsOk_1 (eK ok_i_wordsOk_1 eN)) mixd Tryz.func110 (pf := pf_i_wordsOk) (by kernel_rfl) fun ts K h => by
  obtain ⟨t0, rfl, q0⟩ := as1_out h
  obtain ⟨xs, rfl, q1⟩ := arC_out (rd_l .word) q0
  obtain ⟨hpre, hk⟩ := chk_o q1
  exact ⟨_, _, hk, nb 1 Tryz.f110 (by kernel_rfl), _, run_i_wordsOk xs hpre⟩

def pf_i_StateOk : PF := ⟨[.t 2], .r [.box 1 0, .mv 2 .F] (.r [.f 3 1 0, .l 4 1 3, .len 5 false 4, .bin 6 .eql 5 (.i 8), .m 7 6, .y 7 8 (.fa 8 1 0), .y 7 9 (.load 9 false 1 8), .y 7 10 (.call (some 10) 110 [9]), .pick 11 7 10 .F, .m 12 11, .y 12 13 (.fa 13 1 1), .y 12 14 (.load 14 true 6 13), .y 12 15 (.call (some 15) 65 [14]), .pick 16 12 15 .F, .m 17 16, .y 17 18 (.fa 18 1 7), .y 17 19 (.load 19 true 2 18), .y 17 20 (.call (some 20) 111 [19]), .pick 21 17 20 .F, .m 22 21, .y 22 23 (.fa 23 1 9), .y 22 24 (.load 24 false 1 23), .y 22 25 (.call (some 25) 112 [24, (.i 0), (.i 5)]), .pick 26 22 25 .F, .m 2 26] .ret)⟩
def c_i_StateOk : Fun := ⟨61, [], fun ts K => as1 ts fun t0 => arG pStateT t0 fun s => chk (LState s 2147483647) (K (tB (stateOk s)) [])⟩
theorem run_i_StateOk (s : State) (hpre : LState s 2147483647) : runK [c_i_WordOk, c_i_wordsOk, c_i_MemoryOk, c_i_in] (0) [] pf_i_StateOk [tG (s.tc false [])] fun r o => r = tB (stateOk s) ∧ o = [] := by
  obtain ⟨l0, l1, l2⟩ := hpre
  conv => whnf
  repeat' (first | ((first | refine sel_i (fun h => ?_) (fun h => ?_) | refine chk_c ?_ ?_) <;> conv => whnf) | refine And.intro ?_ rfl | (refine And.intro ?_ ?_ <;> conv => whnf))
  all_goals first | (refine ⟨?_⟩; exact l0) | (refine ⟨?_⟩; exact ⟨l1, l2⟩)| (simp only [eqLen8, etaKey, etaWord, etaMemory] at *; simp only [stateOk, *, Bool.true_and, Bool.false_and, Bool.and_false, Bool.and_true]; done)
theorem ok_i_StateOk : FunOk Tryz.prog c_i_StateOk := funOk (eK ok_i_WordOk (eK ok_i_wordsOk (eK ok_i_MemoryOk (eK ok_i_in eN)))) mixd Tryz.func61 (pf := pf_i_StateOk) (by kernel_rfl) fun ts K h => by
  obtain ⟨t0, rfl, q0⟩ := as1_out h
  obtain ⟨s, rfl, q1⟩ := arG_out rd_state q0
  obtain ⟨hpre, hk⟩ := chk_o q1
  exact ⟨_, _, hk, nb 1 Tryz.f61 (by kernel_rfl), _, run_i_StateOk s hpre⟩

def lb_s_MemoryOk_0 : PC := .seq (.r [.m 14 3, .bin 15 .lss 14 (.i 24)] (.cond 15 .skip (.exit 0))) (.seq (.blk 1 (.r [.f 18 1 0, .l 19 1 18, .m 20 3, .ia 21 .word 19 20, .L 22 6 21, .c 23 42 [22], .bnot 24 23] (.cond 24 (.r [.mv 2 .F] .ret) .skip))) (.reg [.m 16 3, .bin 17 .add 16 (.i 1), .m 3 17]))
def pf_s_MemoryOk : PF := ⟨[.t 2], .r [.box 1 0, .mv 2 .F] (.seq (.r [.f 4 1 0, .l 5 1 4, .len 6 false 5, .bin 7 .neq 6 (.i 24), .m 8 7, .n 8 9 (.fa 9 1 1), .n 8 10 (.load 10 false 1 9), .n 8 11 (.len 11 false 10), .n 8 12 (.bin 12 .neq 11 (.i 24)), .pick 13 8 .T 12] (.cond 13 (.r [.mv 2 .F] .ret) .skip)) (.seq (.r [.mv 3 (.i 0)] (.blk 0 (.loop [1, 3] lb_s_MemoryOk_0))) (.r [.mv 2 .T] .ret)))⟩
def c_s_MemoryOk : Fun := ⟨89, [], fun ts K => as1 ts fun t0 => arG pMemT t0 fun m => K (tB (memoryOk m)) []⟩
theorem run_s_MemoryOk (m : Mem) : runK [c_s_WordOk] (25) [] pf_s_MemoryOk [tG (m.tc false [])] fun r o => r = tB (memoryOk m) ∧ o = [] := by
  conv => whnf
  repeat' (first | ((first | refine sel_i (fun h => ?_) (fun h => ?_) | refine chk_c ?_ ?_) <;> conv => whnf) | refine And.intro ?_ rfl | (refine And.intro ?_ ?_ <;> conv => whnf))
  · simp only [neLen24] at h; simp_all [memoryOk]
  · simp only [neLen24] at *; simp_all [memoryOk]
  rename_i h1
  have hw : m.words.length = 24 := by simp only [neLen24] at h1; simpa using h1
  have hg : m.gone.length = 24 := by simp only [neLen24] at h; simpa using h
  have hm : memoryOk m = m.words.all wordOk := by simp [memoryOk, hw, hg]
  rw [hm]
  refine loop (α := Nat) (fun i => ⟨[(1, .v (.c (.ptr 0 0))), (3, .v (.c (.int .i64 (i : Int))))], [(2, some (.flat false .bool none m.gone)), (1, some (.flat false .word none m.words)), (0, some (.box true [.sl false .word 1, .sl false .bool 2]))], nums.tail.tail.tail, [], false, []⟩)
      (fun i => i ≤ 24 ∧ (m.words.drop i).all wordOk = m.words.all wordOk) (fun i => 24 - i) (fun i R hI hR => ?_) 0 _ ⟨by simp, by simp⟩ (by simp)
  obtain ⟨hi, hx⟩ := hI
  conv => whnf
  repeat' (first | ((first | refine sel_i (fun h => ?_) (fun h => ?_) | refine chk_c ?_ ?_) <;> conv => whnf) | refine And.intro ?_ rfl | (refine And.intro ?_ ?_ <;> conv => whnf))
  all_goals simp only [etaKey, etaWord, Int.toNat_natCast, Bool.not_eq_true', Bool.not_eq_false', decide_eq_true_eq, decide_eq_false_iff_not] at *
  all_goals first
    | (refine ⟨?_⟩; omega)
    | (rw [all_no (by omega) (by assumption) hx]; done)
    | (rw [all_end (by omega) hx]; done)
    | (rw [wrap_id (n := (i : Int) + 1) (by omega) (by omega)]; exact hR (i + 1) ⟨by omega, all_yes (by omega) (by assumption) hx⟩ (by omega))
theorem ok_s_MemoryOk : FunOk Tryz.prog c_s_MemoryOk := funOk (eK ok_s_WordOk eN) mixd Tryz.func89 (pf := pf_s_MemoryOk) (by kernel_rfl) fun ts K h => by
  obtain ⟨t0, rfl, q0⟩ := as1_out h
  obtain ⟨m, rfl, q1⟩ := arG_out rd_mem q0
  exact ⟨_, _, q1, nb 1 Tryz.f89 (by kernel_rfl), _, run_s_MemoryOk m⟩

def lb_s_StateOk_0 : PC := .seq (.r [.m 4 3, .f 5 1 0, .l 6 1 5, .len 7 false 6, .bin 8 .lss 4 7] (.cond 8 .skip (.exit 0))) (.seq (.blk 1 (.r [.f 11 1 0, .l 12 1 11, .m 13 3, .ia 14 .word 12 13, .L 15 6 14, .c 16 42 [15], .bnot 17 16] (.cond 17 (.r [.mv 2 .F] .ret) .skip))) (.reg [.m 9 3, .bin 10 .add 9 (.i 1), .m 3 10]))
def pf_s_StateOk : PF := ⟨[.t 2], .r [.box 1 0, .mv 2 .F] (.seq (.r [.mv 3 (.i 0)] (.blk 0 (.loop [1, 3] lb_s_StateOk_0))) (.r [.f 18 1 0, .l 19 1 18, .len 20 false 19, .bin 21 .eql 20 (.i 8), .m 22 21, .y 22 23 (.fa 23 1 1), .y 22 24 (.load 24 true 6 23), .y 22 25 (.call (some 25) 42 [24]), .pick 26 22 25 .F, .m 27 26, .y 27 28 (.fa 28 1 7), .y 27 29 (.load 29 true 2 28), .y 27 30 (.call (some 30) 89 [29]), .pick 31 27 30 .F, .m 32 31, .y 32 33 (.fa 33 1 9), .y 32 34 (.load 34 false 1 33), .y 32 35 (.call (some 35) 53 [34, (.i 0), (.i 5)]), .pick 36 32 35 .F, .m 2 36] .ret))⟩
def c_s_StateOk : Fun := ⟨41, [], fun ts K => as1 ts fun t0 => arG pStateT t0 fun s => chk (LState s 2147483647) (K (tB (stateOk s)) [])⟩
theorem run_s_StateOk (s : State) (hpre : LState s 2147483647) : runK [c_s_WordOk, c_s_l1In, c_s_MemoryOk] (s.regs.length + 1) [] pf_s_StateOk [tG (s.tc false [])] fun r o => r = tB (stateOk s) ∧ o = [] := by
  obtain ⟨l0, l1, l2⟩ := hpre
  conv => whnf
  refine loop (α := Nat) (fun i => ⟨[(1, .v (.c (.ptr 0 0))), (3, .v (.c (.int .i64 (i : Int))))], [(3, some (.flat false .bool none s.mem.gone)), (2, some (.flat false .word none s.mem.words)), (1, some (.flat false .word none s.regs)),
        (0, some (.box true [.sl false .word 1, .int .i64 s.pc.n, .bool s.pc.is, .int .i64 s.pc.key.base, .int .i64 s.pc.key.top, .int .i64 s.pc.key.perms, .int .i64 s.pc.key.sealed, .sl false .word 2, .sl false .bool 3, .int .i64 s.trap]))], nums.tail.tail.tail.tail, [], false, []⟩)
      (fun i => i ≤ s.regs.length ∧ (s.regs.drop i).all wordOk = s.regs.all wordOk) (fun i => s.regs.length - i) (fun i R hI hR => ?_) 0 _ ⟨by simp, by simp⟩ (by simp)
  obtain ⟨hi, hx⟩ := hI
  conv => whnf
  repeat' (first | ((first | refine sel_i (fun h => ?_) (fun h => ?_) | refine chk_c ?_ ?_) <;> conv => whnf) | refine And.intro ?_ rfl | (refine And.intro ?_ ?_ <;> conv => whnf))
  all_goals simp only [etaKey, etaWord, etaMemory, eqLen8, Int.toNat_natCast, Bool.not_eq_true', Bool.not_eq_false', decide_eq_true_eq, decide_eq_false_iff_not] at *
  all_goals first
    | (refine ⟨?_⟩; omega)
    | (have e := all_no (by omega) (by assumption) hx; simp only [stateOk, e, Bool.false_and, Bool.and_false]; done)
    | (rw [wrap_id (n := (i : Int) + 1) (by omega) (by omega)]; exact hR (i + 1) ⟨by omega, all_yes (by omega) (by assumption) hx⟩ (by omega))
    | (have e := all_end (by omega) hx; simp only [stateOk, e, *, decide_true, decide_false, Bool.true_and, Bool.false_and, Bool.and_false, Bool.and_true]; done)
    | trace_state
theorem ok_s_StateOk : FunOk Tryz.prog c_s_StateOk := funOk (eK ok_s_WordOk (eK ok_s_l1In (eK ok_s_MemoryOk eN))) mixd Tryz.func41 (pf := pf_s_StateOk) (by kernel_rfl) fun ts K h => by
  obtain ⟨t0, rfl, q0⟩ := as1_out h
  obtain ⟨s, rfl, q1⟩ := arG_out rd_state q0
  obtain ⟨hpre, hk⟩ := chk_o q1
  exact ⟨_, _, hk, nb 1 Tryz.f41 (by kernel_rfl), _, run_s_StateOk s hpre⟩

def twoOk (t : Two) : Bool := stateOk (sideState t 0) && stateOk (sideState t 1)

def andI (a b : Int) : Int := IntKind.i64.wrap (BitVec.ofInt IntKind.i64.bits a &&& BitVec.ofInt IntKind.i64.bits b).toNat
theorem andI_eq (a b : Int) : IntKind.i64.wrap (BitVec.ofInt IntKind.i64.bits a &&& BitVec.ofInt IntKind.i64.bits b).toNat = andI a b := rfl
abbrev w0 : Word := ⟨0, false, ⟨0, 0, 0, 0⟩⟩
def hasKey (l : List Word) (k : Key) : Bool := l.any (fun x => decide (x.key = k))
def putW (out : List Word) (w : Word) : List Word := if w.is && wordOk w && !hasKey out w.key then out ++ [w] else out
def scan (ws : List Word) : Nat → Nat → List Word → List Word
  | 0, _, out => out
  | n + 1, c, out => scan ws n (c + 1) (putW out (ws.getD c (FT.zero .word)))
def opens (k : Key) : Bool := !(andI k.perms 1 == 0) && !(andI k.perms 8 == 0)
def closStep (ws out : List Word) (k : Key) : List Word := if opens k then scan ws (min k.top 24 - k.base).toNat k.base.toNat out else out
def closGo (ws : List Word) : Nat → Nat → List Word → List Word
  | 0, _, out => out
  | n + 1, i, out => if i < out.length then closGo ws n (i + 1) (closStep ws out (out.getD i (FT.zero .word)).key) else out
def closFirst (l : List Word) : List Word := l.foldl putW []
def closure (m : Mem) (l : List Word) : List Word := if memoryOk m then closGo m.words (l.length + 24) 0 (closFirst l) else []
theorem getD_mem {ws : List Word} {c : Nat} (h : c < ws.length) : ws.getD c (FT.zero .word) ∈ ws := by
  have e : ws.getD c (FT.zero .word) = ws[c] := by simp [List.getD_eq_getElem?_getD, h]
  rw [e]; exact List.getElem_mem h

def hasP (w : Word) (p : Int) : Bool := w.is && (andI w.key.perms p != 0)
def canSeal (m : Mem) (l : List Word) : Bool := (closure m l).any (fun w => hasP w 32)

def U8s (b : List Int) : Prop := ∀ x ∈ b, 0 ≤ x ∧ x ≤ 255
theorem U8s.at {b : List Int} (h : U8s b) (i : Nat) : 0 ≤ b.getD i 0 ∧ b.getD i 0 ≤ 255 := by
  rw [List.getD_eq_getElem?_getD]
  cases e : b[i]? with
  | none => simp
  | some x => exact h x (List.mem_of_getElem? e)
theorem wordOk_n {w : Word} (h : wordOk w = true) : 0 ≤ w.n ∧ w.n ≤ 65535 := by
  simp only [wordOk, Bool.and_eq_true] at h; simpa [inR] using h.1
theorem U8s.win {b : List Int} (h : U8s b) (o n : Nat) : U8s (win b o n) := fun x hx => h x (List.mem_of_mem_drop (List.mem_of_mem_take hx))


def filt (f : Nat → Bool) (n : Nat) : List Int := ((List.range n).filter f).map (fun c : Nat => (c : Int))
def coverP (ws : List Word) (p : Int) (c : Nat) : Bool := ws.any (fun w => hasP w p && inR c w.key.base (w.key.top - 1))
def cellsBy (m : Mem) (l : List Word) (p : Int) : List Int := filt (coverP (closure m l) p) 24


def heldW (s : Side) : List Word := s.regs ++ [s.pc]
def meetI (a b : List Int) : Bool := a.any (fun n => b.any (fun x => n == x))
def crossesB (m : Mem) (a b : List Word) : Bool := meetI (cellsBy m a 2) (cellsBy m b 1 ++ cellsBy m b 2)
def apartB (t : Two) : Bool := twoOk t && !canSeal t.mem (heldW t.a) && !canSeal t.mem (heldW t.b) && (!crossesB t.mem (heldW t.a) (heldW t.b) && !crossesB t.mem (heldW t.b) (heldW t.a))

def LHeap (h : Heap) (n : Nat) : Prop := LMem h.mem n ∧ h.live.length ≤ n ∧ h.waits.length ≤ n
theorem LHeap.mono {t : Heap} {n m : Nat} (h : LHeap t n) (k : n ≤ m) : LHeap t m := ⟨⟨Nat.le_trans h.1.1 k, Nat.le_trans h.1.2 k⟩, Nat.le_trans h.2.1 k, Nat.le_trans h.2.2 k⟩
def inS (s : Span) (c : Nat) : Bool := inR c s.at_ (s.at_ + s.len - 1)
def spanOk (s : Span) : Bool := inR s.at_ 0 23 && inR s.len 1 (24 - s.at_)
def spanChk (l : List Span) (i : Nat) : Bool := spanOk (l.getD i (FT.zero .span)) && (i == 0 || decide ((l.getD (i - 1) (FT.zero .span)).at_ < (l.getD i (FT.zero .span)).at_))
def okTo (l : List Span) (i : Nat) : Bool := (List.range i).all (spanChk l)
def spansOk (l : List Span) : Bool := okTo l l.length
theorem inR_t {n lo hi : Int} : inR n lo hi = true ↔ lo ≤ n ∧ n ≤ hi := by simp [inR]
theorem inR_f {n lo hi : Int} : inR n lo hi = false ↔ (n < lo ∨ hi < n) := by
  rw [Bool.eq_false_iff, ne_eq, inR_t]; omega
theorem spanChk_iff (l : List Span) (i : Nat) : spanChk l i = true ↔ (((0 ≤ (l.getD i (FT.zero .span)).at_ ∧ (l.getD i (FT.zero .span)).at_ ≤ 23) ∧ 1 ≤ (l.getD i (FT.zero .span)).len ∧ (l.getD i (FT.zero .span)).len ≤ 24 - (l.getD i (FT.zero .span)).at_) ∧ (i = 0 ∨ (l.getD (i - 1) (FT.zero .span)).at_ < (l.getD i (FT.zero .span)).at_)) := by
  simp only [spanChk, spanOk, Bool.and_eq_true, inR_t, Bool.or_eq_true, beq_iff_eq, decide_eq_true_eq]
def pf_s_l1Max : PF := ⟨[.t 4], .r [.mv 4 (.i 0)] (.seq (.r [.m 5 0, .m 6 1, .bin 7 .gtr 5 6] (.cond 7 (.r [.m 8 0, .m 4 8] .ret) .skip)) (.r [.m 9 1, .m 4 9] .ret))⟩
def c_s_l1Max : Fun := ⟨194, [], fun ts K => as2 ts fun t0 t1 => arC (pI .i64) t0 fun a => arC (pI .i64) t1 fun b => K (tN (max a b)) []⟩
theorem run_s_l1Max (a : Int) (b : Int) : runK [] (0) [] pf_s_l1Max [tI .i64 a, tI .i64 b] fun r o => r = tN (max a b) ∧ o = [] := by
  conv => whnf
  repeat' (first | ((first | refine sel_i (fun h => ?_) (fun h => ?_) | refine chk_c ?_ ?_) <;> conv => whnf) | refine And.intro ?_ rfl | (refine And.intro ?_ ?_ <;> conv => whnf))
  all_goals (simp at h; congr 3; omega)
theorem ok_s_l1Max : FunOk Tryz.prog c_s_l1Max := funOk (eN) mixd Tryz.func194 (pf := pf_s_l1Max) (by kernel_rfl) fun ts K h => by
  obtain ⟨t0, t1, rfl, q0⟩ := as2_out h
  obtain ⟨a, rfl, q1⟩ := arC_out (rd_int .i64) q0
  obtain ⟨b, rfl, q2⟩ := arC_out (rd_int .i64) q1
  exact ⟨_, _, q2, nb 2 Tryz.f194 (by kernel_rfl), _, run_s_l1Max a b⟩

def allR (f : Nat → Bool) (n : Nat) : Bool := (List.range n).all f
theorem allR_iff {f : Nat → Bool} {n : Nat} : allR f n = true ↔ ∀ c, c < n → f c = true := by simp [allR]
def cnt (l : List Span) (c : Nat) : Nat := l.countP (fun s => inS s c)
def heapOk (h : Heap) : Bool := memoryOk h.mem && spansOk h.live && spansOk h.waits && allR (fun c => decide (cnt h.live c + cnt h.waits c ≤ 1) && (h.mem.gone.getD c false == decide (0 < cnt h.waits c))) 24
theorem spanChk_ok {l : List Span} {i : Nat} (h : spanChk l i = true) : spanOk (l.getD i (FT.zero .span)) = true := by
  simp only [spanChk, Bool.and_eq_true] at h; exact h.1
theorem spansOk_iff {l : List Span} : spansOk l = true ↔ ∀ j, j < l.length → spanChk l j = true := by simp [spansOk, okTo]
theorem spansOk_mem {l : List Span} (h : spansOk l = true) : ∀ s ∈ l, spanOk s = true := fun s hs => by
  obtain ⟨i, hi, rfl⟩ := List.getElem_of_mem hs
  have := spanChk_ok (spansOk_iff.1 h i hi)
  rw [show l.getD i (FT.zero .span) = l[i] by simp [List.getD_eq_getElem?_getD, hi]] at this
  exact this

def plainW (n : Int) : Word := ⟨andI n 65535, false, ⟨0, 0, 0, 0⟩⟩
def gonB (g : List Bool) (w : Word) : Bool := w.is && inR w.key.base 0 (g.length - 1) && g.getD w.key.base.toNat false
def filterW (g : List Bool) (w : Word) : Word := if gonB g w then plainW w.n else w

def pf_s_Plain : PF := ⟨[.c 2 true 6], .r [.alloc 2 zcW] (.r [.m 3 0, .bin 4 .and 3 (.i 65535), .build 5 zcW [(0, 1, 4)], .o 6 2 5] .ret)⟩
def c_s_Plain : Fun := ⟨150, [], fun ts K => as1 ts fun t0 => arC (pI .i64) t0 fun n => K (tG ((plainW n).tc [])) []⟩
theorem run_s_Plain (n : Int) : runK [] (0) [] pf_s_Plain [tI .i64 n] fun r o => r = tG ((plainW n).tc []) ∧ o = [] := by
  conv => whnf
  repeat' (first
    | exact rfl
    | exact trivial
    | (refine sel_i (fun h => ?_) (fun h => ?_) <;> conv => whnf)
    | (refine chk_c ?_ ?_ <;> conv => whnf)
    | (refine And.intro ?_ ?_ <;> conv => whnf))
theorem ok_s_Plain : FunOk Tryz.prog c_s_Plain := funOk (eN) mixd Tryz.func150 (pf := pf_s_Plain) (by kernel_rfl) fun ts K h => by
  obtain ⟨t0, rfl, q0⟩ := as1_out h
  obtain ⟨n, rfl, q1⟩ := arC_out (rd_int .i64) q0
  exact ⟨_, _, q1, nb 1 Tryz.f150 (by kernel_rfl), _, run_s_Plain n⟩

def pf_i_Plain : PF := ⟨[.c 2 true 6], .r [.alloc 2 zcW] (.r [.m 3 0, .bin 4 .and 3 (.i 65535), .build 5 zcW [(0, 1, 4)], .o 6 2 5] .ret)⟩
def c_i_Plain : Fun := ⟨221, [], fun ts K => as1 ts fun t0 => arC (pI .i64) t0 fun n => K (tG ((plainW n).tc [])) []⟩
theorem run_i_Plain (n : Int) : runK [] (0) [] pf_i_Plain [tI .i64 n] fun r o => r = tG ((plainW n).tc []) ∧ o = [] := by
  conv => whnf
  repeat' (first
    | exact rfl
    | exact trivial
    | (refine sel_i (fun h => ?_) (fun h => ?_) <;> conv => whnf)
    | (refine chk_c ?_ ?_ <;> conv => whnf)
    | (refine And.intro ?_ ?_ <;> conv => whnf))
theorem ok_i_Plain : FunOk Tryz.prog c_i_Plain := funOk (eN) mixd Tryz.func221 (pf := pf_i_Plain) (by kernel_rfl) fun ts K h => by
  obtain ⟨t0, rfl, q0⟩ := as1_out h
  obtain ⟨n, rfl, q1⟩ := arC_out (rd_int .i64) q0
  exact ⟨_, _, q1, nb 1 Tryz.f221 (by kernel_rfl), _, run_i_Plain n⟩

def pf_s_Bare : PF := ⟨[.c 2 true 6], .r [.box 1 0, .alloc 2 zcW] (.r [.f 3 1 0, .l 4 1 3, .c 5 150 [4], .o 6 2 5] .ret)⟩
def c_s_Bare : Fun := ⟨153, [], fun ts K => as1 ts fun t0 => arG pWordT t0 fun w => K (tG ((plainW w.n).tc [])) []⟩
theorem run_s_Bare (w : Word) : runK [c_s_Plain] (0) [] pf_s_Bare [tG (w.tc [])] fun r o => r = tG ((plainW w.n).tc []) ∧ o = [] := by
  conv => whnf
  repeat' (first
    | exact rfl
    | exact trivial
    | (refine sel_i (fun h => ?_) (fun h => ?_) <;> conv => whnf)
    | (refine chk_c ?_ ?_ <;> conv => whnf)
    | (refine And.intro ?_ ?_ <;> conv => whnf))
theorem ok_s_Bare : FunOk Tryz.prog c_s_Bare := funOk (eK ok_s_Plain eN) mixd Tryz.func153 (pf := pf_s_Bare) (by kernel_rfl) fun ts K h => by
  obtain ⟨t0, rfl, q0⟩ := as1_out h
  obtain ⟨w, rfl, q1⟩ := arG_out rd_word q0
  exact ⟨_, _, q1, nb 1 Tryz.f153 (by kernel_rfl), _, run_s_Bare w⟩

def pf_i_Bare : PF := ⟨[.c 2 true 6], .r [.box 1 0, .alloc 2 zcW] (.r [.f 3 1 0, .l 4 1 3, .c 5 221 [4], .o 6 2 5] .ret)⟩
def c_i_Bare : Fun := ⟨216, [], fun ts K => as1 ts fun t0 => arG pWordT t0 fun w => K (tG ((plainW w.n).tc [])) []⟩
theorem run_i_Bare (w : Word) : runK [c_i_Plain] (0) [] pf_i_Bare [tG (w.tc [])] fun r o => r = tG ((plainW w.n).tc []) ∧ o = [] := by
  conv => whnf
  repeat' (first
    | exact rfl
    | exact trivial
    | (refine sel_i (fun h => ?_) (fun h => ?_) <;> conv => whnf)
    | (refine chk_c ?_ ?_ <;> conv => whnf)
    | (refine And.intro ?_ ?_ <;> conv => whnf))
theorem ok_i_Bare : FunOk Tryz.prog c_i_Bare := funOk (eK ok_i_Plain eN) mixd Tryz.func216 (pf := pf_i_Bare) (by kernel_rfl) fun ts K h => by
  obtain ⟨t0, rfl, q0⟩ := as1_out h
  obtain ⟨w, rfl, q1⟩ := arG_out rd_word q0
  exact ⟨_, _, q1, nb 1 Tryz.f216 (by kernel_rfl), _, run_i_Bare w⟩

def pf_s_Filter : PF := ⟨[.c 4 true 6], .r [.box 2 0, .box 3 1, .alloc 4 zcW] (.seq (.r [.f 5 3 1, .l 6 1 5, .m 7 6, .y 7 8 (.fa 8 3 2), .y 7 9 (.fa 9 8 0), .y 7 10 (.load 10 false 1 9), .y 7 11 (.fa 11 2 1), .y 7 12 (.load 12 false 1 11), .y 7 13 (.len 13 false 12), .y 7 14 (.bin 14 .sub 13 (.i 1)), .y 7 15 (.call (some 15) 53 [10, (.i 0), 14]), .pick 16 7 15 .F, .m 17 16, .y 17 18 (.fa 18 2 1), .y 17 19 (.load 19 false 1 18), .y 17 20 (.fa 20 3 2), .y 17 21 (.fa 21 20 0), .y 17 22 (.load 22 false 1 21), .y 17 23 (.ia 23 .bool 19 22), .y 17 24 (.load 24 false 1 23), .pick 25 17 24 .F] (.cond 25 (.r [.L 26 6 3, .c 27 153 [26], .o 6 4 27] .ret) .skip)) (.r [.L 28 6 3, .o 6 4 28] .ret))⟩
def c_s_Filter : Fun := ⟨103, [], fun ts K => as2 ts fun t0 t1 => arG pMemT t0 fun m => arG pWordT t1 fun w => chk (LMem m 2147483647) (K (tG ((filterW m.gone w).tc [])) [])⟩
theorem run_s_Filter (m : Mem) (w : Word) (hpre : LMem m 2147483647) : runK [c_s_l1In, c_s_Bare] (0) [] pf_s_Filter [tG (m.tc false []), tG (w.tc [])] fun r o => r = tG ((filterW m.gone w).tc []) ∧ o = [] := by
  obtain ⟨l1, l2⟩ := hpre
  have w1 : IntKind.i64.wrap ((m.gone.length : Int) - 1) = (m.gone.length : Int) - 1 := wrap_id (by omega) (by omega)
  conv => whnf
  repeat' (first | ((first | refine sel_i (fun h => ?_) (fun h => ?_) | refine chk_c ?_ ?_) <;> conv => whnf) | refine And.intro ?_ rfl | (refine And.intro ?_ ?_ <;> conv => whnf))
  all_goals (try simp only [w1, show FT.zero .bool = false from rfl] at *)
  all_goals first
    | (refine ⟨?_⟩; rename_i g; have := inR_t.1 g; omega)
    | (refine ⟨?_⟩; have := inR_t.1 h; omega)
    | (rw [show filterW m.gone w = plainW w.n by simp only [filterW, gonB, *, Bool.and_self, if_true]]; rfl)
    | (rw [show filterW m.gone w = w by simp only [filterW, gonB, *, Bool.and_false, Bool.false_and, Bool.false_eq_true, if_false]]; rfl)
    | trace_state
theorem ok_s_Filter : FunOk Tryz.prog c_s_Filter := funOk (eK ok_s_l1In (eK ok_s_Bare eN)) mixd Tryz.func103 (pf := pf_s_Filter) (by kernel_rfl) fun ts K h => by
  obtain ⟨t0, t1, rfl, q0⟩ := as2_out h
  obtain ⟨m, rfl, q1⟩ := arG_out rd_mem q0
  obtain ⟨w, rfl, q2⟩ := arG_out rd_word q1
  obtain ⟨hpre, hk⟩ := chk_o q2
  exact ⟨_, _, hk, nb 2 Tryz.f103 (by kernel_rfl), _, run_s_Filter m w hpre⟩

def pf_i_Filter : PF := ⟨[.c 4 true 6], .r [.box 2 0, .box 3 1, .alloc 4 zcW] (.seq (.r [.f 5 3 1, .l 6 1 5, .m 7 6, .y 7 8 (.fa 8 3 2), .y 7 9 (.fa 9 8 0), .y 7 10 (.load 10 false 1 9), .y 7 11 (.fa 11 2 1), .y 7 12 (.load 12 false 1 11), .y 7 13 (.len 13 false 12), .y 7 14 (.bin 14 .sub 13 (.i 1)), .y 7 15 (.call (some 15) 112 [10, (.i 0), 14]), .pick 16 7 15 .F, .m 17 16, .y 17 18 (.fa 18 2 1), .y 17 19 (.load 19 false 1 18), .y 17 20 (.fa 20 3 2), .y 17 21 (.fa 21 20 0), .y 17 22 (.load 22 false 1 21), .y 17 23 (.ia 23 .bool 19 22), .y 17 24 (.load 24 false 1 23), .pick 25 17 24 .F] (.cond 25 (.r [.L 26 6 3, .c 27 216 [26], .o 6 4 27] .ret) .skip)) (.r [.L 28 6 3, .o 6 4 28] .ret))⟩
def c_i_Filter : Fun := ⟨209, [], fun ts K => as2 ts fun t0 t1 => arG pMemT t0 fun m => arG pWordT t1 fun w => chk (LMem m 2147483647) (K (tG ((filterW m.gone w).tc [])) [])⟩
theorem run_i_Filter (m : Mem) (w : Word) (hpre : LMem m 2147483647) : runK [c_i_in, c_i_Bare] (0) [] pf_i_Filter [tG (m.tc false []), tG (w.tc [])] fun r o => r = tG ((filterW m.gone w).tc []) ∧ o = [] := by
  obtain ⟨l1, l2⟩ := hpre
  have w1 : IntKind.i64.wrap ((m.gone.length : Int) - 1) = (m.gone.length : Int) - 1 := wrap_id (by omega) (by omega)
  conv => whnf
  repeat' (first | ((first | refine sel_i (fun h => ?_) (fun h => ?_) | refine chk_c ?_ ?_) <;> conv => whnf) | refine And.intro ?_ rfl | (refine And.intro ?_ ?_ <;> conv => whnf))
  all_goals (try simp only [w1, show FT.zero .bool = false from rfl] at *)
  all_goals first
    | (refine ⟨?_⟩; rename_i g; have := inR_t.1 g; omega)
    | (refine ⟨?_⟩; have := inR_t.1 h; omega)
    | (rw [show filterW m.gone w = plainW w.n by simp only [filterW, gonB, *, Bool.and_self, if_true]]; rfl)
    | (rw [show filterW m.gone w = w by simp only [filterW, gonB, *, Bool.and_false, Bool.false_and, Bool.false_eq_true, if_false]]; rfl)
    | trace_state
theorem ok_i_Filter : FunOk Tryz.prog c_i_Filter := funOk (eK ok_i_in (eK ok_i_Bare eN)) mixd Tryz.func209 (pf := pf_i_Filter) (by kernel_rfl) fun ts K h => by
  obtain ⟨t0, t1, rfl, q0⟩ := as2_out h
  obtain ⟨m, rfl, q1⟩ := arG_out rd_mem q0
  obtain ⟨w, rfl, q2⟩ := arG_out rd_word q1
  obtain ⟨hpre, hk⟩ := chk_o q2
  exact ⟨_, _, hk, nb 2 Tryz.f209 (by kernel_rfl), _, run_i_Filter m w hpre⟩


theorem andI_mask {q p : Int} (h : 0 ≤ p ∧ p ≤ 63) : (andI q p = p) ↔ (IntKind.i64.wrap (BitVec.ofInt IntKind.i64.bits p &&& ~~~ BitVec.ofInt IntKind.i64.bits q).toNat = 0) := by
  obtain ⟨m, rfl⟩ := Int.eq_ofNat_of_zero_le h.1
  have hy : (BitVec.ofInt IntKind.i64.bits (m : Int)).toNat = m := by
    rw [BitVec.ofInt_natCast, BitVec.toNat_ofNat]; exact Nat.mod_eq_of_lt (by show m < 2 ^ 64; omega)
  unfold andI
  generalize BitVec.ofInt IntKind.i64.bits (m : Int) = y at *
  generalize BitVec.ofInt IntKind.i64.bits q = x at *
  have h1 : (x &&& y).toNat ≤ y.toNat := by rw [BitVec.toNat_and]; exact Nat.and_le_right
  have h2 : (y &&& ~~~ x).toNat ≤ y.toNat := by rw [BitVec.toNat_and]; exact Nat.and_le_left
  have h3 : y.toNat ≤ 63 := by omega
  rw [wrap_id (by omega) (by omega), wrap_id (by omega) (by omega)]
  have e1 : (((x &&& y).toNat : Nat) : Int) = (m : Int) ↔ x &&& y = y := by
    rw [← hy, ← BitVec.toNat_inj]; omega
  have e2 : (((y &&& ~~~ x).toNat : Nat) : Int) = 0 ↔ y &&& ~~~ x = 0#_ := by
    rw [← BitVec.toNat_inj]; simp
  rw [e1, e2]
  constructor
  · intro h
    rw [← h]
    apply BitVec.eq_of_getLsbD_eq
    intro i hi
    simp only [BitVec.getLsbD_and, BitVec.getLsbD_not, BitVec.getLsbD_zero]
    cases x.getLsbD i <;> cases y.getLsbD i <;> simp
  · intro h
    apply BitVec.eq_of_getLsbD_eq
    intro i hi
    have := congrArg (fun v => v.getLsbD i) h
    simp only [BitVec.getLsbD_and, BitVec.getLsbD_not, BitVec.getLsbD_zero, hi, decide_true, Bool.true_and] at this ⊢
    cases hx : x.getLsbD i <;> cases hyy : y.getLsbD i <;> simp_all
def tryW (w : Word) (n p : Int) : Int := if w.is = false ∨ wordOk w = false then 1 else if w.key.sealed ≠ 0 then 2 else if andI w.key.perms p ≠ p then 3 else if n < w.key.base ∨ w.key.top ≤ n then 4 else 0
def takenW (y w : Word) : Word := if andI y.key.perms 8 = 0 then plainW w.n else w
def mayPut (y w : Word) : Bool := !w.is || andI y.key.perms 16 != 0
def openW (w : Word) : Bool := wordOk w && w.is && w.key.sealed == 0
theorem openW_is {w : Word} (h : openW w = true) : w.is = true := by simp only [openW, Bool.and_eq_true] at h; exact h.1.2
def weakenW (w : Word) (m : Int) : Word := if openW w then { w with key := { w.key with perms := andI w.key.perms (andI m 63) } } else plainW w.n
def narrowW (w : Word) (n : Int) : Word :=
  if openW w && inR n 0 4096 && boundsOk w.n (IntKind.i64.wrap (w.n + n)) then
    (if (wide w.n (IntKind.i64.wrap (w.n + n))).1 < w.key.base ∨ w.key.top < (wide w.n (IntKind.i64.wrap (w.n + n))).2 then plainW w.n else { w with key := { w.key with base := (wide w.n (IntKind.i64.wrap (w.n + n))).1, top := (wide w.n (IntKind.i64.wrap (w.n + n))).2 } })
  else plainW w.n
def pointW (w : Word) (n : Int) : Word := if openW w then ⟨andI n 65535, true, w.key⟩ else plainW n
def sealsB (y : Word) : Bool := openW y && (andI y.key.perms 32 != 0) && decide (y.key.base ≤ y.n) && decide (y.n < y.key.top) && inR y.n 1 7
def sealBy (w y : Word) : Word := if openW w && sealsB y then { w with key := { w.key with sealed := y.n } } else plainW w.n
def openBy (w y : Word) : Word := if wordOk w && w.is && sealsB y && w.key.sealed == y.n then { w with key := { w.key with sealed := 0 } } else plainW w.n

def pf_s_Try : PF := ⟨[.t 6], .r [.box 3 0, .mv 6 (.i 0)] (.seq (.blk 0 (.r [.L 8 6 3, .c 9 42 [8], .bnot 10 9, .m 11 10, .n 11 12 (.fa 12 3 1), .n 11 13 (.load 13 false 1 12), .n 11 14 (.bnot 14 13), .pick 15 11 .T 14, .m 7 15] (.cond 7 (.r [.mv 6 (.i 1)] .ret) (.r [.f 17 3 2, .f 18 17 3, .l 19 1 18, .bin 20 .neq 19 (.i 0), .m 16 20] (.cond 16 (.r [.mv 6 (.i 2)] .ret) (.r [.f 22 3 2, .f 23 22 2, .l 24 1 23, .m 25 2, .bin 26 .and 24 25, .m 27 2, .bin 28 .neq 26 27, .m 21 28] (.cond 21 (.r [.mv 6 (.i 3)] .ret) (.r [.m 30 1, .f 31 3 2, .f 32 31 0, .l 33 1 32, .bin 34 .lss 30 33, .m 35 34, .n 35 36 (.mv 36 1), .n 35 37 (.fa 37 3 2), .n 35 38 (.fa 38 37 1), .n 35 39 (.load 39 false 1 38), .n 35 40 (.bin 40 .geq 36 39), .pick 41 35 .T 40, .m 29 41] (.cond 29 (.r [.mv 6 (.i 4)] .ret) .skip))))))))) (.r [.mv 6 (.i 0)] .ret))⟩
def c_s_Try : Fun := ⟨151, [], fun ts K => as3 ts fun t0 t1 t2 => arG pWordT t0 fun w => arC (pI .i64) t1 fun n => arC (pI .i64) t2 fun p => K (tN (tryW w n p)) []⟩
theorem run_s_Try (w : Word) (n : Int) (p : Int) : runK [c_s_WordOk] (0) [] pf_s_Try [tG (w.tc []), tI .i64 n, tI .i64 p] fun r o => r = tN (tryW w n p) ∧ o = [] := by
  conv => whnf
  repeat' (first | ((first | refine sel_i (fun h => ?_) (fun h => ?_) | refine chk_c ?_ ?_) <;> conv => whnf) | refine And.intro ?_ rfl | (refine And.intro ?_ ?_ <;> conv => whnf))
  all_goals (try simp only [etaKey, etaWord, andI_eq, Bool.not_eq_true', Bool.not_eq_false', decide_eq_true_eq, decide_eq_false_iff_not, bne_iff_ne, ne_eq, bne_eq_false_iff_eq, beq_iff_eq, beq_eq_false_iff_ne] at *)
  all_goals first | (simp_all [tryW]; done) | (simp_all [tryW]; omega) | trace_state
theorem ok_s_Try : FunOk Tryz.prog c_s_Try := funOk (eK ok_s_WordOk eN) mixd Tryz.func151 (pf := pf_s_Try) (by kernel_rfl) fun ts K h => by
  obtain ⟨t0, t1, t2, rfl, q0⟩ := as3_out h
  obtain ⟨w, rfl, q1⟩ := arG_out rd_word q0
  obtain ⟨n, rfl, q2⟩ := arC_out (rd_int .i64) q1
  obtain ⟨p, rfl, q3⟩ := arC_out (rd_int .i64) q2
  exact ⟨_, _, q3, nb 3 Tryz.f151 (by kernel_rfl), _, run_s_Try w n p⟩

def pf_i_Try : PF := ⟨[.t 6], .r [.box 3 0, .mv 6 (.i 0)] (.seq (.blk 0 (.r [.f 8 3 1, .l 9 1 8, .bnot 10 9, .m 11 10, .n 11 12 (.load 12 true 6 3), .n 11 13 (.call (some 13) 65 [12]), .n 11 14 (.bnot 14 13), .pick 15 11 .T 14, .m 7 15] (.cond 7 (.r [.mv 6 (.i 1)] .ret) (.r [.f 17 3 2, .f 18 17 3, .l 19 1 18, .bin 20 .neq 19 (.i 0), .m 16 20] (.cond 16 (.r [.mv 6 (.i 2)] .ret) (.r [.m 22 2, .f 23 3 2, .f 24 23 2, .l 25 1 24, .bin 26 .andNot 22 25, .bin 27 .neq 26 (.i 0), .m 21 27] (.cond 21 (.r [.mv 6 (.i 3)] .ret) (.r [.m 29 1, .f 30 3 2, .f 31 30 0, .l 32 1 31, .bin 33 .lss 29 32, .m 34 33, .n 34 35 (.mv 35 1), .n 34 36 (.fa 36 3 2), .n 34 37 (.fa 37 36 1), .n 34 38 (.load 38 false 1 37), .n 34 39 (.bin 39 .geq 35 38), .pick 40 34 .T 39, .m 28 40] (.cond 28 (.r [.mv 6 (.i 4)] .ret) .skip))))))))) (.r [.mv 6 (.i 0)] .ret))⟩
def c_i_Try : Fun := ⟨241, [], fun ts K => as3 ts fun t0 t1 t2 => arG pWordT t0 fun w => arC (pI .i64) t1 fun n => arC (pI .i64) t2 fun p => chk (0 ≤ p ∧ p ≤ 63) (K (tN (tryW w n p)) [])⟩
theorem run_i_Try (w : Word) (n : Int) (p : Int) (hpre : 0 ≤ p ∧ p ≤ 63) : runK [c_i_WordOk] (0) [] pf_i_Try [tG (w.tc []), tI .i64 n, tI .i64 p] fun r o => r = tN (tryW w n p) ∧ o = [] := by
  have hm := andI_mask (q := w.key.perms) hpre
  conv => whnf
  repeat' (first | ((first | refine sel_i (fun h => ?_) (fun h => ?_) | refine chk_c ?_ ?_) <;> conv => whnf) | refine And.intro ?_ rfl | (refine And.intro ?_ ?_ <;> conv => whnf))
  all_goals (try simp only [etaKey, etaWord, andI_eq, Bool.not_eq_true', Bool.not_eq_false', decide_eq_true_eq, decide_eq_false_iff_not, bne_iff_ne, ne_eq, bne_eq_false_iff_eq, beq_iff_eq, beq_eq_false_iff_ne] at *)
  all_goals (try simp only [← hm] at *)
  all_goals first | (simp_all [tryW]; done) | (simp_all [tryW]; omega) | trace_state
theorem ok_i_Try : FunOk Tryz.prog c_i_Try := funOk (eK ok_i_WordOk eN) mixd Tryz.func241 (pf := pf_i_Try) (by kernel_rfl) fun ts K h => by
  obtain ⟨t0, t1, t2, rfl, q0⟩ := as3_out h
  obtain ⟨w, rfl, q1⟩ := arG_out rd_word q0
  obtain ⟨n, rfl, q2⟩ := arC_out (rd_int .i64) q1
  obtain ⟨p, rfl, q3⟩ := arC_out (rd_int .i64) q2
  obtain ⟨hpre, hk⟩ := chk_o q3
  exact ⟨_, _, hk, nb 3 Tryz.f241 (by kernel_rfl), _, run_i_Try w n p hpre⟩

def pf_i_permits : PF := ⟨[.t 4], .r [.box 2 0, .mv 4 .F] (.r [.f 5 2 2, .f 6 5 2, .l 7 1 6, .m 8 1, .bin 9 .and 7 8, .bin 10 .neq 9 (.i 0), .m 4 10] .ret)⟩
def c_i_permits : Fun := ⟨261, [], fun ts K => as2 ts fun t0 t1 => arG pWordT t0 fun y => arC (pI .i64) t1 fun p => K (tB (andI y.key.perms p != 0)) []⟩
theorem run_i_permits (y : Word) (p : Int) : runK [] (0) [] pf_i_permits [tG (y.tc []), tI .i64 p] fun r o => r = tB (andI y.key.perms p != 0) ∧ o = [] := by
  conv => whnf
  repeat' (first
    | exact rfl
    | exact trivial
    | (refine sel_i (fun h => ?_) (fun h => ?_) <;> conv => whnf)
    | (refine chk_c ?_ ?_ <;> conv => whnf)
    | (refine And.intro ?_ ?_ <;> conv => whnf))
theorem ok_i_permits : FunOk Tryz.prog c_i_permits := funOk (eN) mixd Tryz.func261 (pf := pf_i_permits) (by kernel_rfl) fun ts K h => by
  obtain ⟨t0, t1, rfl, q0⟩ := as2_out h
  obtain ⟨y, rfl, q1⟩ := arG_out rd_word q0
  obtain ⟨p, rfl, q2⟩ := arC_out (rd_int .i64) q1
  exact ⟨_, _, q2, nb 2 Tryz.f261 (by kernel_rfl), _, run_i_permits y p⟩

def pf_s_Taken : PF := ⟨[.c 4 true 6], .r [.box 2 0, .box 3 1, .alloc 4 zcW] (.seq (.r [.f 5 2 2, .f 6 5 2, .l 7 1 6, .bin 8 .and 7 (.i 8), .bin 9 .eql 8 (.i 0)] (.cond 9 (.r [.L 10 6 3, .c 11 153 [10], .o 6 4 11] .ret) .skip)) (.r [.L 12 6 3, .o 6 4 12] .ret))⟩
def c_s_Taken : Fun := ⟨196, [], fun ts K => as2 ts fun t0 t1 => arG pWordT t0 fun y => arG pWordT t1 fun w => K (tG ((takenW y w).tc [])) []⟩
theorem run_s_Taken (y : Word) (w : Word) : runK [c_s_Bare] (0) [] pf_s_Taken [tG (y.tc []), tG (w.tc [])] fun r o => r = tG ((takenW y w).tc []) ∧ o = [] := by
  conv => whnf
  repeat' (first | ((first | refine sel_i (fun h => ?_) (fun h => ?_) | refine chk_c ?_ ?_) <;> conv => whnf) | refine And.intro ?_ rfl | (refine And.intro ?_ ?_ <;> conv => whnf))
  all_goals (try simp only [etaKey, etaWord, andI_eq, Bool.not_eq_true', Bool.not_eq_false', decide_eq_true_eq, decide_eq_false_iff_not, bne_iff_ne, ne_eq, bne_eq_false_iff_eq, beq_iff_eq, beq_eq_false_iff_ne] at *)
  all_goals
    first
      | (rw [show takenW y w = plainW w.n by simp_all [takenW]]; rfl)
      | (rw [show takenW y w = w by simp_all [takenW]]; rfl)
      | trace_state
theorem ok_s_Taken : FunOk Tryz.prog c_s_Taken := funOk (eK ok_s_Bare eN) mixd Tryz.func196 (pf := pf_s_Taken) (by kernel_rfl) fun ts K h => by
  obtain ⟨t0, t1, rfl, q0⟩ := as2_out h
  obtain ⟨y, rfl, q1⟩ := arG_out rd_word q0
  obtain ⟨w, rfl, q2⟩ := arG_out rd_word q1
  exact ⟨_, _, q2, nb 2 Tryz.f196 (by kernel_rfl), _, run_s_Taken y w⟩

def pf_i_Taken : PF := ⟨[.c 4 true 6], .r [.box 2 0, .box 3 1, .alloc 4 zcW] (.seq (.r [.L 5 6 2, .c 6 261 [5, (.i 8)]] (.cond 6 (.r [.L 7 6 3, .o 6 4 7] .ret) .skip)) (.r [.L 8 6 3, .c 9 216 [8], .o 6 4 9] .ret))⟩
def c_i_Taken : Fun := ⟨245, [], fun ts K => as2 ts fun t0 t1 => arG pWordT t0 fun y => arG pWordT t1 fun w => K (tG ((takenW y w).tc [])) []⟩
theorem run_i_Taken (y : Word) (w : Word) : runK [c_i_Bare, c_i_permits] (0) [] pf_i_Taken [tG (y.tc []), tG (w.tc [])] fun r o => r = tG ((takenW y w).tc []) ∧ o = [] := by
  conv => whnf
  repeat' (first | ((first | refine sel_i (fun h => ?_) (fun h => ?_) | refine chk_c ?_ ?_) <;> conv => whnf) | refine And.intro ?_ rfl | (refine And.intro ?_ ?_ <;> conv => whnf))
  all_goals (try simp only [etaKey, etaWord, andI_eq, Bool.not_eq_true', Bool.not_eq_false', decide_eq_true_eq, decide_eq_false_iff_not, bne_iff_ne, ne_eq, bne_eq_false_iff_eq, beq_iff_eq, beq_eq_false_iff_ne] at *)
  all_goals
    first
      | (rw [show takenW y w = plainW w.n by simp_all [takenW]]; rfl)
      | (rw [show takenW y w = w by simp_all [takenW]]; rfl)
      | trace_state
theorem ok_i_Taken : FunOk Tryz.prog c_i_Taken := funOk (eK ok_i_Bare (eK ok_i_permits eN)) mixd Tryz.func245 (pf := pf_i_Taken) (by kernel_rfl) fun ts K h => by
  obtain ⟨t0, t1, rfl, q0⟩ := as2_out h
  obtain ⟨y, rfl, q1⟩ := arG_out rd_word q0
  obtain ⟨w, rfl, q2⟩ := arG_out rd_word q1
  exact ⟨_, _, q2, nb 2 Tryz.f245 (by kernel_rfl), _, run_i_Taken y w⟩

def pf_s_MayPut : PF := ⟨[.t 4], .r [.box 2 0, .box 3 1, .mv 4 .F] (.r [.f 5 3 1, .l 6 1 5, .bnot 7 6, .m 8 7, .n 8 9 (.fa 9 2 2), .n 8 10 (.fa 10 9 2), .n 8 11 (.load 11 false 1 10), .n 8 12 (.bin 12 .and 11 (.i 16)), .n 8 13 (.bin 13 .neq 12 (.i 0)), .pick 14 8 .T 13, .m 4 14] .ret)⟩
def c_s_MayPut : Fun := ⟨197, [], fun ts K => as2 ts fun t0 t1 => arG pWordT t0 fun y => arG pWordT t1 fun w => K (tB (mayPut y w)) []⟩
theorem run_s_MayPut (y : Word) (w : Word) : runK [] (0) [] pf_s_MayPut [tG (y.tc []), tG (w.tc [])] fun r o => r = tB (mayPut y w) ∧ o = [] := by
  conv => whnf
  repeat' (first | ((first | refine sel_i (fun h => ?_) (fun h => ?_) | refine chk_c ?_ ?_) <;> conv => whnf) | refine And.intro ?_ rfl | (refine And.intro ?_ ?_ <;> conv => whnf))
  all_goals (try simp only [etaKey, etaWord, andI_eq, Bool.not_eq_true', Bool.not_eq_false', decide_eq_true_eq, decide_eq_false_iff_not, bne_iff_ne, ne_eq, bne_eq_false_iff_eq, beq_iff_eq, beq_eq_false_iff_ne] at *)
  all_goals first | (simp_all [mayPut]; done) | (simp_all [mayPut]; omega) | trace_state
theorem ok_s_MayPut : FunOk Tryz.prog c_s_MayPut := funOk (eN) mixd Tryz.func197 (pf := pf_s_MayPut) (by kernel_rfl) fun ts K h => by
  obtain ⟨t0, t1, rfl, q0⟩ := as2_out h
  obtain ⟨y, rfl, q1⟩ := arG_out rd_word q0
  obtain ⟨w, rfl, q2⟩ := arG_out rd_word q1
  exact ⟨_, _, q2, nb 2 Tryz.f197 (by kernel_rfl), _, run_s_MayPut y w⟩

def pf_i_MayPut : PF := ⟨[.t 4], .r [.box 2 0, .box 3 1, .mv 4 .F] (.r [.f 5 3 1, .l 6 1 5, .bnot 7 6, .m 8 7, .n 8 9 (.load 9 true 6 2), .n 8 10 (.call (some 10) 261 [9, (.i 16)]), .pick 11 8 .T 10, .m 4 11] .ret)⟩
def c_i_MayPut : Fun := ⟨246, [], fun ts K => as2 ts fun t0 t1 => arG pWordT t0 fun y => arG pWordT t1 fun w => K (tB (mayPut y w)) []⟩
theorem run_i_MayPut (y : Word) (w : Word) : runK [c_i_permits] (0) [] pf_i_MayPut [tG (y.tc []), tG (w.tc [])] fun r o => r = tB (mayPut y w) ∧ o = [] := by
  conv => whnf
  repeat' (first | ((first | refine sel_i (fun h => ?_) (fun h => ?_) | refine chk_c ?_ ?_) <;> conv => whnf) | refine And.intro ?_ rfl | (refine And.intro ?_ ?_ <;> conv => whnf))
  all_goals (try simp only [etaKey, etaWord, andI_eq, Bool.not_eq_true', Bool.not_eq_false', decide_eq_true_eq, decide_eq_false_iff_not, bne_iff_ne, ne_eq, bne_eq_false_iff_eq, beq_iff_eq, beq_eq_false_iff_ne] at *)
  all_goals first | (simp_all [mayPut]; done) | (simp_all [mayPut]; omega) | trace_state
theorem ok_i_MayPut : FunOk Tryz.prog c_i_MayPut := funOk (eK ok_i_permits eN) mixd Tryz.func246 (pf := pf_i_MayPut) (by kernel_rfl) fun ts K h => by
  obtain ⟨t0, t1, rfl, q0⟩ := as2_out h
  obtain ⟨y, rfl, q1⟩ := arG_out rd_word q0
  obtain ⟨w, rfl, q2⟩ := arG_out rd_word q1
  exact ⟨_, _, q2, nb 2 Tryz.f246 (by kernel_rfl), _, run_i_MayPut y w⟩

def pf_s_l4Open : PF := ⟨[.t 2], .r [.box 1 0, .mv 2 .F] (.r [.L 3 6 1, .c 4 42 [3], .m 5 4, .y 5 6 (.fa 6 1 1), .y 5 7 (.load 7 false 1 6), .pick 8 5 7 .F, .m 9 8, .y 9 10 (.fa 10 1 2), .y 9 11 (.fa 11 10 3), .y 9 12 (.load 12 false 1 11), .y 9 13 (.bin 13 .eql 12 (.i 0)), .pick 14 9 13 .F, .m 2 14] .ret)⟩
def c_s_l4Open : Fun := ⟨200, [], fun ts K => as1 ts fun t0 => arG pWordT t0 fun w => K (tB (openW w)) []⟩
theorem run_s_l4Open (w : Word) : runK [c_s_WordOk] (0) [] pf_s_l4Open [tG (w.tc [])] fun r o => r = tB (openW w) ∧ o = [] := by
  conv => whnf
  repeat' (first | ((first | refine sel_i (fun h => ?_) (fun h => ?_) | refine chk_c ?_ ?_) <;> conv => whnf) | refine And.intro ?_ rfl | (refine And.intro ?_ ?_ <;> conv => whnf))
  all_goals (try simp only [etaKey, etaWord, andI_eq, Bool.not_eq_true', Bool.not_eq_false', decide_eq_true_eq, decide_eq_false_iff_not, bne_iff_ne, ne_eq, bne_eq_false_iff_eq, beq_iff_eq, beq_eq_false_iff_ne] at *)
  all_goals first | (simp_all [openW]; done) | (simp_all [openW]; omega) | trace_state
theorem ok_s_l4Open : FunOk Tryz.prog c_s_l4Open := funOk (eK ok_s_WordOk eN) mixd Tryz.func200 (pf := pf_s_l4Open) (by kernel_rfl) fun ts K h => by
  obtain ⟨t0, rfl, q0⟩ := as1_out h
  obtain ⟨w, rfl, q1⟩ := arG_out rd_word q0
  exact ⟨_, _, q1, nb 1 Tryz.f200 (by kernel_rfl), _, run_s_l4Open w⟩

def pf_i_open : PF := ⟨[.t 2], .r [.box 1 0, .mv 2 .F] (.r [.L 3 6 1, .c 4 65 [3], .m 5 4, .y 5 6 (.fa 6 1 1), .y 5 7 (.load 7 false 1 6), .pick 8 5 7 .F, .m 9 8, .y 9 10 (.fa 10 1 2), .y 9 11 (.fa 11 10 3), .y 9 12 (.load 12 false 1 11), .y 9 13 (.bin 13 .eql 12 (.i 0)), .pick 14 9 13 .F, .m 2 14] .ret)⟩
def c_i_open : Fun := ⟨259, [], fun ts K => as1 ts fun t0 => arG pWordT t0 fun w => K (tB (openW w)) []⟩
theorem run_i_open (w : Word) : runK [c_i_WordOk] (0) [] pf_i_open [tG (w.tc [])] fun r o => r = tB (openW w) ∧ o = [] := by
  conv => whnf
  repeat' (first | ((first | refine sel_i (fun h => ?_) (fun h => ?_) | refine chk_c ?_ ?_) <;> conv => whnf) | refine And.intro ?_ rfl | (refine And.intro ?_ ?_ <;> conv => whnf))
  all_goals (try simp only [etaKey, etaWord, andI_eq, Bool.not_eq_true', Bool.not_eq_false', decide_eq_true_eq, decide_eq_false_iff_not, bne_iff_ne, ne_eq, bne_eq_false_iff_eq, beq_iff_eq, beq_eq_false_iff_ne] at *)
  all_goals first | (simp_all [openW]; done) | (simp_all [openW]; omega) | trace_state
theorem ok_i_open : FunOk Tryz.prog c_i_open := funOk (eK ok_i_WordOk eN) mixd Tryz.func259 (pf := pf_i_open) (by kernel_rfl) fun ts K h => by
  obtain ⟨t0, rfl, q0⟩ := as1_out h
  obtain ⟨w, rfl, q1⟩ := arG_out rd_word q0
  exact ⟨_, _, q1, nb 1 Tryz.f259 (by kernel_rfl), _, run_i_open w⟩

def pf_s_Weaken : PF := ⟨[.c 4 true 6], .r [.box 2 0, .alloc 4 zcW] (.seq (.r [.L 5 6 2, .c 6 200 [5], .bnot 7 6] (.cond 7 (.r [.L 8 6 2, .c 9 153 [8], .o 6 4 9] .ret) .skip)) (.r [.f 10 2 2, .f 11 10 2, .l 12 1 11, .m 13 1, .bin 14 .and 13 (.i 63), .bin 15 .and 12 14, .f 16 2 2, .f 17 16 2, .o 1 17 15] (.r [.L 18 6 2, .o 6 4 18] .ret)))⟩
def c_s_Weaken : Fun := ⟨234, [], fun ts K => as2 ts fun t0 t1 => arG pWordT t0 fun w => arC (pI .i64) t1 fun m => K (tG ((weakenW w m).tc [])) []⟩
theorem run_s_Weaken (w : Word) (m : Int) : runK [c_s_Bare, c_s_l4Open] (0) [] pf_s_Weaken [tG (w.tc []), tI .i64 m] fun r o => r = tG ((weakenW w m).tc []) ∧ o = [] := by
  conv => whnf
  repeat' (first | ((first | refine sel_i (fun h => ?_) (fun h => ?_) | refine chk_c ?_ ?_) <;> conv => whnf) | refine And.intro ?_ rfl | (refine And.intro ?_ ?_ <;> conv => whnf))
  all_goals (try simp only [etaKey, etaWord, andI_eq, Bool.not_eq_true', Bool.not_eq_false', decide_eq_true_eq, decide_eq_false_iff_not, bne_iff_ne, ne_eq, bne_eq_false_iff_eq, beq_iff_eq, beq_eq_false_iff_ne] at *)
  all_goals
    first
      | (rw [show weakenW w m = plainW w.n by simp_all [weakenW]]; rfl)
      | (rw [show weakenW w m = { w with key := { w.key with perms := andI w.key.perms (andI m 63) } } by simp_all [weakenW]]; rfl)
      | trace_state
theorem ok_s_Weaken : FunOk Tryz.prog c_s_Weaken := funOk (eK ok_s_Bare (eK ok_s_l4Open eN)) mixd Tryz.func234 (pf := pf_s_Weaken) (by kernel_rfl) fun ts K h => by
  obtain ⟨t0, t1, rfl, q0⟩ := as2_out h
  obtain ⟨w, rfl, q1⟩ := arG_out rd_word q0
  obtain ⟨m, rfl, q2⟩ := arC_out (rd_int .i64) q1
  exact ⟨_, _, q2, nb 2 Tryz.f234 (by kernel_rfl), _, run_s_Weaken w m⟩

def pf_i_Weaken : PF := ⟨[.c 4 true 6], .r [.box 2 0, .alloc 4 zcW] (.seq (.r [.L 5 6 2, .c 6 259 [5], .bnot 7 6] (.cond 7 (.r [.L 8 6 2, .c 9 216 [8], .o 6 4 9] .ret) .skip)) (.r [.f 10 2 2, .f 11 10 2, .l 12 1 11, .m 13 1, .bin 14 .and 13 (.i 63), .bin 15 .and 12 14, .f 16 2 2, .f 17 16 2, .o 1 17 15] (.r [.L 18 6 2, .o 6 4 18] .ret)))⟩
def c_i_Weaken : Fun := ⟨262, [], fun ts K => as2 ts fun t0 t1 => arG pWordT t0 fun w => arC (pI .i64) t1 fun m => K (tG ((weakenW w m).tc [])) []⟩
theorem run_i_Weaken (w : Word) (m : Int) : runK [c_i_Bare, c_i_open] (0) [] pf_i_Weaken [tG (w.tc []), tI .i64 m] fun r o => r = tG ((weakenW w m).tc []) ∧ o = [] := by
  conv => whnf
  repeat' (first | ((first | refine sel_i (fun h => ?_) (fun h => ?_) | refine chk_c ?_ ?_) <;> conv => whnf) | refine And.intro ?_ rfl | (refine And.intro ?_ ?_ <;> conv => whnf))
  all_goals (try simp only [etaKey, etaWord, andI_eq, Bool.not_eq_true', Bool.not_eq_false', decide_eq_true_eq, decide_eq_false_iff_not, bne_iff_ne, ne_eq, bne_eq_false_iff_eq, beq_iff_eq, beq_eq_false_iff_ne] at *)
  all_goals
    first
      | (rw [show weakenW w m = plainW w.n by simp_all [weakenW]]; rfl)
      | (rw [show weakenW w m = { w with key := { w.key with perms := andI w.key.perms (andI m 63) } } by simp_all [weakenW]]; rfl)
      | trace_state
theorem ok_i_Weaken : FunOk Tryz.prog c_i_Weaken := funOk (eK ok_i_Bare (eK ok_i_open eN)) mixd Tryz.func262 (pf := pf_i_Weaken) (by kernel_rfl) fun ts K h => by
  obtain ⟨t0, t1, rfl, q0⟩ := as2_out h
  obtain ⟨w, rfl, q1⟩ := arG_out rd_word q0
  obtain ⟨m, rfl, q2⟩ := arC_out (rd_int .i64) q1
  exact ⟨_, _, q2, nb 2 Tryz.f262 (by kernel_rfl), _, run_i_Weaken w m⟩

def pf_s_Point : PF := ⟨[.c 4 true 6], .r [.box 2 0, .alloc 4 zcW] (.seq (.r [.L 5 6 2, .c 6 200 [5], .bnot 7 6] (.cond 7 (.r [.m 8 1, .c 9 150 [8], .o 6 4 9] .ret) .skip)) (.r [.m 10 1, .bin 11 .and 10 (.i 65535), .f 12 2 0, .o 1 12 11] (.r [.L 13 6 2, .o 6 4 13] .ret)))⟩
def c_s_Point : Fun := ⟨152, [], fun ts K => as2 ts fun t0 t1 => arG pWordT t0 fun w => arC (pI .i64) t1 fun n => K (tG ((pointW w n).tc [])) []⟩
theorem run_s_Point (w : Word) (n : Int) : runK [c_s_Plain, c_s_l4Open] (0) [] pf_s_Point [tG (w.tc []), tI .i64 n] fun r o => r = tG ((pointW w n).tc []) ∧ o = [] := by
  conv => whnf
  repeat' (first | ((first | refine sel_i (fun h => ?_) (fun h => ?_) | refine chk_c ?_ ?_) <;> conv => whnf) | refine And.intro ?_ rfl | (refine And.intro ?_ ?_ <;> conv => whnf))
  all_goals (try simp only [etaKey, etaWord, andI_eq, Bool.not_eq_true', Bool.not_eq_false', decide_eq_true_eq, decide_eq_false_iff_not, bne_iff_ne, ne_eq, bne_eq_false_iff_eq, beq_iff_eq, beq_eq_false_iff_ne] at *)
  all_goals
    first
      | (rw [show pointW w n = plainW n by simp_all [pointW]]; rfl)
      | (rw [show pointW w n = ⟨andI n 65535, true, w.key⟩ by simp_all [pointW]]; rfl)
      | (rw [show pointW w n = ⟨andI n 65535, w.is, w.key⟩ by (have hi := openW_is h; simp_all [pointW])]; rfl)
      | trace_state
theorem ok_s_Point : FunOk Tryz.prog c_s_Point := funOk (eK ok_s_Plain (eK ok_s_l4Open eN)) mixd Tryz.func152 (pf := pf_s_Point) (by kernel_rfl) fun ts K h => by
  obtain ⟨t0, t1, rfl, q0⟩ := as2_out h
  obtain ⟨w, rfl, q1⟩ := arG_out rd_word q0
  obtain ⟨n, rfl, q2⟩ := arC_out (rd_int .i64) q1
  exact ⟨_, _, q2, nb 2 Tryz.f152 (by kernel_rfl), _, run_s_Point w n⟩

def pf_i_Point : PF := ⟨[.c 4 true 6], .r [.box 2 0, .alloc 4 zcW] (.r [.m 6 1, .c 7 221 [6], .alloc 5 zcW, .o 6 5 7] (.seq (.r [.L 8 6 2, .c 9 259 [8]] (.cond 9 (.rgd [] [.f 10 2 2, .L 11 4 10, .f 12 5 1, .s (.store 1 12 .T), .f 13 5 2, .o 4 13 11] (.ts [0, 2] (.alt 1 false (.one 3 true (.tk 4 (.one 5 true (.done (some [4, 5]))))) (.alt 3 true (.one 1 true (.tk 4 (.one 5 true (.done (some [4, 5]))))) .nil)))) .skip)) (.r [.L 14 6 5, .o 6 4 14] .ret)))⟩
def c_i_Point : Fun := ⟨242, [], fun ts K => as2 ts fun t0 t1 => arG pWordT t0 fun w => arC (pI .i64) t1 fun n => K (tG ((pointW w n).tc [])) []⟩
theorem run_i_Point (w : Word) (n : Int) : runK [c_i_Plain, c_i_open] (0) [] pf_i_Point [tG (w.tc []), tI .i64 n] fun r o => r = tG ((pointW w n).tc []) ∧ o = [] := by
  conv => whnf
  repeat' (first | ((first | refine sel_i (fun h => ?_) (fun h => ?_) | refine chk_c ?_ ?_) <;> conv => whnf) | refine And.intro ?_ rfl | (refine And.intro ?_ ?_ <;> conv => whnf))
  all_goals (try simp only [etaKey, etaWord, andI_eq, Bool.not_eq_true', Bool.not_eq_false', decide_eq_true_eq, decide_eq_false_iff_not, bne_iff_ne, ne_eq, bne_eq_false_iff_eq, beq_iff_eq, beq_eq_false_iff_ne] at *)
  all_goals
    first
      | (rw [show pointW w n = plainW n by simp_all [pointW]]; rfl)
      | (rw [show pointW w n = ⟨andI n 65535, true, w.key⟩ by simp_all [pointW]]; rfl)
      | (rw [show pointW w n = ⟨andI n 65535, w.is, w.key⟩ by (have hi := openW_is h; simp_all [pointW])]; rfl)
      | trace_state
theorem ok_i_Point : FunOk Tryz.prog c_i_Point := funOk (eK ok_i_Plain (eK ok_i_open eN)) mixd Tryz.func242 (pf := pf_i_Point) (by kernel_rfl) fun ts K h => by
  obtain ⟨t0, t1, rfl, q0⟩ := as2_out h
  obtain ⟨w, rfl, q1⟩ := arG_out rd_word q0
  obtain ⟨n, rfl, q2⟩ := arC_out (rd_int .i64) q1
  exact ⟨_, _, q2, nb 2 Tryz.f242 (by kernel_rfl), _, run_i_Point w n⟩

def pf_s_l4Sealer : PF := ⟨[.t 2], .r [.box 1 0, .mv 2 .F] (.r [.L 3 6 1, .c 4 200 [3], .m 5 4, .y 5 6 (.fa 6 1 2), .y 5 7 (.fa 7 6 2), .y 5 8 (.load 8 false 1 7), .y 5 9 (.bin 9 .and 8 (.i 32)), .y 5 10 (.bin 10 .neq 9 (.i 0)), .pick 11 5 10 .F, .m 12 11, .y 12 13 (.fa 13 1 0), .y 12 14 (.load 14 false 1 13), .y 12 15 (.fa 15 1 2), .y 12 16 (.fa 16 15 0), .y 12 17 (.load 17 false 1 16), .y 12 18 (.bin 18 .geq 14 17), .pick 19 12 18 .F, .m 20 19, .y 20 21 (.fa 21 1 0), .y 20 22 (.load 22 false 1 21), .y 20 23 (.fa 23 1 2), .y 20 24 (.fa 24 23 1), .y 20 25 (.load 25 false 1 24), .y 20 26 (.bin 26 .lss 22 25), .pick 27 20 26 .F, .m 28 27, .y 28 29 (.fa 29 1 0), .y 28 30 (.load 30 false 1 29), .y 28 31 (.call (some 31) 53 [30, (.i 1), (.i 7)]), .pick 32 28 31 .F, .m 2 32] .ret)⟩
def c_s_l4Sealer : Fun := ⟨258, [], fun ts K => as1 ts fun t0 => arG pWordT t0 fun y => K (tB (sealsB y)) []⟩
theorem run_s_l4Sealer (y : Word) : runK [c_s_l1In, c_s_l4Open] (0) [] pf_s_l4Sealer [tG (y.tc [])] fun r o => r = tB (sealsB y) ∧ o = [] := by
  conv => whnf
  repeat' (first | ((first | refine sel_i (fun h => ?_) (fun h => ?_) | refine chk_c ?_ ?_) <;> conv => whnf) | refine And.intro ?_ rfl | (refine And.intro ?_ ?_ <;> conv => whnf))
  all_goals (try simp only [etaKey, etaWord, andI_eq, Bool.not_eq_true', Bool.not_eq_false', decide_eq_true_eq, decide_eq_false_iff_not, bne_iff_ne, ne_eq, bne_eq_false_iff_eq, beq_iff_eq, beq_eq_false_iff_ne] at *)
  all_goals first | (simp_all [sealsB]; done) | (simp_all [sealsB]; omega) | trace_state
theorem ok_s_l4Sealer : FunOk Tryz.prog c_s_l4Sealer := funOk (eK ok_s_l1In (eK ok_s_l4Open eN)) mixd Tryz.func258 (pf := pf_s_l4Sealer) (by kernel_rfl) fun ts K h => by
  obtain ⟨t0, rfl, q0⟩ := as1_out h
  obtain ⟨y, rfl, q1⟩ := arG_out rd_word q0
  exact ⟨_, _, q1, nb 1 Tryz.f258 (by kernel_rfl), _, run_s_l4Sealer y⟩

def pf_i_seals : PF := ⟨[.t 2], .r [.box 1 0, .mv 2 .F] (.r [.L 3 6 1, .c 4 259 [3], .m 5 4, .y 5 6 (.fa 6 1 2), .y 5 7 (.fa 7 6 2), .y 5 8 (.load 8 false 1 7), .y 5 9 (.bin 9 .and 8 (.i 32)), .y 5 10 (.bin 10 .neq 9 (.i 0)), .pick 11 5 10 .F, .m 12 11, .y 12 13 (.fa 13 1 0), .y 12 14 (.load 14 false 1 13), .y 12 15 (.fa 15 1 2), .y 12 16 (.fa 16 15 0), .y 12 17 (.load 17 false 1 16), .y 12 18 (.bin 18 .geq 14 17), .pick 19 12 18 .F, .m 20 19, .y 20 21 (.fa 21 1 0), .y 20 22 (.load 22 false 1 21), .y 20 23 (.fa 23 1 2), .y 20 24 (.fa 24 23 1), .y 20 25 (.load 25 false 1 24), .y 20 26 (.bin 26 .lss 22 25), .pick 27 20 26 .F, .m 28 27, .y 28 29 (.fa 29 1 0), .y 28 30 (.load 30 false 1 29), .y 28 31 (.call (some 31) 112 [30, (.i 1), (.i 7)]), .pick 32 28 31 .F, .m 2 32] .ret)⟩
def c_i_seals : Fun := ⟨271, [], fun ts K => as1 ts fun t0 => arG pWordT t0 fun y => K (tB (sealsB y)) []⟩
theorem run_i_seals (y : Word) : runK [c_i_in, c_i_open] (0) [] pf_i_seals [tG (y.tc [])] fun r o => r = tB (sealsB y) ∧ o = [] := by
  conv => whnf
  repeat' (first | ((first | refine sel_i (fun h => ?_) (fun h => ?_) | refine chk_c ?_ ?_) <;> conv => whnf) | refine And.intro ?_ rfl | (refine And.intro ?_ ?_ <;> conv => whnf))
  all_goals (try simp only [etaKey, etaWord, andI_eq, Bool.not_eq_true', Bool.not_eq_false', decide_eq_true_eq, decide_eq_false_iff_not, bne_iff_ne, ne_eq, bne_eq_false_iff_eq, beq_iff_eq, beq_eq_false_iff_ne] at *)
  all_goals first | (simp_all [sealsB]; done) | (simp_all [sealsB]; omega) | trace_state
theorem ok_i_seals : FunOk Tryz.prog c_i_seals := funOk (eK ok_i_in (eK ok_i_open eN)) mixd Tryz.func271 (pf := pf_i_seals) (by kernel_rfl) fun ts K h => by
  obtain ⟨t0, rfl, q0⟩ := as1_out h
  obtain ⟨y, rfl, q1⟩ := arG_out rd_word q0
  exact ⟨_, _, q1, nb 1 Tryz.f271 (by kernel_rfl), _, run_i_seals y⟩

def pf_s_SealBy : PF := ⟨[.c 4 true 6], .r [.box 2 0, .box 3 1, .alloc 4 zcW] (.seq (.r [.L 5 6 2, .c 6 200 [5], .bnot 7 6, .m 8 7, .n 8 9 (.load 9 true 6 3), .n 8 10 (.call (some 10) 258 [9]), .n 8 11 (.bnot 11 10), .pick 12 8 .T 11] (.cond 12 (.r [.L 13 6 2, .c 14 153 [13], .o 6 4 14] .ret) .skip)) (.r [.f 15 3 0, .l 16 1 15, .f 17 2 2, .f 18 17 3, .o 1 18 16] (.r [.L 19 6 2, .o 6 4 19] .ret)))⟩
def c_s_SealBy : Fun := ⟨236, [], fun ts K => as2 ts fun t0 t1 => arG pWordT t0 fun w => arG pWordT t1 fun y => K (tG ((sealBy w y).tc [])) []⟩
theorem run_s_SealBy (w : Word) (y : Word) : runK [c_s_Bare, c_s_l4Open, c_s_l4Sealer] (0) [] pf_s_SealBy [tG (w.tc []), tG (y.tc [])] fun r o => r = tG ((sealBy w y).tc []) ∧ o = [] := by
  conv => whnf
  repeat' (first | ((first | refine sel_i (fun h => ?_) (fun h => ?_) | refine chk_c ?_ ?_) <;> conv => whnf) | refine And.intro ?_ rfl | (refine And.intro ?_ ?_ <;> conv => whnf))
  all_goals (try simp only [etaKey, etaWord, andI_eq, Bool.not_eq_true', Bool.not_eq_false', decide_eq_true_eq, decide_eq_false_iff_not, bne_iff_ne, ne_eq, bne_eq_false_iff_eq, beq_iff_eq, beq_eq_false_iff_ne] at *)
  all_goals
    first
      | (rw [show sealBy w y = plainW w.n by simp_all [sealBy]]; rfl)
      | (rw [show sealBy w y = { w with key := { w.key with sealed := y.n } } by simp_all [sealBy]]; rfl)
      | trace_state
theorem ok_s_SealBy : FunOk Tryz.prog c_s_SealBy := funOk (eK ok_s_Bare (eK ok_s_l4Open (eK ok_s_l4Sealer eN))) mixd Tryz.func236 (pf := pf_s_SealBy) (by kernel_rfl) fun ts K h => by
  obtain ⟨t0, t1, rfl, q0⟩ := as2_out h
  obtain ⟨w, rfl, q1⟩ := arG_out rd_word q0
  obtain ⟨y, rfl, q2⟩ := arG_out rd_word q1
  exact ⟨_, _, q2, nb 2 Tryz.f236 (by kernel_rfl), _, run_s_SealBy w y⟩

def pf_i_SealBy : PF := ⟨[.c 4 true 6], .r [.box 2 0, .box 3 1, .alloc 4 zcW] (.seq (.r [.L 5 6 2, .c 6 259 [5], .bnot 7 6, .m 8 7, .n 8 9 (.load 9 true 6 3), .n 8 10 (.call (some 10) 271 [9]), .n 8 11 (.bnot 11 10), .pick 12 8 .T 11] (.cond 12 (.r [.L 13 6 2, .c 14 216 [13], .o 6 4 14] .ret) .skip)) (.r [.f 15 3 0, .l 16 1 15, .f 17 2 2, .f 18 17 3, .o 1 18 16] (.r [.L 19 6 2, .o 6 4 19] .ret)))⟩
def c_i_SealBy : Fun := ⟨264, [], fun ts K => as2 ts fun t0 t1 => arG pWordT t0 fun w => arG pWordT t1 fun y => K (tG ((sealBy w y).tc [])) []⟩
theorem run_i_SealBy (w : Word) (y : Word) : runK [c_i_Bare, c_i_open, c_i_seals] (0) [] pf_i_SealBy [tG (w.tc []), tG (y.tc [])] fun r o => r = tG ((sealBy w y).tc []) ∧ o = [] := by
  conv => whnf
  repeat' (first | ((first | refine sel_i (fun h => ?_) (fun h => ?_) | refine chk_c ?_ ?_) <;> conv => whnf) | refine And.intro ?_ rfl | (refine And.intro ?_ ?_ <;> conv => whnf))
  all_goals (try simp only [etaKey, etaWord, andI_eq, Bool.not_eq_true', Bool.not_eq_false', decide_eq_true_eq, decide_eq_false_iff_not, bne_iff_ne, ne_eq, bne_eq_false_iff_eq, beq_iff_eq, beq_eq_false_iff_ne] at *)
  all_goals
    first
      | (rw [show sealBy w y = plainW w.n by simp_all [sealBy]]; rfl)
      | (rw [show sealBy w y = { w with key := { w.key with sealed := y.n } } by simp_all [sealBy]]; rfl)
      | trace_state
theorem ok_i_SealBy : FunOk Tryz.prog c_i_SealBy := funOk (eK ok_i_Bare (eK ok_i_open (eK ok_i_seals eN))) mixd Tryz.func264 (pf := pf_i_SealBy) (by kernel_rfl) fun ts K h => by
  obtain ⟨t0, t1, rfl, q0⟩ := as2_out h
  obtain ⟨w, rfl, q1⟩ := arG_out rd_word q0
  obtain ⟨y, rfl, q2⟩ := arG_out rd_word q1
  exact ⟨_, _, q2, nb 2 Tryz.f264 (by kernel_rfl), _, run_i_SealBy w y⟩

def pf_s_OpenBy : PF := ⟨[.c 4 true 6], .r [.box 2 0, .box 3 1, .alloc 4 zcW] (.seq (.r [.L 5 6 2, .c 6 42 [5], .bnot 7 6, .m 8 7, .n 8 9 (.fa 9 2 1), .n 8 10 (.load 10 false 1 9), .n 8 11 (.bnot 11 10), .pick 12 8 .T 11, .m 13 12, .n 13 14 (.load 14 true 6 3), .n 13 15 (.call (some 15) 258 [14]), .n 13 16 (.bnot 16 15), .pick 17 13 .T 16, .m 18 17, .n 18 19 (.fa 19 2 2), .n 18 20 (.fa 20 19 3), .n 18 21 (.load 21 false 1 20), .n 18 22 (.fa 22 3 0), .n 18 23 (.load 23 false 1 22), .n 18 24 (.bin 24 .neq 21 23), .pick 25 18 .T 24] (.cond 25 (.r [.L 26 6 2, .c 27 153 [26], .o 6 4 27] .ret) .skip)) (.r [.f 28 2 2, .f 29 28 3, .s (.store 1 29 (.i 0))] (.r [.L 30 6 2, .o 6 4 30] .ret)))⟩
def c_s_OpenBy : Fun := ⟨237, [], fun ts K => as2 ts fun t0 t1 => arG pWordT t0 fun w => arG pWordT t1 fun y => K (tG ((openBy w y).tc [])) []⟩
theorem run_s_OpenBy (w : Word) (y : Word) : runK [c_s_WordOk, c_s_Bare, c_s_l4Sealer] (0) [] pf_s_OpenBy [tG (w.tc []), tG (y.tc [])] fun r o => r = tG ((openBy w y).tc []) ∧ o = [] := by
  conv => whnf
  repeat' (first | ((first | refine sel_i (fun h => ?_) (fun h => ?_) | refine chk_c ?_ ?_) <;> conv => whnf) | refine And.intro ?_ rfl | (refine And.intro ?_ ?_ <;> conv => whnf))
  all_goals (try simp only [etaKey, etaWord, andI_eq, Bool.not_eq_true', Bool.not_eq_false', decide_eq_true_eq, decide_eq_false_iff_not, bne_iff_ne, ne_eq, bne_eq_false_iff_eq, beq_iff_eq, beq_eq_false_iff_ne] at *)
  all_goals
    first
      | (rw [show openBy w y = plainW w.n by simp_all [openBy]]; rfl)
      | (rw [show openBy w y = { w with key := { w.key with sealed := 0 } } by simp_all [openBy]]; rfl)
      | trace_state
theorem ok_s_OpenBy : FunOk Tryz.prog c_s_OpenBy := funOk (eK ok_s_WordOk (eK ok_s_Bare (eK ok_s_l4Sealer eN))) mixd Tryz.func237 (pf := pf_s_OpenBy) (by kernel_rfl) fun ts K h => by
  obtain ⟨t0, t1, rfl, q0⟩ := as2_out h
  obtain ⟨w, rfl, q1⟩ := arG_out rd_word q0
  obtain ⟨y, rfl, q2⟩ := arG_out rd_word q1
  exact ⟨_, _, q2, nb 2 Tryz.f237 (by kernel_rfl), _, run_s_OpenBy w y⟩

def pf_i_OpenBy : PF := ⟨[.c 4 true 6], .r [.box 2 0, .box 3 1, .alloc 4 zcW] (.seq (.r [.L 5 6 2, .c 6 65 [5], .bnot 7 6, .m 8 7, .n 8 9 (.fa 9 2 1), .n 8 10 (.load 10 false 1 9), .n 8 11 (.bnot 11 10), .pick 12 8 .T 11, .m 13 12, .n 13 14 (.load 14 true 6 3), .n 13 15 (.call (some 15) 271 [14]), .n 13 16 (.bnot 16 15), .pick 17 13 .T 16, .m 18 17, .n 18 19 (.fa 19 2 2), .n 18 20 (.fa 20 19 3), .n 18 21 (.load 21 false 1 20), .n 18 22 (.fa 22 3 0), .n 18 23 (.load 23 false 1 22), .n 18 24 (.bin 24 .neq 21 23), .pick 25 18 .T 24] (.cond 25 (.r [.L 26 6 2, .c 27 216 [26], .o 6 4 27] .ret) .skip)) (.r [.f 28 2 2, .f 29 28 3, .s (.store 1 29 (.i 0))] (.r [.L 30 6 2, .o 6 4 30] .ret)))⟩
def c_i_OpenBy : Fun := ⟨265, [], fun ts K => as2 ts fun t0 t1 => arG pWordT t0 fun w => arG pWordT t1 fun y => K (tG ((openBy w y).tc [])) []⟩
theorem run_i_OpenBy (w : Word) (y : Word) : runK [c_i_WordOk, c_i_Bare, c_i_seals] (0) [] pf_i_OpenBy [tG (w.tc []), tG (y.tc [])] fun r o => r = tG ((openBy w y).tc []) ∧ o = [] := by
  conv => whnf
  repeat' (first | ((first | refine sel_i (fun h => ?_) (fun h => ?_) | refine chk_c ?_ ?_) <;> conv => whnf) | refine And.intro ?_ rfl | (refine And.intro ?_ ?_ <;> conv => whnf))
  all_goals (try simp only [etaKey, etaWord, andI_eq, Bool.not_eq_true', Bool.not_eq_false', decide_eq_true_eq, decide_eq_false_iff_not, bne_iff_ne, ne_eq, bne_eq_false_iff_eq, beq_iff_eq, beq_eq_false_iff_ne] at *)
  all_goals
    first
      | (rw [show openBy w y = plainW w.n by simp_all [openBy]]; rfl)
      | (rw [show openBy w y = { w with key := { w.key with sealed := 0 } } by simp_all [openBy]]; rfl)
      | trace_state
theorem ok_i_OpenBy : FunOk Tryz.prog c_i_OpenBy := funOk (eK ok_i_WordOk (eK ok_i_Bare (eK ok_i_seals eN))) mixd Tryz.func265 (pf := pf_i_OpenBy) (by kernel_rfl) fun ts K h => by
  obtain ⟨t0, t1, rfl, q0⟩ := as2_out h
  obtain ⟨w, rfl, q1⟩ := arG_out rd_word q0
  obtain ⟨y, rfl, q2⟩ := arG_out rd_word q1
  exact ⟨_, _, q2, nb 2 Tryz.f265 (by kernel_rfl), _, run_i_OpenBy w y⟩

theorem narrow_no {w : Word} {n : Int} (h : ¬ (openW w = true ∧ (0 ≤ n ∧ n ≤ 4096) ∧ boundsOk w.n (IntKind.i64.wrap (w.n + n)) = true)) : narrowW w n = plainW w.n := by
  unfold narrowW
  rw [if_neg]
  intro hh
  simp only [Bool.and_eq_true, inR_t] at hh
  exact h ⟨hh.1.1, hh.1.2, hh.2⟩
theorem narrow_yes {w : Word} {n : Int} (h : openW w = true ∧ (0 ≤ n ∧ n ≤ 4096) ∧ boundsOk w.n (IntKind.i64.wrap (w.n + n)) = true) : narrowW w n = if (wide w.n (IntKind.i64.wrap (w.n + n))).1 < w.key.base ∨ w.key.top < (wide w.n (IntKind.i64.wrap (w.n + n))).2 then plainW w.n else { w with key := { w.key with base := (wide w.n (IntKind.i64.wrap (w.n + n))).1, top := (wide w.n (IntKind.i64.wrap (w.n + n))).2 } } := by
  unfold narrowW
  rw [if_pos]
  simp only [Bool.and_eq_true, inR_t]
  exact ⟨⟨h.1, h.2.1⟩, h.2.2⟩

def pf_s_Narrow : PF := ⟨[.c 4 true 6], .r [.box 2 0, .alloc 4 zcW] (.seq (.r [.L 7 6 2, .c 8 200 [7], .bnot 9 8, .m 10 9, .n 10 11 (.mv 11 1), .n 10 12 (.call (some 12) 53 [11, (.i 0), (.i 4096)]), .n 10 13 (.bnot 13 12), .pick 14 10 .T 13, .m 15 14, .n 15 16 (.fa 16 2 0), .n 15 17 (.load 17 false 1 16), .n 15 18 (.fa 18 2 0), .n 15 19 (.load 19 false 1 18), .n 15 20 (.mv 20 1), .n 15 21 (.bin 21 .add 19 20), .n 15 22 (.call (some 22) 190 [17, 21]), .n 15 23 (.bnot 23 22), .pick 24 15 .T 23] (.cond 24 (.r [.L 25 6 2, .c 26 153 [25], .o 6 4 26] .ret) .skip)) (.r [.f 28 2 0, .l 29 1 28, .f 30 2 0, .l 31 1 30, .m 32 1, .bin 33 .add 31 32, .c 34 189 [29, 33], .m 27 34, .ext 35 27 0, .ext 36 27 1, .m 5 35, .m 6 36] (.seq (.r [.m 37 5, .f 38 2 2, .f 39 38 0, .l 40 1 39, .bin 41 .lss 37 40, .m 42 41, .n 42 43 (.mv 43 6), .n 42 44 (.fa 44 2 2), .n 42 45 (.fa 45 44 1), .n 42 46 (.load 46 false 1 45), .n 42 47 (.bin 47 .gtr 43 46), .pick 48 42 .T 47] (.cond 48 (.r [.L 49 6 2, .c 50 153 [49], .o 6 4 50] .ret) .skip)) (.r [.m 51 5, .f 52 2 2, .f 53 52 0, .o 1 53 51] (.r [.m 54 6, .f 55 2 2, .f 56 55 1, .o 1 56 54] (.r [.L 57 6 2, .o 6 4 57] .ret))))))⟩
def c_s_Narrow : Fun := ⟨235, [], fun ts K => as2 ts fun t0 t1 => arG pWordT t0 fun w => arC (pI .i64) t1 fun n => K (tG ((narrowW w n).tc [])) []⟩
theorem run_s_Narrow (w : Word) (n : Int) : runK [c_s_l1In, c_s_Bare, c_s_Wide, c_s_BoundsOk, c_s_l4Open] (0) [] pf_s_Narrow [tG (w.tc []), tI .i64 n] fun r o => r = tG ((narrowW w n).tc []) ∧ o = [] := by
  by_cases hc : openW w = true ∧ (0 ≤ n ∧ n ≤ 4096) ∧ boundsOk w.n (IntKind.i64.wrap (w.n + n)) = true
  · rw [narrow_yes hc]
    obtain ⟨g1, g2, g3⟩ := hc
    conv => whnf
    repeat' (first | ((first | refine sel_i (fun h => ?_) (fun h => ?_) | refine chk_c ?_ ?_) <;> conv => whnf) | refine And.intro ?_ rfl | (refine And.intro ?_ ?_ <;> conv => whnf))
    all_goals (try simp only [etaKey, etaWord, inR_t, inR_f, g1, g3, Bool.not_eq_true', Bool.not_eq_false', Bool.true_eq_false, Bool.not_true, Bool.false_eq_true, decide_eq_true_eq, decide_eq_false_iff_not] at *)
    all_goals first
      | contradiction
      | (exfalso; omega)
      | (rw [if_pos (by omega)]; rfl)
      | (rw [if_neg (by omega)]; rfl)
      | trace_state
  · rw [narrow_no hc]
    conv => whnf
    repeat' (first | ((first | refine sel_i (fun h => ?_) (fun h => ?_) | refine chk_c ?_ ?_) <;> conv => whnf) | refine And.intro ?_ rfl | (refine And.intro ?_ ?_ <;> conv => whnf))
    all_goals (try simp only [etaKey, etaWord, inR_t, inR_f, Bool.not_eq_true', Bool.not_eq_false', decide_eq_true_eq, decide_eq_false_iff_not] at *)
    all_goals first
      | rfl
      | exact absurd ⟨by assumption, by omega, by assumption⟩ hc
      | trace_state
theorem ok_s_Narrow : FunOk Tryz.prog c_s_Narrow := funOk (eK ok_s_l1In (eK ok_s_Bare (eK ok_s_Wide (eK ok_s_BoundsOk (eK ok_s_l4Open eN))))) mixd Tryz.func235 (pf := pf_s_Narrow) (by kernel_rfl) fun ts K h => by
  obtain ⟨t0, t1, rfl, q0⟩ := as2_out h
  obtain ⟨w, rfl, q1⟩ := arG_out rd_word q0
  obtain ⟨n, rfl, q2⟩ := arC_out (rd_int .i64) q1
  exact ⟨_, _, q2, nb 2 Tryz.f235 (by kernel_rfl), _, run_s_Narrow w n⟩

def pf_i_Narrow : PF := ⟨[.c 4 true 6], .r [.box 2 0, .alloc 4 zcW] (.seq (.r [.L 7 6 2, .c 8 259 [7], .bnot 9 8, .m 10 9, .n 10 11 (.mv 11 1), .n 10 12 (.bin 12 .lss 11 (.i 0)), .pick 13 10 .T 12, .m 14 13, .n 14 15 (.mv 15 1), .n 14 16 (.bin 16 .gtr 15 (.i 4096)), .pick 17 14 .T 16, .m 18 17, .n 18 19 (.fa 19 2 0), .n 18 20 (.load 20 false 1 19), .n 18 21 (.fa 21 2 0), .n 18 22 (.load 22 false 1 21), .n 18 23 (.mv 23 1), .n 18 24 (.bin 24 .add 22 23), .n 18 25 (.call (some 25) 205 [20, 24]), .n 18 26 (.bnot 26 25), .pick 27 18 .T 26] (.cond 27 (.r [.L 28 6 2, .c 29 216 [28], .o 6 4 29] .ret) .skip)) (.r [.f 31 2 0, .l 32 1 31, .f 33 2 0, .l 34 1 33, .m 35 1, .bin 36 .add 34 35, .c 37 204 [32, 36], .m 30 37, .ext 38 30 0, .ext 39 30 1, .m 5 38, .m 6 39] (.seq (.r [.m 40 5, .f 41 2 2, .f 42 41 0, .l 43 1 42, .bin 44 .lss 40 43, .m 45 44, .n 45 46 (.mv 46 6), .n 45 47 (.fa 47 2 2), .n 45 48 (.fa 48 47 1), .n 45 49 (.load 49 false 1 48), .n 45 50 (.bin 50 .gtr 46 49), .pick 51 45 .T 50] (.cond 51 (.r [.L 52 6 2, .c 53 216 [52], .o 6 4 53] .ret) .skip)) (.r [.m 54 5, .m 55 6, .f 56 2 2, .f 57 56 0, .o 1 57 54, .f 58 2 2, .f 59 58 1, .o 1 59 55] (.r [.L 60 6 2, .o 6 4 60] .ret)))))⟩
def c_i_Narrow : Fun := ⟨263, [], fun ts K => as2 ts fun t0 t1 => arG pWordT t0 fun w => arC (pI .i64) t1 fun n => K (tG ((narrowW w n).tc [])) []⟩
theorem run_i_Narrow (w : Word) (n : Int) : runK [c_i_Wide, c_i_BoundsOk, c_i_Bare, c_i_open] (0) [] pf_i_Narrow [tG (w.tc []), tI .i64 n] fun r o => r = tG ((narrowW w n).tc []) ∧ o = [] := by
  by_cases hc : openW w = true ∧ (0 ≤ n ∧ n ≤ 4096) ∧ boundsOk w.n (IntKind.i64.wrap (w.n + n)) = true
  · rw [narrow_yes hc]
    obtain ⟨g1, g2, g3⟩ := hc
    conv => whnf
    repeat' (first | ((first | refine sel_i (fun h => ?_) (fun h => ?_) | refine chk_c ?_ ?_) <;> conv => whnf) | refine And.intro ?_ rfl | (refine And.intro ?_ ?_ <;> conv => whnf))
    all_goals (try simp only [etaKey, etaWord, inR_t, inR_f, g1, g3, Bool.not_eq_true', Bool.not_eq_false', Bool.true_eq_false, Bool.not_true, Bool.false_eq_true, decide_eq_true_eq, decide_eq_false_iff_not] at *)
    all_goals first
      | contradiction
      | (exfalso; omega)
      | (rw [if_pos (by omega)]; rfl)
      | (rw [if_neg (by omega)]; rfl)
      | trace_state
  · rw [narrow_no hc]
    conv => whnf
    repeat' (first | ((first | refine sel_i (fun h => ?_) (fun h => ?_) | refine chk_c ?_ ?_) <;> conv => whnf) | refine And.intro ?_ rfl | (refine And.intro ?_ ?_ <;> conv => whnf))
    all_goals (try simp only [etaKey, etaWord, inR_t, inR_f, Bool.not_eq_true', Bool.not_eq_false', decide_eq_true_eq, decide_eq_false_iff_not] at *)
    all_goals first
      | rfl
      | exact absurd ⟨by assumption, by omega, by assumption⟩ hc
      | trace_state
theorem ok_i_Narrow : FunOk Tryz.prog c_i_Narrow := funOk (eK ok_i_Wide (eK ok_i_BoundsOk (eK ok_i_Bare (eK ok_i_open eN)))) mixd Tryz.func263 (pf := pf_i_Narrow) (by kernel_rfl) fun ts K h => by
  obtain ⟨t0, t1, rfl, q0⟩ := as2_out h
  obtain ⟨w, rfl, q1⟩ := arG_out rd_word q0
  obtain ⟨n, rfl, q2⟩ := arC_out (rd_int .i64) q1
  exact ⟨_, _, q2, nb 2 Tryz.f263 (by kernel_rfl), _, run_i_Narrow w n⟩

def lb_slices_Index_byte_0 : PC := .r [.bin 9 .lss 8 7] (.seq (.cond 9 .skip (.exit 0)) (.seq (.blk 1 (.r [.m 10 8, .m 5 10] (.r [.m 11 1, .m 12 0, .m 13 5, .ia 14 (.int .u8) 12 13, .l 15 1 14, .bin 16 .eql 11 15] (.cond 16 (.r [.m 17 5, .m 4 17] .ret) .skip)))) (.reg [.bin 18 .add 8 (.i 1), .m 8 18])))
def pf_slices_Index_byte : PF := ⟨[.t 4], .r [.mv 4 (.i 0)] (.seq (.r [.m 6 0, .len 7 false 6, .mv 8 (.i 0)] (.blk 0 (.loop [0, 1, 7, 8] lb_slices_Index_byte_0))) (.r [.mv 4 (.i (-1))] .ret))⟩
def c_slices_Index_byte : Fun := ⟨238, [], fun ts K => as2 ts fun t0 t1 => arC (pL (.int .u8)) t0 fun xs => arC (pI .u8) t1 fun v => chk (xs.length ≤ 2147483647) (K (tN (idxOf (fun x => v == x) xs)) [])⟩
theorem run_slices_Index_byte (xs : List (FT.Ty (.int .u8))) (v : Int) (hpre : xs.length ≤ 2147483647) : runK [] (xs.length + 1) [] pf_slices_Index_byte [tL false (.int .u8) xs, tI .u8 v] fun r o => r = tN (idxOf (fun x => v == x) xs) ∧ o = [] := by
  conv => whnf
  refine loop (α := Nat) (fun i => ⟨[(0, .v (.c (.sl false (.int .u8) 0))), (1, .v (.c (.int .u8 v))), (7, .v (.c (.int .i64 (xs.length : Int)))), (8, .v (.c (.int .i64 (i : Int))))], [(0, some (.flat false (.int .u8) none xs))], nums.tail, [], false, []⟩)
      (fun i => i ≤ xs.length ∧ idxOf (fun x => v == x) xs = idxGo (fun x => v == x) (xs.drop i) i) (fun i => xs.length - i) (fun i R hI hR => ?_) 0 _ ⟨by simp, rfl⟩ (by simp)
  obtain ⟨hi, hx⟩ := hI
  conv => whnf
  refine sel_i (fun h2 => ?_) (fun h2 => ?_)
  · have hlt : i < xs.length := by simp at h2; omega
    conv => whnf
    repeat (refine chk_i (by first | omega | (simp; omega)) ?_; conv => whnf)
    refine sel_i (fun h3 => ?_) (fun h3 => ?_)
    · conv => whnf
      rw [hx, idxGo_yes (z := FT.zero (.int .u8)) hlt h3]
      exact ⟨rfl, rfl⟩
    · conv => whnf
      rw [wrap_id (n := (i : Int) + 1) (by omega) (by omega)]
      exact hR (i + 1) ⟨by omega, by rw [hx, idxGo_no (z := FT.zero (.int .u8)) hlt h3]⟩ (by omega)
  · conv => whnf
    rw [hx, idxGo_end (by simp at h2; omega)]
    exact ⟨rfl, rfl⟩
theorem ok_slices_Index_byte : FunOk Tryz.prog c_slices_Index_byte := funOk (eN) mixd Tryz.func238 (pf := pf_slices_Index_byte) (by kernel_rfl) fun ts K h => by
  obtain ⟨t0, t1, rfl, q0⟩ := as2_out h
  obtain ⟨xs, rfl, q1⟩ := arC_out (rd_l (.int .u8)) q0
  obtain ⟨v, rfl, q2⟩ := arC_out (rd_int .u8) q1
  obtain ⟨hpre, hk⟩ := chk_o q2
  exact ⟨_, _, hk, nb 2 Tryz.f238 (by kernel_rfl), _, run_slices_Index_byte xs v hpre⟩

def pf_slices_Contains_byte : PF := ⟨[.t 4], .r [.mv 4 .F] (.r [.m 5 0, .m 6 1, .c 7 238 [5, 6], .bin 8 .geq 7 (.i 0), .m 4 8] .ret)⟩
def c_slices_Contains_byte : Fun := ⟨203, [], fun ts K => as2 ts fun t0 t1 => arC (pL (.int .u8)) t0 fun xs => arC (pI .u8) t1 fun v => chk (xs.length ≤ 2147483647) (K (tB (xs.any (fun x => v == x))) [])⟩
theorem run_slices_Contains_byte (xs : List (FT.Ty (.int .u8))) (v : Int) (hpre : xs.length ≤ 2147483647) : runK [c_slices_Index_byte] (0) [] pf_slices_Contains_byte [tL false (.int .u8) xs, tI .u8 v] fun r o => r = tB (xs.any (fun x => v == x)) ∧ o = [] := by
  conv => whnf
  repeat' (first | ((first | refine sel_i (fun h => ?_) (fun h => ?_) | refine chk_c ?_ ?_) <;> conv => whnf) | refine And.intro ?_ rfl | (refine And.intro ?_ ?_ <;> conv => whnf))
  all_goals first | (refine ⟨?_⟩; exact hpre) | exact hpre | (rw [← idxOf_any]; rfl) | (rw [← idxOf_any])
theorem ok_slices_Contains_byte : FunOk Tryz.prog c_slices_Contains_byte := funOk (eK ok_slices_Index_byte eN) mixd Tryz.func203 (pf := pf_slices_Contains_byte) (by kernel_rfl) fun ts K h => by
  obtain ⟨t0, t1, rfl, q0⟩ := as2_out h
  obtain ⟨xs, rfl, q1⟩ := arC_out (rd_l (.int .u8)) q0
  obtain ⟨v, rfl, q2⟩ := arC_out (rd_int .u8) q1
  obtain ⟨hpre, hk⟩ := chk_o q2
  exact ⟨_, _, hk, nb 2 Tryz.f203 (by kernel_rfl), _, run_slices_Contains_byte xs v hpre⟩

def formS (op : Int) : ByteArray :=
  if op = 1 then ⟨#[82, 78]⟩ else if op = 2 ∨ op = 4 ∨ op = 5 ∨ op = 7 ∨ op = 8 then ⟨#[82, 65, 66]⟩ else if op = 3 ∨ op = 9 ∨ op = 12 then ⟨#[82, 65]⟩ else if op = 6 then ⟨#[82, 65, 66, 78]⟩ else
  if op = 10 then ⟨#[82, 65, 78]⟩ else if op = 11 then ⟨#[65, 66, 78]⟩ else if op = 13 then ⟨#[65, 78]⟩ else if op = 14 then ⟨#[65]⟩ else ⟨#[]⟩
def maskI (op : Int) : Int := if inR op 1 15 then ([0, 9, 7, 3, 7, 7, 15, 7, 7, 3, 11, 14, 3, 10, 2, 0] : List Int).getD op.toNat 0 else 0
def hasC (op c : Int) : Bool := (bytesI (formS op)).any (fun b => c == b)
def partI (x : Inst) (c : Int) : Int := if c = 82 then x.r else if c = 65 then x.a else if c = 66 then x.b else x.n
def fld (v : Int) (b : Bool) : Bool := inR v 0 7 && (b || v == 0)
def insOk (x : Inst) : Bool := inR x.op 1 15 && fld x.r (andI (maskI x.op) 1 != 0) && fld x.a (andI (maskI x.op) 2 != 0) && fld x.b (andI (maskI x.op) 4 != 0) && inR x.n (-128) 127 && (andI (maskI x.op) 8 != 0 || x.n == 0)
def setsI (x : Inst) : Int := if andI (maskI x.op) 1 = 0 then -1 else x.r
theorem formS_len (op : Int) : (bytesI (formS op)).length ≤ 4 := by
  rw [bytesI_len]
  unfold formS
  repeat' split
  all_goals decide
def lettI (i : Nat) : Int := ([82, 65, 66, 78] : List Int).getD i 0
def partOkI (x : Inst) (c : Int) : Bool := if hasC x.op c then (if c == 78 then inR (partI x c) (-128) 127 else inR (partI x c) 0 7) else partI x c == 0
def okC : Option Bool → Cell | none => .ff | some b => .bool b
def okV : Option Bool → Bool | none => false | some b => b
theorem allR_succ (f : Nat → Bool) (n : Nat) : allR f (n + 1) = (allR f n && f n) := by simp [allR, List.range_succ]
theorem insOk_eq (x : Inst) : (inR x.op 1 15 && allR (fun j => partOkI x (lettI j)) 4) = insOk x := by
  have hall : allR (fun j => partOkI x (lettI j)) 4 = (partOkI x 82 && partOkI x 65 && partOkI x 66 && partOkI x 78) := by
    simp [allR, List.range_succ, lettI, Bool.and_assoc]
  rw [hall]
  unfold insOk
  by_cases h : inR x.op 1 15 = true
  · rw [h]
    simp only [Bool.true_and]
    obtain ⟨op, r, a, b, n⟩ := x
    have h := inR_t.1 h
    dsimp only at h ⊢
    have e0 : ∀ v : Int, (inR v 0 7 && (v == 0)) = (v == 0) := fun v => by
      by_cases e : v = 0
      · subst e; decide
      · simp [e]
    have e1 : ∀ v : Int, (inR v (-128) 127 && (v == 0)) = (v == 0) := fun v => by
      by_cases e : v = 0
      · subst e; decide
      · simp [e]
    have hop : op = 1 ∨ op = 2 ∨ op = 3 ∨ op = 4 ∨ op = 5 ∨ op = 6 ∨ op = 7 ∨ op = 8 ∨ op = 9 ∨ op = 10 ∨ op = 11 ∨ op = 12 ∨ op = 13 ∨ op = 14 ∨ op = 15 := by omega
    have key : ∀ (k1 k2 k3 k4 : Bool), hasC op 82 = k1 → hasC op 65 = k2 → hasC op 66 = k3 → hasC op 78 = k4 → (andI (maskI op) 1 != 0) = k1 → (andI (maskI op) 2 != 0) = k2 → (andI (maskI op) 4 != 0) = k3 → (andI (maskI op) 8 != 0) = k4 →
        (partOkI ⟨op, r, a, b, n⟩ 82 && partOkI ⟨op, r, a, b, n⟩ 65 && partOkI ⟨op, r, a, b, n⟩ 66 && partOkI ⟨op, r, a, b, n⟩ 78) = (fld r (andI (maskI op) 1 != 0) && fld a (andI (maskI op) 2 != 0) && fld b (andI (maskI op) 4 != 0) && inR n (-128) 127 && (andI (maskI op) 8 != 0 || n == 0)) := by
      intro k1 k2 k3 k4 a1 a2 a3 a4 b1 b2 b3 b4
      rw [b1, b2, b3, b4]
      simp only [partOkI, a1, a2, a3, a4, fld, partI]
      cases k1 <;> cases k2 <;> cases k3 <;> cases k4 <;> simp [e0, e1, Bool.and_assoc]
    rcases hop with rfl | rfl | rfl | rfl | rfl | rfl | rfl | rfl | rfl | rfl | rfl | rfl | rfl | rfl | rfl <;> exact key _ _ _ _ rfl rfl rfl rfl (by decide) (by decide) (by decide) (by decide)
  · simp only [Bool.not_eq_true] at h
    rw [h]; rfl

def pf_i_formOf : PF := ⟨[.t 2, .t 3], .r [.mv 2 (.k (.v (.c (.str ⟨#[]⟩)))), .mv 3 .F] (.seq (.r [.m 4 0] (.blk 0 (.r [.bin 6 .eql 4 (.i 1), .m 5 6] (.cond 5 (.r [.mv 2 (.k (.v (.c (.str ⟨#[82, 78]⟩)))), .mv 3 .T] .ret) (.seq (.r [.bin 8 .eql 4 (.i 2), .m 7 8] (.cond 7 .skip (.r [.bin 9 .eql 4 (.i 4), .m 7 9] (.cond 7 .skip (.r [.bin 10 .eql 4 (.i 5), .m 7 10] (.cond 7 .skip (.r [.bin 11 .eql 4 (.i 7), .m 7 11] (.cond 7 .skip (.reg [.bin 12 .eql 4 (.i 8), .m 7 12]))))))))) (.cond 7 (.r [.mv 2 (.k (.v (.c (.str ⟨#[82, 65, 66]⟩)))), .mv 3 .T] .ret) (.seq (.r [.bin 14 .eql 4 (.i 3), .m 13 14] (.cond 13 .skip (.r [.bin 15 .eql 4 (.i 9), .m 13 15] (.cond 13 .skip (.reg [.bin 16 .eql 4 (.i 12), .m 13 16]))))) (.cond 13 (.r [.mv 2 (.k (.v (.c (.str ⟨#[82, 65]⟩)))), .mv 3 .T] .ret) (.r [.bin 18 .eql 4 (.i 6), .m 17 18] (.cond 17 (.r [.mv 2 (.k (.v (.c (.str ⟨#[82, 65, 66, 78]⟩)))), .mv 3 .T] .ret) (.r [.bin 20 .eql 4 (.i 10), .m 19 20] (.cond 19 (.r [.mv 2 (.k (.v (.c (.str ⟨#[82, 65, 78]⟩)))), .mv 3 .T] .ret) (.r [.bin 22 .eql 4 (.i 11), .m 21 22] (.cond 21 (.r [.mv 2 (.k (.v (.c (.str ⟨#[65, 66, 78]⟩)))), .mv 3 .T] .ret) (.r [.bin 24 .eql 4 (.i 13), .m 23 24] (.cond 23 (.r [.mv 2 (.k (.v (.c (.str ⟨#[65, 78]⟩)))), .mv 3 .T] .ret) (.r [.bin 26 .eql 4 (.i 14), .m 25 26] (.cond 25 (.r [.mv 2 (.k (.v (.c (.str ⟨#[65]⟩)))), .mv 3 .T] .ret) (.r [.bin 28 .eql 4 (.i 15), .m 27 28] (.cond 27 (.r [.mv 2 (.k (.v (.c (.str ⟨#[]⟩)))), .mv 3 .T] .ret) .skip)))))))))))))))))))) (.r [.mv 2 (.k (.v (.c (.str ⟨#[]⟩)))), .mv 3 .F] .ret))⟩
def c_i_formOf : Fun := ⟨161, [], fun ts K => as1 ts fun t0 => arC (pI .i64) t0 fun op => K (.tup [.c (.str (formS op)), .c (.bool (inR op 1 15))]) []⟩
theorem run_i_formOf (op : Int) : runK [] (0) [] pf_i_formOf [tI .i64 op] fun r o => r = .tup [.c (.str (formS op)), .c (.bool (inR op 1 15))] ∧ o = [] := by
  conv => whnf
  repeat' (first | ((first | refine sel_i (fun h => ?_) (fun h => ?_) | refine chk_c ?_ ?_) <;> conv => whnf) | refine And.intro ?_ rfl | (refine And.intro ?_ ?_ <;> conv => whnf))
  all_goals (simp only [beq_iff_eq, beq_eq_false_iff_ne, ne_eq] at *)
  all_goals first
    | (subst h; rfl)
    | (exfalso; omega)
    | (have e1 : inR op 1 15 = false := inR_f.2 (by omega)
       have e2 : formS op = ⟨#[]⟩ := by simp only [formS, *, if_false, or_self]
       rw [e1, e2])
    | trace_state
theorem ok_i_formOf : FunOk Tryz.prog c_i_formOf := funOk (eN) mixd Tryz.func161 (pf := pf_i_formOf) (by kernel_rfl) fun ts K h => by
  obtain ⟨t0, rfl, q0⟩ := as1_out h
  obtain ⟨op, rfl, q1⟩ := arC_out (rd_int .i64) q0
  exact ⟨_, _, q1, nb 1 Tryz.f161 (by kernel_rfl), _, run_i_formOf op⟩

def pf_i_partOf : PF := ⟨[.t 4], .r [.box 2 0, .mv 4 (.i 0)] (.seq (.r [.m 5 1] (.blk 0 (.r [.bin 7 .eql 5 (.k (.v (.c (.int .u8 82)))), .m 6 7] (.cond 6 (.r [.f 8 2 1, .l 9 1 8, .m 4 9] .ret) (.r [.bin 11 .eql 5 (.k (.v (.c (.int .u8 65)))), .m 10 11] (.cond 10 (.r [.f 12 2 2, .l 13 1 12, .m 4 13] .ret) (.r [.bin 15 .eql 5 (.k (.v (.c (.int .u8 66)))), .m 14 15] (.cond 14 (.r [.f 16 2 3, .l 17 1 16, .m 4 17] .ret) .skip)))))))) (.r [.f 18 2 4, .l 19 1 18, .m 4 19] .ret))⟩
def c_i_partOf : Fun := ⟨162, [], fun ts K => as2 ts fun t0 t1 => arG pInstT t0 fun x => arC (pI .u8) t1 fun c => K (tN (partI x c)) []⟩
theorem run_i_partOf (x : Inst) (c : Int) : runK [] (0) [] pf_i_partOf [tG (x.tc []), tI .u8 c] fun r o => r = tN (partI x c) ∧ o = [] := by
  conv => whnf
  repeat' (first | ((first | refine sel_i (fun h => ?_) (fun h => ?_) | refine chk_c ?_ ?_) <;> conv => whnf) | refine And.intro ?_ rfl | (refine And.intro ?_ ?_ <;> conv => whnf))
  all_goals (simp_all [partI]; done)
theorem ok_i_partOf : FunOk Tryz.prog c_i_partOf := funOk (eN) mixd Tryz.func162 (pf := pf_i_partOf) (by kernel_rfl) fun ts K h => by
  obtain ⟨t0, t1, rfl, q0⟩ := as2_out h
  obtain ⟨x, rfl, q1⟩ := arG_out rd_inst q0
  obtain ⟨c, rfl, q2⟩ := arC_out (rd_int .u8) q1
  exact ⟨_, _, q2, nb 2 Tryz.f162 (by kernel_rfl), _, run_i_partOf x c⟩

def pf_i_hasPart : PF := ⟨[.t 4], .r [.box 2 0, .mv 4 .F] (.r [.f 8 2 0, .l 9 1 8, .c 10 161 [9], .m 7 10, .ext 11 7 0, .ext 12 7 1, .m 5 11, .m 6 12] (.r [.m 13 5, .s (.s2b 14 13), .m 15 1, .c 16 203 [14, 15], .m 4 16] .ret))⟩
def c_i_hasPart : Fun := ⟨163, [], fun ts K => as2 ts fun t0 t1 => arG pInstT t0 fun x => arC (pI .u8) t1 fun c => K (tB (hasC x.op c)) []⟩
theorem run_i_hasPart (x : Inst) (c : Int) : runK [c_i_formOf, c_slices_Contains_byte] (0) [] pf_i_hasPart [tG (x.tc []), tI .u8 c] fun r o => r = tB (hasC x.op c) ∧ o = [] := by
  have hl := formS_len x.op
  conv => whnf
  repeat' (first | ((first | refine sel_i (fun h => ?_) (fun h => ?_) | refine chk_c ?_ ?_) <;> conv => whnf) | refine And.intro ?_ rfl | (refine And.intro ?_ ?_ <;> conv => whnf))
  all_goals first | rfl | (refine ⟨?_⟩; omega) | trace_state
theorem ok_i_hasPart : FunOk Tryz.prog c_i_hasPart := funOk (eK ok_i_formOf (eK ok_slices_Contains_byte eN)) mixd Tryz.func163 (pf := pf_i_hasPart) (by kernel_rfl) fun ts K h => by
  obtain ⟨t0, t1, rfl, q0⟩ := as2_out h
  obtain ⟨x, rfl, q1⟩ := arG_out rd_inst q0
  obtain ⟨c, rfl, q2⟩ := arC_out (rd_int .u8) q1
  exact ⟨_, _, q2, nb 2 Tryz.f163 (by kernel_rfl), _, run_i_hasPart x c⟩

def pf_s_l6Has : PF := ⟨[.t 2], .r [.mv 2 (.i 0)] (.seq (.r [.m 3 0, .c 4 53 [3, (.i 1), (.i 15)], .bnot 5 4] (.cond 5 (.r [.mv 2 (.i 0)] .ret) .skip)) (.r [.bs 6 (.int .i64) [(.i 0), (.i 9), (.i 7), (.i 3), (.i 7), (.i 7), (.i 15), (.i 7), (.i 7), (.i 3), (.i 11), (.i 14), (.i 3), (.i 10), (.i 2), (.i 0)], .m 7 0, .ia 8 (.int .i64) 6 7, .l 9 1 8, .m 2 9] .ret))⟩
def c_s_l6Has : Fun := ⟨139, [], fun ts K => as1 ts fun t0 => arC (pI .i64) t0 fun op => K (tN (maskI op)) []⟩
theorem run_s_l6Has (op : Int) : runK [c_s_l1In] (0) [] pf_s_l6Has [tI .i64 op] fun r o => r = tN (maskI op) ∧ o = [] := by
  conv => whnf
  repeat' (first | ((first | refine sel_i (fun h => ?_) (fun h => ?_) | refine chk_c ?_ ?_) <;> conv => whnf) | refine And.intro ?_ rfl | (refine And.intro ?_ ?_ <;> conv => whnf))
  all_goals (try simp only [inR_t, inR_f, Bool.not_eq_true', Bool.not_eq_false'] at *)
  all_goals first
    | (refine ⟨?_⟩; show _ ≤ _ ∧ _ < (16 : Int); omega)
    | (refine ⟨?_⟩; show op.toNat < 16; omega)
    | (rw [show maskI op = 0 by unfold maskI; rw [if_neg (by rw [inR_t]; omega)]])
    | (unfold maskI; rw [if_pos (by rw [inR_t]; omega)]; rfl)
    | trace_state
theorem ok_s_l6Has : FunOk Tryz.prog c_s_l6Has := funOk (eK ok_s_l1In eN) mixd Tryz.func139 (pf := pf_s_l6Has) (by kernel_rfl) fun ts K h => by
  obtain ⟨t0, rfl, q0⟩ := as1_out h
  obtain ⟨op, rfl, q1⟩ := arC_out (rd_int .i64) q0
  exact ⟨_, _, q1, nb 1 Tryz.f139 (by kernel_rfl), _, run_s_l6Has op⟩

def pf_s_l6Field : PF := ⟨[.t 4], .r [.mv 4 .F] (.r [.m 5 0, .c 6 53 [5, (.i 0), (.i 7)], .m 7 6, .y 7 8 (.mv 8 1), .y 7 9 (.mv 9 8), .n 9 10 (.mv 10 0), .n 9 11 (.bin 11 .eql 10 (.i 0)), .y 7 12 (.pick 12 9 .T 11), .pick 13 7 12 .F, .m 4 13] .ret)⟩
def c_s_l6Field : Fun := ⟨140, [], fun ts K => as2 ts fun t0 t1 => arC (pI .i64) t0 fun v => arC pB t1 fun b => K (tB (fld v b)) []⟩
theorem run_s_l6Field (v : Int) (b : Bool) : runK [c_s_l1In] (0) [] pf_s_l6Field [tI .i64 v, tB b] fun r o => r = tB (fld v b) ∧ o = [] := by
  conv => whnf
  repeat' (first | ((first | refine sel_i (fun h => ?_) (fun h => ?_) | refine chk_c ?_ ?_) <;> conv => whnf) | refine And.intro ?_ rfl | (refine And.intro ?_ ?_ <;> conv => whnf))
  all_goals (simp_all [fld]; done)
theorem ok_s_l6Field : FunOk Tryz.prog c_s_l6Field := funOk (eK ok_s_l1In eN) mixd Tryz.func140 (pf := pf_s_l6Field) (by kernel_rfl) fun ts K h => by
  obtain ⟨t0, t1, rfl, q0⟩ := as2_out h
  obtain ⟨v, rfl, q1⟩ := arC_out (rd_int .i64) q0
  obtain ⟨b, rfl, q2⟩ := arC_out rd_b q1
  exact ⟨_, _, q2, nb 2 Tryz.f140 (by kernel_rfl), _, run_s_l6Field v b⟩

def pf_s_InsOk : PF := ⟨[.t 2], .r [.box 1 0, .mv 2 .F] (.r [.f 4 1 0, .l 5 1 4, .c 6 139 [5], .m 3 6] (.r [.f 7 1 0, .l 8 1 7, .c 9 53 [8, (.i 1), (.i 15)], .m 10 9, .y 10 11 (.fa 11 1 1), .y 10 12 (.load 12 false 1 11), .y 10 13 (.mv 13 3), .y 10 14 (.bin 14 .and 13 (.i 1)), .y 10 15 (.bin 15 .neq 14 (.i 0)), .y 10 16 (.call (some 16) 140 [12, 15]), .pick 17 10 16 .F, .m 18 17, .y 18 19 (.fa 19 1 2), .y 18 20 (.load 20 false 1 19), .y 18 21 (.mv 21 3), .y 18 22 (.bin 22 .and 21 (.i 2)), .y 18 23 (.bin 23 .neq 22 (.i 0)), .y 18 24 (.call (some 24) 140 [20, 23]), .pick 25 18 24 .F, .m 26 25, .y 26 27 (.fa 27 1 3), .y 26 28 (.load 28 false 1 27), .y 26 29 (.mv 29 3), .y 26 30 (.bin 30 .and 29 (.i 4)), .y 26 31 (.bin 31 .neq 30 (.i 0)), .y 26 32 (.call (some 32) 140 [28, 31]), .pick 33 26 32 .F, .m 34 33, .y 34 35 (.fa 35 1 4), .y 34 36 (.load 36 false 1 35), .y 34 37 (.call (some 37) 53 [36, (.i (-128)), (.i 127)]), .pick 38 34 37 .F, .m 39 38, .y 39 40 (.mv 40 3), .y 39 41 (.bin 41 .and 40 (.i 8)), .y 39 42 (.bin 42 .neq 41 (.i 0)), .y 39 43 (.mv 43 42), .n 43 44 (.fa 44 1 4), .n 43 45 (.load 45 false 1 44), .n 43 46 (.bin 46 .eql 45 (.i 0)), .y 39 47 (.pick 47 43 .T 46), .pick 48 39 47 .F, .m 2 48] .ret))⟩
def c_s_InsOk : Fun := ⟨88, [], fun ts K => as1 ts fun t0 => arG pInstT t0 fun x => K (tB (insOk x)) []⟩
theorem run_s_InsOk (x : Inst) : runK [c_s_l1In, c_s_l6Has, c_s_l6Field] (0) [] pf_s_InsOk [tG (x.tc [])] fun r o => r = tB (insOk x) ∧ o = [] := by
  conv => whnf
  repeat' (first | ((first | refine sel_i (fun h => ?_) (fun h => ?_) | refine chk_c ?_ ?_) <;> conv => whnf) | refine And.intro ?_ rfl | (refine And.intro ?_ ?_ <;> conv => whnf))
  all_goals (try simp only [andI_eq] at *)
  all_goals (simp only [insOk, *, Bool.true_and, Bool.false_and, Bool.and_true, Bool.and_false, Bool.or_true, Bool.true_or, Bool.false_or]; first | done | trace_state)
theorem ok_s_InsOk : FunOk Tryz.prog c_s_InsOk := funOk (eK ok_s_l1In (eK ok_s_l6Has (eK ok_s_l6Field eN))) mixd Tryz.func88 (pf := pf_s_InsOk) (by kernel_rfl) fun ts K h => by
  obtain ⟨t0, rfl, q0⟩ := as1_out h
  obtain ⟨x, rfl, q1⟩ := arG_out rd_inst q0
  exact ⟨_, _, q1, nb 1 Tryz.f88 (by kernel_rfl), _, run_s_InsOk x⟩

def pf_s_Sets : PF := ⟨[.t 2], .r [.box 1 0, .mv 2 (.i 0)] (.seq (.r [.f 3 1 0, .l 4 1 3, .c 5 139 [4], .bin 6 .and 5 (.i 1), .bin 7 .eql 6 (.i 0)] (.cond 7 (.r [.mv 2 (.i (-1))] .ret) .skip)) (.r [.f 8 1 1, .l 9 1 8, .m 2 9] .ret))⟩
def c_s_Sets : Fun := ⟨198, [], fun ts K => as1 ts fun t0 => arG pInstT t0 fun x => K (tN (setsI x)) []⟩
theorem run_s_Sets (x : Inst) : runK [c_s_l6Has] (0) [] pf_s_Sets [tG (x.tc [])] fun r o => r = tN (setsI x) ∧ o = [] := by
  conv => whnf
  repeat' (first | ((first | refine sel_i (fun h => ?_) (fun h => ?_) | refine chk_c ?_ ?_) <;> conv => whnf) | refine And.intro ?_ rfl | (refine And.intro ?_ ?_ <;> conv => whnf))
  all_goals (try simp only [andI_eq, beq_iff_eq, beq_eq_false_iff_ne] at *)
  all_goals (simp_all [setsI]; done)
theorem ok_s_Sets : FunOk Tryz.prog c_s_Sets := funOk (eK ok_s_l6Has eN) mixd Tryz.func198 (pf := pf_s_Sets) (by kernel_rfl) fun ts K h => by
  obtain ⟨t0, rfl, q0⟩ := as1_out h
  obtain ⟨x, rfl, q1⟩ := arG_out rd_inst q0
  exact ⟨_, _, q1, nb 1 Tryz.f198 (by kernel_rfl), _, run_s_Sets x⟩

def lb_i_InsOk_0 : PC := .r [.bin 18 .lss 17 16] (.seq (.cond 18 .skip (.exit 0)) (.seq (.blk 1 (.r [.ia 19 (.int .u8) 15 17, .l 20 1 19, .m 6 20] (.r [.L 21 5 1, .m 22 6, .c 23 162 [21, 22], .m 7 23] (.blk 2 (.r [.L 30 5 1, .m 31 6, .c 32 163 [30, 31], .bnot 33 32, .m 29 33] (.cond 29 (.reg [.m 34 4, .m 35 34, .y 35 36 (.mv 36 7), .y 35 37 (.bin 37 .eql 36 (.i 0)), .pick 38 35 37 .F, .m 4 38]) (.r [.m 40 6, .bin 41 .eql 40 (.k (.v (.c (.int .u8 78)))), .m 39 41] (.cond 39 (.reg [.m 42 4, .m 43 42, .y 43 44 (.mv 44 7), .y 43 45 (.call (some 45) 112 [44, (.i (-128)), (.i 127)]), .pick 46 43 45 .F, .m 4 46]) (.reg [.m 24 4, .m 25 24, .y 25 26 (.mv 26 7), .y 25 27 (.call (some 27) 112 [26, (.i 0), (.i 7)]), .pick 28 25 27 .F, .m 4 28]))))))))) (.reg [.bin 47 .add 17 (.i 1), .m 17 47])))
def pf_i_InsOk : PF := ⟨[.t 2], .r [.box 1 0, .mv 2 .F] (.r [.f 9 1 0, .l 10 1 9, .c 11 161 [10], .m 8 11, .ext 12 8 0, .ext 13 8 1, .m 3 12, .m 4 13] (.seq (.r [.bs 14 (.int .u8) [(.k (.v (.c (.int .u8 82)))), (.k (.v (.c (.int .u8 65)))), (.k (.v (.c (.int .u8 66)))), (.k (.v (.c (.int .u8 78))))], .s (.stri 15 14), .len 16 false 15, .mv 17 (.i 0)] (.blk 0 (.loop [1, 4, 15, 16, 17] lb_i_InsOk_0))) (.r [.m 48 4, .m 2 48] .ret)))⟩
def c_i_InsOk : Fun := ⟨114, [], fun ts K => as1 ts fun t0 => arG pInstT t0 fun x => K (tB (insOk x)) []⟩
theorem run_i_InsOk (x : Inst) : runK [c_i_in, c_i_formOf, c_i_partOf, c_i_hasPart] (6) [] pf_i_InsOk [tG (x.tc [])] fun r o => r = tB (insOk x) ∧ o = [] := by
  rw [← insOk_eq]
  conv => whnf
  refine chk_i (by decide) ?_
  conv => whnf
  refine loop (α := Nat × Option Bool) (fun q => ⟨[(1, .v (.c (.ptr 0 0))), (4, .v (.c (okC q.2))), (15, .v (.c (.sl true (.int .u8) 1))), (16, .v (.c (.int .i64 (([82, 65, 66, 78] : List Int).length : Int)))), (17, .v (.c (.int .i64 (q.1 : Int))))],
        [(1, some (.flat true (.int .u8) none [82, 65, 66, 78])), (0, some (.box true [.int .i64 x.op, .int .i64 x.r, .int .i64 x.a, .int .i64 x.b, .int .i64 x.n]))], nums.tail.tail, [], false, []⟩)
      (fun q => q.1 ≤ 4 ∧ okV q.2 = (inR x.op 1 15 && allR (fun j => partOkI x (lettI j)) q.1)) (fun q => 4 - q.1) (fun q R hI hR => ?_) (0, some (inR x.op 1 15)) _ ⟨by simp, by simp [okV, allR]⟩ (by dsimp only; omega)
  obtain ⟨i, o⟩ := q
  obtain ⟨hi, hx⟩ := hI
  dsimp only at hi hx
  dsimp only
  have hl4 : (([82, 65, 66, 78] : List Int).length : Int) = 4 := rfl
  have hg : ([82, 65, 66, 78] : List Int).getD ((i : Int)).toNat (FT.zero (.int .u8)) = lettI i := rfl
  conv => whnf
  refine sel_i (fun h => ?_) (fun h => ?_)
  · have hlt : i < 4 := by rw [hl4] at h; simp at h; omega
    clear h
    have hs := allR_succ (fun j => partOkI x (lettI j)) i
    cases o
    all_goals (dsimp only [okC, okV] at *)
    all_goals conv => whnf
    all_goals repeat' (first | ((first | refine sel_i (fun h => ?_) (fun h => ?_) | refine chk_c ?_ ?_) <;> conv => whnf) | refine And.intro ?_ rfl | (refine And.intro ?_ ?_ <;> conv => whnf))
    all_goals (try simp only [hg, hl4, etaInst, Bool.not_eq_true', Bool.not_eq_false'] at *)
    all_goals first
      | (refine ⟨?_⟩; omega)
      | (refine ⟨?_⟩; exact hlt)
      | (rw [wrap_id (n := (i : Int) + 1) (by omega) (by omega)]
         exact hR (i + 1, none) ⟨by dsimp only; omega, by dsimp only [okV]; rw [hs, ← Bool.and_assoc, ← hx]; clear hx hs hR; simp [partOkI, *]⟩ (by dsimp only; omega))
      | (rw [wrap_id (n := (i : Int) + 1) (by omega) (by omega)]
         exact hR (i + 1, some _) ⟨by dsimp only; omega, by dsimp only [okV]; rw [hs, ← Bool.and_assoc, ← hx]; clear hx hs hR; simp [partOkI, *]⟩ (by dsimp only; omega))
      | trace_state
  · have e : i = 4 := by rw [hl4] at h; simp at h; omega
    subst e
    rw [← hx]
    cases o <;> (conv => whnf) <;> exact ⟨rfl, rfl⟩
theorem ok_i_InsOk : FunOk Tryz.prog c_i_InsOk := funOk (eK ok_i_in (eK ok_i_formOf (eK ok_i_partOf (eK ok_i_hasPart eN)))) mixd Tryz.func114 (pf := pf_i_InsOk) (by kernel_rfl) fun ts K h => by
  obtain ⟨t0, rfl, q0⟩ := as1_out h
  obtain ⟨x, rfl, q1⟩ := arG_out rd_inst q0
  exact ⟨_, _, q1, nb 1 Tryz.f114 (by kernel_rfl), _, run_i_InsOk x⟩
end Go.Pi
