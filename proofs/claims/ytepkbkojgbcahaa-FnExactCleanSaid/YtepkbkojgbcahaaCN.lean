/- Contracts of functions, each out of its run by PI. No conditions. -/
import Derived.Test.YtepkbkojgbcahaaCM
namespace Go.Pi
open Go.Proofs
set_option linter.unusedVariables false
set_option linter.unusedSimpArgs false
set_option maxRecDepth 100000
attribute [local irreducible] iterN
def pf_spec_LoadCells : PF := ⟨[.t 4], .seq (.reg [.s (.box 2 (.t 0)), .s (.mv 4 (.k (.v (.c (.nils (.int .i64))))))]) (.seq (.reg [.s (.load 5 true 2 (.t 2)), .s (.mv 6 (.t 1)), .s (.call (some 7) 73 [(.t 5), (.t 6), (.k (.v (.c (.int .i64 1))))]), .s (.mv 4 (.t 7))]) (.ret))⟩
def c_spec_LoadCells : Fun := ⟨28, [], fun ts K => as2 ts fun t0 t1 => arG pMemT t0 fun m => arC (pL .word) t1 fun l => chk (LMem m 2147483647 ∧ l.length ≤ 1048576) (K (tL true (.int .i64) (cellsBy m l 1)) [])⟩
theorem run_spec_LoadCells (m : Mem) (l : List (FT.Ty .word)) (hpre : LMem m 2147483647 ∧ l.length ≤ 1048576) : runK [c_spec_l21Cells] (0) [] pf_spec_LoadCells [tG (m.tc false []), tL false .word l] fun r o => r = tL true (.int .i64) (cellsBy m l 1) ∧ o = [] := by
  conv => whnf
  repeat' (first | (refine sel_i (fun h => ?_) (fun h => ?_) <;> conv => whnf) | (refine chk_c ?_ ?_ <;> conv => whnf) | (refine And.intro ?_ rfl) | (refine And.intro ?_ ?_ <;> conv => whnf))
  all_goals first | rfl | (refine ⟨?_⟩; exact hpre)
theorem ok_spec_LoadCells : FunOk Try.prog c_spec_LoadCells := funOk (E := [c_spec_l21Cells]) (envOk_cons ok_spec_l21Cells (envOk_nil)) mixd Try.func28 (pf := pf_spec_LoadCells) (by kernel_rfl) fun ts K h => by
  obtain ⟨t0, t1, e0, h⟩ := as2_out h
  subst e0
  obtain ⟨m, e1, hq⟩ := arG_out rd_mem h
  clear h
  subst e1
  have h := hq
  clear hq
  obtain ⟨l, e1, hq⟩ := arC_out (rd_l .word) h
  clear h
  subst e1
  have h := hq
  clear hq
  obtain ⟨hpre, h⟩ := chk_o h
  exact ⟨_, _, h, Nat.le_of_ble_eq_true (show Nat.ble 2 Try.f28.ntmps = true by kernel_rfl), _, run_spec_LoadCells m l hpre⟩

def pf_impl_LoadCells : PF := ⟨[.t 4], .seq (.reg [.s (.box 2 (.t 0)), .s (.mv 4 (.k (.v (.c (.nils (.int .i64))))))]) (.seq (.reg [.s (.load 5 true 2 (.t 2)), .s (.mv 6 (.t 1)), .s (.call (some 7) 74 [(.t 5), (.t 6), (.k (.v (.c (.int .i64 1))))]), .s (.mv 4 (.t 7))]) (.ret))⟩
def c_impl_LoadCells : Fun := ⟨29, [], fun ts K => as2 ts fun t0 t1 => arG pMemT t0 fun m => arC (pL .word) t1 fun l => chk (LMem m 2147483647 ∧ l.length ≤ 1048576) (K (tL true (.int .i64) (cellsBy m l 1)) [])⟩
theorem run_impl_LoadCells (m : Mem) (l : List (FT.Ty .word)) (hpre : LMem m 2147483647 ∧ l.length ≤ 1048576) : runK [c_impl_cellsBy] (0) [] pf_impl_LoadCells [tG (m.tc false []), tL false .word l] fun r o => r = tL true (.int .i64) (cellsBy m l 1) ∧ o = [] := by
  conv => whnf
  repeat' (first | (refine sel_i (fun h => ?_) (fun h => ?_) <;> conv => whnf) | (refine chk_c ?_ ?_ <;> conv => whnf) | (refine And.intro ?_ rfl) | (refine And.intro ?_ ?_ <;> conv => whnf))
  all_goals first | rfl | (refine ⟨?_⟩; exact hpre)
theorem ok_impl_LoadCells : FunOk Try.prog c_impl_LoadCells := funOk (E := [c_impl_cellsBy]) (envOk_cons ok_impl_cellsBy (envOk_nil)) mixd Try.func29 (pf := pf_impl_LoadCells) (by kernel_rfl) fun ts K h => by
  obtain ⟨t0, t1, e0, h⟩ := as2_out h
  subst e0
  obtain ⟨m, e1, hq⟩ := arG_out rd_mem h
  clear h
  subst e1
  have h := hq
  clear hq
  obtain ⟨l, e1, hq⟩ := arC_out (rd_l .word) h
  clear h
  subst e1
  have h := hq
  clear hq
  obtain ⟨hpre, h⟩ := chk_o h
  exact ⟨_, _, h, Nat.le_of_ble_eq_true (show Nat.ble 2 Try.f29.ntmps = true by kernel_rfl), _, run_impl_LoadCells m l hpre⟩

def pf_spec_StoreCells : PF := ⟨[.t 4], .seq (.reg [.s (.box 2 (.t 0)), .s (.mv 4 (.k (.v (.c (.nils (.int .i64))))))]) (.seq (.reg [.s (.load 5 true 2 (.t 2)), .s (.mv 6 (.t 1)), .s (.call (some 7) 73 [(.t 5), (.t 6), (.k (.v (.c (.int .i64 2))))]), .s (.mv 4 (.t 7))]) (.ret))⟩
def c_spec_StoreCells : Fun := ⟨33, [], fun ts K => as2 ts fun t0 t1 => arG pMemT t0 fun m => arC (pL .word) t1 fun l => chk (LMem m 2147483647 ∧ l.length ≤ 1048576) (K (tL true (.int .i64) (cellsBy m l 2)) [])⟩
theorem run_spec_StoreCells (m : Mem) (l : List (FT.Ty .word)) (hpre : LMem m 2147483647 ∧ l.length ≤ 1048576) : runK [c_spec_l21Cells] (0) [] pf_spec_StoreCells [tG (m.tc false []), tL false .word l] fun r o => r = tL true (.int .i64) (cellsBy m l 2) ∧ o = [] := by
  conv => whnf
  repeat' (first | (refine sel_i (fun h => ?_) (fun h => ?_) <;> conv => whnf) | (refine chk_c ?_ ?_ <;> conv => whnf) | (refine And.intro ?_ rfl) | (refine And.intro ?_ ?_ <;> conv => whnf))
  all_goals first | rfl | (refine ⟨?_⟩; exact hpre)
theorem ok_spec_StoreCells : FunOk Try.prog c_spec_StoreCells := funOk (E := [c_spec_l21Cells]) (envOk_cons ok_spec_l21Cells (envOk_nil)) mixd Try.func33 (pf := pf_spec_StoreCells) (by kernel_rfl) fun ts K h => by
  obtain ⟨t0, t1, e0, h⟩ := as2_out h
  subst e0
  obtain ⟨m, e1, hq⟩ := arG_out rd_mem h
  clear h
  subst e1
  have h := hq
  clear hq
  obtain ⟨l, e1, hq⟩ := arC_out (rd_l .word) h
  clear h
  subst e1
  have h := hq
  clear hq
  obtain ⟨hpre, h⟩ := chk_o h
  exact ⟨_, _, h, Nat.le_of_ble_eq_true (show Nat.ble 2 Try.f33.ntmps = true by kernel_rfl), _, run_spec_StoreCells m l hpre⟩

def pf_impl_StoreCells : PF := ⟨[.t 4], .seq (.reg [.s (.box 2 (.t 0)), .s (.mv 4 (.k (.v (.c (.nils (.int .i64))))))]) (.seq (.reg [.s (.load 5 true 2 (.t 2)), .s (.mv 6 (.t 1)), .s (.call (some 7) 74 [(.t 5), (.t 6), (.k (.v (.c (.int .i64 2))))]), .s (.mv 4 (.t 7))]) (.ret))⟩
def c_impl_StoreCells : Fun := ⟨34, [], fun ts K => as2 ts fun t0 t1 => arG pMemT t0 fun m => arC (pL .word) t1 fun l => chk (LMem m 2147483647 ∧ l.length ≤ 1048576) (K (tL true (.int .i64) (cellsBy m l 2)) [])⟩
theorem run_impl_StoreCells (m : Mem) (l : List (FT.Ty .word)) (hpre : LMem m 2147483647 ∧ l.length ≤ 1048576) : runK [c_impl_cellsBy] (0) [] pf_impl_StoreCells [tG (m.tc false []), tL false .word l] fun r o => r = tL true (.int .i64) (cellsBy m l 2) ∧ o = [] := by
  conv => whnf
  repeat' (first | (refine sel_i (fun h => ?_) (fun h => ?_) <;> conv => whnf) | (refine chk_c ?_ ?_ <;> conv => whnf) | (refine And.intro ?_ rfl) | (refine And.intro ?_ ?_ <;> conv => whnf))
  all_goals first | rfl | (refine ⟨?_⟩; exact hpre)
theorem ok_impl_StoreCells : FunOk Try.prog c_impl_StoreCells := funOk (E := [c_impl_cellsBy]) (envOk_cons ok_impl_cellsBy (envOk_nil)) mixd Try.func34 (pf := pf_impl_StoreCells) (by kernel_rfl) fun ts K h => by
  obtain ⟨t0, t1, e0, h⟩ := as2_out h
  subst e0
  obtain ⟨m, e1, hq⟩ := arG_out rd_mem h
  clear h
  subst e1
  have h := hq
  clear hq
  obtain ⟨l, e1, hq⟩ := arC_out (rd_l .word) h
  clear h
  subst e1
  have h := hq
  clear hq
  obtain ⟨hpre, h⟩ := chk_o h
  exact ⟨_, _, h, Nat.le_of_ble_eq_true (show Nat.ble 2 Try.f34.ntmps = true by kernel_rfl), _, run_impl_StoreCells m l hpre⟩
end Go.Pi
