/- FnExactCostText: the given statement holds, out of the law's run by PI. No conditions. -/
import Derived.Test.YthpjpaginggjaaaDoorC1
import Derived.Test.YthpjpaginggjaaaDoorCards
import Derived.Test.YthpjpaginggjaaaDoorTie
import Derived.SevenTiedAt
import Derived.OpenShut
import Derived.Stop.Joined
namespace Go.Pi
open Go.Proofs
set_option linter.unusedVariables false
set_option linter.unusedSimpArgs false
set_option maxRecDepth 100000
attribute [local irreducible] iterN
def pf_laws_FnExactCostText : PF := ⟨[.t 2], .seq (.reg [.s (.box 1 (.t 0)), .s (.mv 2 (.k (.v (.c .ff))))]) (.seq (.reg [.s (.load 5 true 5 (.t 1)), .s (.call (some 6) 6 [(.t 5)]), .s (.call (some 7) 5 [(.t 6)]), .s (.mv 3 (.t 7))]) (.seq (.reg [.s (.load 8 true 5 (.t 1)), .s (.call (some 9) 6 [(.t 8)]), .s (.call (some 10) 7 [(.t 9)]), .s (.mv 4 (.t 10))]) (.seq (.seq (.reg [.s (.mv 11 (.t 4)), .s (.mv 12 (.t 3)), .s (.eqs 13 false [.s] true (.t 11) (.t 12))]) (.cond (.t 13) (.seq (.reg [.s (.mv 2 (.k (.v (.c .ff))))]) (.ret)) (.skip))) (.seq (.reg [.s (.mv 2 (.k (.v (.c .tt))))]) (.ret)))))⟩
def c_laws_FnExactCostText : Fun := ⟨3, [], fun ts K => as1 ts fun t0 => arG pCostT t0 fun c => chk (WCost c) (K (tB true) [])⟩
theorem run_laws_FnExactCostText (c : Cost) (hpre : WCost c) : runK [c_spec_CostText, c_laws_toCost, c_impl_CostText] (0) [] pf_laws_FnExactCostText [tG (c.tc [])] fun r o => r = tB true ∧ o = [] := by
  have hc : InC c := by
    obtain ⟨h1, h2, h3, h4, h5⟩ := hpre
    exact ⟨wfI_in h1, wfI_in h2, wfI_in h3, wfI_in h4, wfI_in h5⟩
  conv => whnf
  repeat' (first | (refine sel_i (fun h => ?_) (fun h => ?_) <;> conv => whnf) | (refine chk_c ?_ ?_ <;> conv => whnf) | (refine And.intro ?_ rfl) | (refine And.intro ?_ ?_ <;> conv => whnf))
  · exact ⟨hc⟩
  · exact ⟨hc⟩
  · exfalso
    have h : (!(costB c == costB c)) = true := h
    rw [beq_toListBytes] at h
    simp at h
  · rfl
theorem ok_laws_FnExactCostText : FunOk Tryd.prog c_laws_FnExactCostText := funOk (E := [c_spec_CostText, c_laws_toCost, c_impl_CostText]) (envOk_cons ok_spec_CostText (envOk_cons ok_laws_toCost (envOk_cons ok_impl_CostText (envOk_nil)))) mixd Tryd.func3 (pf := pf_laws_FnExactCostText) (by kernel_rfl) fun ts K h => by
  obtain ⟨t0, e0, h⟩ := as1_out h
  subst e0
  obtain ⟨c, e1, hq⟩ := arG_out rd_cost h
  clear h
  subst e1
  have h := hq
  clear hq
  obtain ⟨hpre, h⟩ := chk_o h
  exact ⟨_, _, h, Nat.le_of_ble_eq_true (show Nat.ble 1 Tryd.f3.ntmps = true by kernel_rfl), _, run_laws_FnExactCostText c hpre⟩

end Go.Pi
namespace Go.Proofs.YthpjpaginggjaaaDoor
open Go.Pi
set_option maxRecDepth 100000
def fnExactCostText_laid : List (String × DataW Unit) := [("math/bits.deBruijn32tab", Rows.laid_math_bits_deBruijn32tab), ("math/bits.deBruijn64tab", Rows.laid_math_bits_deBruijn64tab), ("internal/strconv.uint64pow10", Rows.laid_internal_strconv_uint64pow10)]
theorem fnExactCostText_met (os : Os) (args : Array Value) : laidMetH Tryd.prog fnExactCostText_laid ((World.doorLaid Tryd.prog 400 os).forCall (fun _ _ => 0) ⟨#[], args, []⟩).memory :=
  laidMetH_of_parts3 (fuel := 8) (laidMet_of_run' 8 (by kernel_rfl) (by kernel_rfl)) (by kernel_rfl) (by kernel_rfl)
theorem fnExactCostText_tab : (Rows.laid_internal_strconv_uint64pow10 : DataW Unit) = Lib.tabData .u64 Lib.pow10Tab := by kernel_rfl
theorem fnExactCostText_low (W : World) (h : laidMetH Tryd.prog fnExactCostText_laid W) : Low Tryd.prog W [] := by
  rw [MakeChecks.laidMetH_plain _ _ _ (by kernel_rfl)] at h
  have h := laidMet_rest h
  have h := laidMet_rest h
  have h : laidMet Tryd.prog ((tabName, Rows.laid_internal_strconv_uint64pow10) :: []) W := h
  rw [fnExactCostText_tab] at h
  exact Low.of_tab (Lib.tabIs_of_head (g := 0) (t := 48) (show Tryd.prog.globalNamed tabName = some 0 by kernel_rfl) (by kernel_rfl) Tryd.underlying48 (by kernel_rfl) (by kernel_rfl) (by kernel_rfl) h) (by kernel_rfl)
theorem fnExactCostText_lifted (os : Os) (started : os.Started) (H : Type) (enc : TypeId × Value → H) :
    ReturnsInHanded {} Tryd.checked os 3 .any (fun w args => (Rows.fnExactCostTextSpec.pre enc Tryd.prog Tryd.f3 [] false w args ∧ laidMetH Tryd.prog fnExactCostText_laid w) ∧ sizedMet enc Tryd.prog Tryd.f3 (OpenSpec.ofChange Rows.fnExactCostTextSpec) false w args) (Rows.fnExactCostTextSpec.post enc Tryd.prog Tryd.f3 false true false false) :=
  liftedX (X := fun w _ => laidMetH Tryd.prog fnExactCostText_laid w) (C := Tryd.checked) (E := [c_spec_CostText, c_laws_toCost, c_impl_CostText]) (fuel := _) (pf := pf_laws_FnExactCostText) (shs := [(true, [.int .i64, .int .i64, .int .i64, .int .i64, .int .i64])]) (tb := 4) (fun _ _ _ hh h => h.of_heap hh) (by kernel_rfl) started (by kernel_rfl) Tryd.func3
    (ChangeSpec.witness_shaped (enc := enc) (C := Tryd.checked) (os := os) (X := fun w _ => laidMetH Tryd.prog fnExactCostText_laid w) false (World.doorLaid Tryd.prog 400 os) #[.agg #[.int .i64 0, .int .i64 0, .int .i64 0, .int .i64 0, .int .i64 0]] 12 rfl (World.shaped_of_RefB (by kernel_rfl) (by kernel_rfl)) (by kernel_rfl) (by kernel_rfl) (by kernel_rfl) (fnExactCostText_met os _))
    mixd (envOk_cons ok_spec_CostText (envOk_cons ok_laws_toCost (envOk_cons ok_impl_CostText (envOk_nil)))) (by kernel_rfl) (by kernel_rfl) (by kernel_rfl) rfl (by kernel_rfl) rfl (fun W _ h => fnExactCostText_low W h)
    (fun ds h => by
      obtain _ | ⟨d0, ds⟩ := ds
      · simp at h
      obtain _ | ⟨x, ds⟩ := ds
      · rfl
      · simp at h)
    (fun ain h0 => by
      obtain ⟨T0, ain0, e, k0, h1⟩ := areCons h0
      subst e
      have e := areNil h1
      subst e
      obtain ⟨c, e, w0⟩ := areG ut_cost k0
      subst e
      exact run_laws_FnExactCostText c (w0))
theorem fnExactCostText_over : Rows.fnExactCostTextRow.holds Tryd.pinned (OpenSpec.ofChange Rows.fnExactCostTextSpec) :=
  OpenClaim.holds_of_wide 3 Tryd.f3 rfl rfl rfl rfl rfl rfl rfl ⟨rfl, rfl, rfl, rfl, rfl⟩ rfl rfl rfl rfl rfl (by kernel_rfl) Tryd.func3 (by kernel_rfl)
    (of_decide_eq_true (by kernel_rfl)) (by unfold Func.isWrapper; first | (rw [if_pos (by decide +kernel)]; kernel_rfl) | (rw [if_neg (by decide +kernel)]; exact ⟨rfl, rfl⟩))
    (fun os started H enc _ => fnExactCostText_lifted os started H enc)
theorem fnExactCostText_holds : Rows.FnExactCostTextCardSaid :=
  Claim7.holds_tied_plain_at .later [] [.data, .data, .data] true (true, "47c80393e6fd1948689987a5d86a150371a8b6624646f6ddea2033606ce2cb22") false
    fnExactCostText_over (fun _ h => by cases h) (by kernel_rfl) (fun _ h => by cases h) fnExactCostText_row_tie rfl ⟨rfl, rfl⟩ (by kernel_rfl) rfl
    (fun f fn hf hfn => by
      obtain rfl : f = 3 := Option.some.inj ((show Tryd.prog.funcNamed Rows.fnExactCostTextRow.func = some 3 by kernel_rfl).symm.trans hf) |>.symm
      obtain rfl : fn = Tryd.f3 := (Option.some.inj (Tryd.func3.symm.trans hfn)).symm
      exact ⟨by kernel_rfl, fun j t ht => by
        rw [Tryd.params3] at ht
        have hm : t ∈ [23] := by simpa using Array.mem_of_getElem? ht
        have hall : ([23].all fun u => !Tryd.prog.wantsStandIn u) = true := by kernel_rfl
        exact (show Tryd.prog.wantsStandIn t = false by simpa using List.all_eq_true.1 hall t hm)⟩)
    (by kernel_rfl)
#print axioms fnExactCostText_holds
end Go.Proofs.YthpjpaginggjaaaDoor
