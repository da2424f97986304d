/- FnExactSeenText: the given statement holds, out of the law's run by PI. No conditions. -/
import Derived.Test.YthpjpaginggjaaaDoorC1
import Derived.Test.YthpjpaginggjaaaDoorCards
import Derived.Test.YthpjpaginggjaaaDoorTie
import Derived.SevenTiedAt
import Derived.OpenShut
import Derived.Stop.Joined
namespace Go.Pi
open Go.Proofs
set_option linter.unusedVariables false
set_option linter.unusedSimpArgs false
set_option maxRecDepth 100000
attribute [local irreducible] iterN
def pf_laws_FnExactSeenText : PF := ⟨[.t 2], .seq (.reg [.s (.box 1 (.t 0)), .s (.mv 2 (.k (.v (.c .ff))))]) (.seq (.reg [.s (.load 5 true 4 (.t 1)), .s (.call (some 6) 9 [(.t 5)]), .s (.call (some 7) 8 [(.t 6)]), .s (.mv 3 (.t 7))]) (.seq (.reg [.s (.load 8 true 4 (.t 1)), .s (.call (some 9) 9 [(.t 8)]), .s (.call (some 10) 10 [(.t 9)]), .s (.mv 4 (.t 10))]) (.seq (.seq (.reg [.s (.mv 11 (.t 4)), .s (.mv 12 (.t 3)), .s (.eqs 13 false [.s] true (.t 11) (.t 12))]) (.cond (.t 13) (.seq (.reg [.s (.mv 2 (.k (.v (.c .ff))))]) (.ret)) (.skip))) (.seq (.reg [.s (.mv 2 (.k (.v (.c .tt))))]) (.ret)))))⟩
def c_laws_FnExactSeenText : Fun := ⟨4, [], fun ts K => as1 ts fun t0 => arG pSeenT t0 fun x => chk (WSeen x) (K (tB true) [])⟩
theorem run_laws_FnExactSeenText (x : Seen) (hpre : WSeen x) : runK [c_spec_SeenText, c_laws_toSeen, c_impl_SeenText] (0) [] pf_laws_FnExactSeenText [tG (x.tc [])] fun r o => r = tB true ∧ o = [] := by
  have hc : InS x := by
    obtain ⟨h1, h2, h3, h4⟩ := hpre
    exact ⟨wfI_in h1, wfI_in h2, wfI_in h3⟩
  conv => whnf
  repeat' (first | (refine sel_i (fun h => ?_) (fun h => ?_) <;> conv => whnf) | (refine chk_c ?_ ?_ <;> conv => whnf) | (refine And.intro ?_ rfl) | (refine And.intro ?_ ?_ <;> conv => whnf))
  · exact ⟨hc⟩
  · exact ⟨hc⟩
  · exfalso
    have h : (!(seenB x == seenB x)) = true := h
    rw [beq_toListBytes] at h
    simp at h
  · rfl
theorem ok_laws_FnExactSeenText : FunOk Tryd.prog c_laws_FnExactSeenText := funOk (E := [c_spec_SeenText, c_laws_toSeen, c_impl_SeenText]) (envOk_cons ok_spec_SeenText (envOk_cons ok_laws_toSeen (envOk_cons ok_impl_SeenText (envOk_nil)))) mixd Tryd.func4 (pf := pf_laws_FnExactSeenText) (by kernel_rfl) fun ts K h => by
  obtain ⟨t0, e0, h⟩ := as1_out h
  subst e0
  obtain ⟨x, e1, hq⟩ := arG_out rd_seen h
  clear h
  subst e1
  have h := hq
  clear hq
  obtain ⟨hpre, h⟩ := chk_o h
  exact ⟨_, _, h, Nat.le_of_ble_eq_true (show Nat.ble 1 Tryd.f4.ntmps = true by kernel_rfl), _, run_laws_FnExactSeenText x hpre⟩

end Go.Pi
namespace Go.Proofs.YthpjpaginggjaaaDoor
open Go.Pi
set_option maxRecDepth 100000
def fnExactSeenText_laid : List (String × DataW Unit) := [("math/bits.deBruijn32tab", Rows.laid_math_bits_deBruijn32tab), ("math/bits.deBruijn64tab", Rows.laid_math_bits_deBruijn64tab), ("internal/strconv.uint64pow10", Rows.laid_internal_strconv_uint64pow10)]
theorem fnExactSeenText_met (os : Os) (args : Array Value) : laidMetH Tryd.prog fnExactSeenText_laid ((World.doorLaid Tryd.prog 400 os).forCall (fun _ _ => 0) ⟨#[], args, []⟩).memory :=
  laidMetH_of_parts3 (fuel := 8) (laidMet_of_run' 8 (by kernel_rfl) (by kernel_rfl)) (by kernel_rfl) (by kernel_rfl)
theorem fnExactSeenText_tab : (Rows.laid_internal_strconv_uint64pow10 : DataW Unit) = Lib.tabData .u64 Lib.pow10Tab := by kernel_rfl
theorem fnExactSeenText_low (W : World) (h : laidMetH Tryd.prog fnExactSeenText_laid W) : Low Tryd.prog W [] := by
  rw [MakeChecks.laidMetH_plain _ _ _ (by kernel_rfl)] at h
  have h := laidMet_rest h
  have h := laidMet_rest h
  have h : laidMet Tryd.prog ((tabName, Rows.laid_internal_strconv_uint64pow10) :: []) W := h
  rw [fnExactSeenText_tab] at h
  exact Low.of_tab (Lib.tabIs_of_head (g := 0) (t := 48) (show Tryd.prog.globalNamed tabName = some 0 by kernel_rfl) (by kernel_rfl) Tryd.underlying48 (by kernel_rfl) (by kernel_rfl) (by kernel_rfl) h) (by kernel_rfl)
theorem fnExactSeenText_lifted (os : Os) (started : os.Started) (H : Type) (enc : TypeId × Value → H) :
    ReturnsInHanded {} Tryd.checked os 4 .any (fun w args => (Rows.fnExactSeenTextSpec.pre enc Tryd.prog Tryd.f4 [] false w args ∧ laidMetH Tryd.prog fnExactSeenText_laid w) ∧ sizedMet enc Tryd.prog Tryd.f4 (OpenSpec.ofChange Rows.fnExactSeenTextSpec) false w args) (Rows.fnExactSeenTextSpec.post enc Tryd.prog Tryd.f4 false true false false) :=
  liftedX (X := fun w _ => laidMetH Tryd.prog fnExactSeenText_laid w) (C := Tryd.checked) (E := [c_spec_SeenText, c_laws_toSeen, c_impl_SeenText]) (fuel := _) (pf := pf_laws_FnExactSeenText) (shs := [(true, [.int .i64, .int .i64, .int .i64, .int .i64])]) (tb := 4) (fun _ _ _ hh h => h.of_heap hh) (by kernel_rfl) started (by kernel_rfl) Tryd.func4
    (ChangeSpec.witness_shaped (enc := enc) (C := Tryd.checked) (os := os) (X := fun w _ => laidMetH Tryd.prog fnExactSeenText_laid w) false (World.doorLaid Tryd.prog 400 os) #[.agg #[.int .i64 0, .int .i64 0, .int .i64 0, .int .i64 0]] 12 rfl (World.shaped_of_RefB (by kernel_rfl) (by kernel_rfl)) (by kernel_rfl) (by kernel_rfl) (by kernel_rfl) (fnExactSeenText_met os _))
    mixd (envOk_cons ok_spec_SeenText (envOk_cons ok_laws_toSeen (envOk_cons ok_impl_SeenText (envOk_nil)))) (by kernel_rfl) (by kernel_rfl) (by kernel_rfl) rfl (by kernel_rfl) rfl (fun W _ h => fnExactSeenText_low W h)
    (fun ds h => by
      obtain _ | ⟨d0, ds⟩ := ds
      · simp at h
      obtain _ | ⟨x, ds⟩ := ds
      · rfl
      · simp at h)
    (fun ain h0 => by
      obtain ⟨T0, ain0, e, k0, h1⟩ := areCons h0
      subst e
      have e := areNil h1
      subst e
      obtain ⟨x, e, w0⟩ := areG ut_seen k0
      subst e
      exact run_laws_FnExactSeenText x (w0))
theorem fnExactSeenText_over : Rows.fnExactSeenTextRow.holds Tryd.pinned (OpenSpec.ofChange Rows.fnExactSeenTextSpec) :=
  OpenClaim.holds_of_wide 4 Tryd.f4 rfl rfl rfl rfl rfl rfl rfl ⟨rfl, rfl, rfl, rfl, rfl⟩ rfl rfl rfl rfl rfl (by kernel_rfl) Tryd.func4 (by kernel_rfl)
    (of_decide_eq_true (by kernel_rfl)) (by unfold Func.isWrapper; first | (rw [if_pos (by decide +kernel)]; kernel_rfl) | (rw [if_neg (by decide +kernel)]; exact ⟨rfl, rfl⟩))
    (fun os started H enc _ => fnExactSeenText_lifted os started H enc)
theorem fnExactSeenText_holds : Rows.FnExactSeenTextCardSaid :=
  Claim7.holds_tied_plain_at .later [] [.data, .data, .data] true (true, "47c80393e6fd1948689987a5d86a150371a8b6624646f6ddea2033606ce2cb22") false
    fnExactSeenText_over (fun _ h => by cases h) (by kernel_rfl) (fun _ h => by cases h) fnExactSeenText_row_tie rfl ⟨rfl, rfl⟩ (by kernel_rfl) rfl
    (fun f fn hf hfn => by
      obtain rfl : f = 4 := Option.some.inj ((show Tryd.prog.funcNamed Rows.fnExactSeenTextRow.func = some 4 by kernel_rfl).symm.trans hf) |>.symm
      obtain rfl : fn = Tryd.f4 := (Option.some.inj (Tryd.func4.symm.trans hfn)).symm
      exact ⟨by kernel_rfl, fun j t ht => by
        rw [Tryd.params4] at ht
        have hm : t ∈ [29] := by simpa using Array.mem_of_getElem? ht
        have hall : ([29].all fun u => !Tryd.prog.wantsStandIn u) = true := by kernel_rfl
        exact (show Tryd.prog.wantsStandIn t = false by simpa using List.all_eq_true.1 hall t hm)⟩)
    (by kernel_rfl)
#print axioms fnExactSeenText_holds
end Go.Proofs.YthpjpaginggjaaaDoor
