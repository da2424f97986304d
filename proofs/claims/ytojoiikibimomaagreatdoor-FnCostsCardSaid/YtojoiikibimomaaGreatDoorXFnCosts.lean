/- FnCosts: the given statement holds, out of the law's run by PI. No conditions. -/
import Derived.Test.YtojoiikibimomaaGreatDoorC8
import Derived.Test.YtojoiikibimomaaGreatDoorCards
import Derived.Test.YtojoiikibimomaaGreatDoorTie
import Derived.SevenTiedAt
import Derived.OpenShut
import Derived.Stop.Joined
namespace Go.Pi
open Go.Proofs
set_option linter.unusedVariables false
set_option linter.unusedSimpArgs false
set_option maxRecDepth 100000
attribute [local irreducible] iterN
def pf_laws_FnCosts : PF := ⟨[.t 2], .seq (.reg [.s (.mv 2 (.k (.v (.c .ff))))]) (.seq (.seq (.reg [.s (.mv 15 (.t 0)), .s (.call (some 16) 5 [(.t 15)])]) (.cond (.t 16) (.seq (.reg [.s (.mv 2 (.k (.v (.c .tt))))]) (.ret)) (.skip))) (.seq (.reg [.s (.mv 18 (.t 0)), .s (.call (some 19) 6 [(.t 18)]), .s (.mv 17 (.t 19)), .s (.ext 20 (.t 17) 0), .s (.ext 21 (.t 17) 1), .s (.ext 22 (.t 17) 2), .s (.alloc 4 [.nils .word, .int .i64 0, .ff, .int .i64 0, .int .i64 0, .int .i64 0, .int .i64 0, .nils .word, .nils .bool, .int .i64 0]), .s (.mv 3 (.t 20)), .s (.store 10 (.t 4) (.t 21)), .s (.mv 5 (.t 22))]) (.seq (.reg [.s (.mv 24 (.t 3)), .s (.load 25 true 10 (.t 4)), .s (.mv 26 (.t 5)), .s (.call (some 27) 7 [(.t 24), (.t 25), (.t 26)]), .s (.mv 23 (.t 27)), .s (.ext 28 (.t 23) 0), .s (.ext 29 (.t 23) 1), .s (.alloc 6 [.int .i64 0, .int .i64 0, .int .i64 0, .int .i64 0, .int .i64 0]), .s (.store 5 (.t 6) (.t 28)), .s (.mv 7 (.t 29))]) (.seq (.reg [.s (.mv 31 (.t 3)), .s (.load 32 true 10 (.t 4)), .s (.mv 33 (.t 5)), .s (.call (some 34) 8 [(.t 31), (.t 32), (.t 33)]), .s (.mv 30 (.t 34)), .s (.ext 35 (.t 30) 0), .s (.ext 36 (.t 30) 1), .s (.alloc 8 [.int .i64 0, .int .i64 0, .int .i64 0, .int .i64 0, .int .i64 0]), .s (.store 5 (.t 8) (.t 35)), .s (.mv 9 (.t 36))]) (.seq (.reg [.s (.mv 38 (.t 0)), .s (.call (some 39) 9 [(.t 38)]), .s (.mv 37 (.t 39)), .s (.ext 40 (.t 37) 0), .s (.ext 41 (.t 37) 1), .s (.alloc 10 [.int .i64 0, .int .i64 0, .int .i64 0, .int .i64 0, .int .i64 0]), .s (.alloc 11 [.int .i64 0, .int .i64 0, .int .i64 0, .int .i64 0, .int .i64 0]), .s (.store 5 (.t 10) (.t 40)), .s (.store 5 (.t 11) (.t 41))]) (.seq (.reg [.s (.mv 42 (.t 0)), .s (.call (some 43) 10 [(.t 42)]), .s (.alloc 12 [.int .i64 0, .int .i64 0, .int .i64 0, .int .i64 0, .int .i64 0]), .s (.store 5 (.t 12) (.t 43))]) (.seq (.seq (.rgd [] [.s (.mv 44 (.t 7)), .s (.mv 45 (.t 9)), .s (.eqs 46 false [.b] true (.t 44) (.t 45)), .s (.mv 47 (.t 46)), .g 47 false (some 48) (.load 48 true 5 (.t 6)), .g 47 false (some 49) (.load 49 true 5 (.t 8)), .g 47 false (some 50) (.eqs 50 true [.i, .i, .i, .i, .i] true (.t 48) (.t 49)), .s (.pick 51 (.t 47) (.k (.v (.c .tt))) (.t 50)), .s (.mv 52 (.t 51)), .g 52 false (some 53) (.load 53 true 5 (.t 10)), .g 52 false (some 54) (.load 54 true 5 (.t 11)), .g 52 false (some 55) (.call (some 55) 11 [(.t 53), (.t 54)]), .g 52 false (some 56) (.load 56 true 5 (.t 10)), .g 52 false (some 57) (.load 57 true 5 (.t 11)), .g 52 false (some 58) (.call (some 58) 12 [(.t 56), (.t 57)]), .g 52 false (some 59) (.eqs 59 true [.i, .i, .i, .i, .i] true (.t 55) (.t 58)), .s (.pick 60 (.t 52) (.k (.v (.c .tt))) (.t 59)), .s (.mv 61 (.t 60)), .g 61 false (some 62) (.load 62 true 5 (.t 10)), .g 61 false (some 63) (.load 63 true 5 (.t 11)), .g 61 false (some 64) (.call (some 64) 11 [(.t 62), (.t 63)]), .g 61 false (some 65) (.load 65 true 5 (.t 11)), .g 61 false (some 66) (.load 66 true 5 (.t 10)), .g 61 false (some 67) (.call (some 67) 11 [(.t 65), (.t 66)]), .g 61 false (some 68) (.eqs 68 true [.i, .i, .i, .i, .i] true (.t 64) (.t 67)), .s (.pick 69 (.t 61) (.k (.v (.c .tt))) (.t 68)), .s (.mv 70 (.t 69)), .g 70 false (some 71) (.load 71 true 5 (.t 12)), .g 70 false (some 72) (.call (some 72) 13 [(.t 71)]), .g 70 false (some 73) (.load 73 true 5 (.t 12)), .g 70 false (some 74) (.call (some 74) 14 [(.t 73)]), .g 70 false (some 75) (.eqs 75 false [.s] true (.t 72) (.t 74)), .s (.pick 76 (.t 70) (.k (.v (.c .tt))) (.t 75))] (.tk 0 (.tk 1 (.tk 2 (.tk 3 (.tk 4 (.tk 5 (.tk 6 (.tk 7 (.tk 8 (.tk 9 (.tk 10 (.tk 12 (.tk 13 (.one 11 false (.one 14 true (.tk 15 (.tk 16 (.tk 17 (.tk 18 (.tk 19 (.tk 21 (.tk 22 (.one 20 false (.one 23 true (.tk 24 (.tk 25 (.tk 26 (.tk 27 (.tk 29 (.one 28 false (.one 30 true (.tk 31 (.tk 32 (.done none))))))))))))))))))))))))))))))))))) (.cond (.t 76) (.seq (.reg [.s (.mv 2 (.k (.v (.c .ff))))]) (.ret)) (.skip))) (.seq (.seq (.reg [.s (.mv 77 (.t 7)), .s (.bnot 78 (.t 77))]) (.cond (.t 78) (.seq (.reg [.s (.load 79 true 5 (.t 6)), .s (.build 80 [.int .i64 0, .int .i64 0, .int .i64 0, .int .i64 0, .int .i64 0] []), .s (.eqs 81 true [.i, .i, .i, .i, .i] false (.t 79) (.t 80)), .s (.mv 2 (.t 81))]) (.ret)) (.skip))) (.seq (.reg [.s (.mv 83 (.t 3)), .s (.load 84 true 10 (.t 4)), .s (.mv 85 (.t 5)), .s (.call (some 86) 15 [(.t 83), (.t 84), (.t 85)]), .s (.mv 82 (.t 86)), .s (.ext 87 (.t 82) 0), .s (.ext 88 (.t 82) 1), .s (.alloc 13 [.nils .word, .int .i64 0, .ff, .int .i64 0, .int .i64 0, .int .i64 0, .int .i64 0, .nils .word, .nils .bool, .int .i64 0, .nils .entry, .int .i64 0, .ff, .int .i64 0, .int .i64 0, .int .i64 0, .int .i64 0, .ff, .nils (.int .i64)]), .s (.store 19 (.t 13) (.t 87)), .s (.mv 14 (.t 88))]) (.seq (.reg [.s (.fa 89 (.t 6) 0), .s (.load 90 false 1 (.t 89)), .s (.fa 91 (.t 6) 2), .s (.load 92 false 1 (.t 91)), .s (.fa 93 (.t 6) 3), .s (.load 94 false 1 (.t 93)), .s (.bin 95 .add (.t 92) (.t 94)), .s (.fa 96 (.t 13) 10), .s (.load 97 false 1 (.t 96)), .s (.len 98 false (.t 97)), .s (.bin 99 .add (.t 95) (.t 98)), .s (.bin 100 .eql (.t 90) (.t 99)), .s (.mv 101 (.t 100)), .g 101 true (some 102) (.fa 102 (.t 6) 3), .g 101 true (some 103) (.load 103 false 1 (.t 102)), .g 101 true (some 104) (.bin 104 .geq (.t 103) (.k (.v (.c (.int .i64 0))))), .s (.pick 105 (.t 101) (.t 104) (.k (.v (.c .ff)))), .s (.mv 106 (.t 105)), .g 106 true (some 107) (.fa 107 (.t 6) 1), .g 106 true (some 108) (.load 108 false 1 (.t 107)), .g 106 true (some 109) (.fa 109 (.t 6) 0), .g 106 true (some 110) (.load 110 false 1 (.t 109)), .g 106 true (some 111) (.bin 111 .leq (.t 108) (.t 110)), .s (.pick 112 (.t 106) (.t 111) (.k (.v (.c .ff)))), .s (.mv 113 (.t 112)), .g 113 true (some 114) (.mv 114 (.t 14)), .g 113 true (some 115) (.len 115 false (.t 114)), .g 113 true (some 116) (.fa 116 (.t 6) 2), .g 113 true (some 117) (.load 117 false 1 (.t 116)), .g 113 true (some 118) (.fa 118 (.t 6) 4), .g 113 true (some 119) (.load 119 false 1 (.t 118)), .g 113 true (some 120) (.bin 120 .add (.t 117) (.t 119)), .g 113 true (some 121) (.bin 121 .geq (.t 115) (.t 120)), .s (.pick 122 (.t 113) (.t 121) (.k (.v (.c .ff)))), .s (.mv 2 (.t 122))]) (.ret)))))))))))⟩
def c_laws_FnCosts : Fun := ⟨3, [], fun ts K => as1 ts fun t0 => arC (pL (.int .u8)) t0 fun code => chk (code.length ≤ 9223372036854775807) (K (tB true) [])⟩
set_option maxHeartbeats 4000000 in
theorem run_laws_FnCosts (FU : Nat) (code : List (FT.Ty (.int .u8))) (hpre : code.length ≤ 9223372036854775807) : runK [c_laws_big, c_spec_DrawCostOf, c_impl_CostOf, c_spec_CostOf, c_spec_DrawCostAdd, c_spec_DrawCostText, c_impl_CostAdd, c_spec_CostAdd, c_impl_CostText, c_spec_CostText, c_impl_CoreRun] (100 + FU) [] pf_laws_FnCosts [tL false (.int .u8) code] fun r o => r = tB true ∧ o = [] := by
  conv => whnf
  refine sel_i (fun h => ?_) (fun h => ?_) <;> conv => whnf
  · exact ⟨rfl, rfl⟩
  have hc : code.length ≤ 1048576 := by simp at h; omega
  clear h
  refine chk_i hc ?_
  conv => whnf
  intro l s ps hd
  obtain ⟨g1, g2, g3⟩ := hd
  have hln : LState s 2147483647 := g2.mono (by decide)
  have cl := @costs_law l s ps
  have cn := @costs_no l s ps
  have cz := coreRun_sz l s ps
  have cb := costOf_bnd l s g3
  conv => whnf
  repeat' (first | (refine sel_i (fun h => ?_) (fun h => ?_) <;> conv => whnf) | (refine chk_c ?_ ?_ <;> conv => whnf) | (refine And.intro ?_ rfl) | (refine And.intro ?_ ?_ <;> conv => whnf))
  all_goals (try simp only [etaKey, etaWord, etaMemory, etaState, etaCost, Bool.not_eq_true', Bool.not_eq_false'] at *)
  all_goals first
    | (refine ⟨?_⟩; first | assumption | exact ⟨by omega, hln, by omega⟩)
    | skip
  intro x y hxy
  conv => whnf
  repeat' (first | (refine sel_i (fun h => ?_) (fun h => ?_) <;> conv => whnf) | (refine chk_c ?_ ?_ <;> conv => whnf) | (refine And.intro ?_ rfl) | (refine And.intro ?_ ?_ <;> conv => whnf))
  all_goals (try simp only [etaKey, etaWord, etaMemory, etaState, etaCost, Bool.not_eq_true', Bool.not_eq_false'] at *)
  all_goals first
    | (refine ⟨?_⟩; assumption)
    | skip
  intro t ht
  have ht1 := ht.inC
  have hcm := costAdd_comm x y
  conv => whnf
  repeat' (first | (refine sel_i (fun h => ?_) (fun h => ?_) <;> conv => whnf) | (refine chk_c ?_ ?_ <;> conv => whnf) | (refine And.intro ?_ rfl) | (refine And.intro ?_ ?_ <;> conv => whnf))
  all_goals (try simp only [etaKey, etaWord, etaMemory, etaState, etaCost, Bool.not_eq_true', Bool.not_eq_false'] at *)
  all_goals generalize coreRun l s ps = r at *
  all_goals generalize costOf l s ps = A at *
  all_goals first
    | (refine ⟨?_⟩; first | exact ht1 | exact ⟨by omega, hln, by omega⟩)
    | (rw [cn (by assumption)]; rfl)
    | (exfalso; (try rw [hcm] at h); simp at h; done)
    | (exfalso; clear cl cn cb cz; simp [hcm] at *; done)
    | (exact absurd ((beqB (costB t)).symm.trans (show (costB t == costB t) = false by assumption)) (by decide))
    | (obtain ⟨b0, b1, b2, b3, b4⟩ := cl (by assumption)
       have hd := dones_le r.1.rob
       have hl := (coreOk_len b0).2.1
       unfold BndC at cb
       have e1 : IntKind.i64.wrap (A.1.kept + A.1.back) = A.1.kept + A.1.back := wrap_id (by omega) (by omega)
       have e2 : IntKind.i64.wrap (A.1.kept + A.1.back + (r.1.rob.length : Int)) = A.1.kept + A.1.back + (r.1.rob.length : Int) := wrap_id (by omega) (by omega)
       have e3 : IntKind.i64.wrap (A.1.kept + A.1.swept) = A.1.kept + A.1.swept := wrap_id (by omega) (by omega)
       simp only [e1, e2, e3, ge_iff_le, beq_iff_eq, beq_eq_false_iff_ne, decide_eq_true_eq, decide_eq_false_iff_not] at *
       first
         | (rw [decide_eq_true (by omega)]; done)
         | (exfalso; omega))
    | trace_state
theorem ok_laws_FnCosts : FunOk Tryz.prog c_laws_FnCosts := funOk (E := [c_laws_big, c_spec_DrawCostOf, c_impl_CostOf, c_spec_CostOf, c_spec_DrawCostAdd, c_spec_DrawCostText, c_impl_CostAdd, c_spec_CostAdd, c_impl_CostText, c_spec_CostText, c_impl_CoreRun]) (envOk_cons ok_laws_big (envOk_cons ok_spec_DrawCostOf (envOk_cons ok_impl_CostOf (envOk_cons ok_spec_CostOf (envOk_cons ok_spec_DrawCostAdd (envOk_cons ok_spec_DrawCostText (envOk_cons ok_impl_CostAdd (envOk_cons ok_spec_CostAdd (envOk_cons ok_impl_CostText (envOk_cons ok_spec_CostText (envOk_cons ok_impl_CoreRun (envOk_nil)))))))))))) mixd Tryz.func3 (pf := pf_laws_FnCosts) (by kernel_rfl) fun ts K h => by
  obtain ⟨t0, e0, h⟩ := as1_out h
  subst e0
  obtain ⟨code, e1, hq⟩ := arC_out (rd_l (.int .u8)) h
  clear h
  subst e1
  have h := hq
  clear hq
  obtain ⟨hpre, h⟩ := chk_o h
  exact ⟨_, _, h, Nat.le_of_ble_eq_true (show Nat.ble 1 Tryz.f3.ntmps = true by kernel_rfl), _, run_laws_FnCosts 0 code hpre⟩

end Go.Pi
namespace Go.Proofs.YtojoiikibimomaaGreatDoor
open Go.Pi
set_option maxRecDepth 100000
def fnCosts_laid : List (String × DataW Unit) := [("math/bits.deBruijn32tab", Rows.laid_math_bits_deBruijn32tab), ("math/bits.deBruijn64tab", Rows.laid_math_bits_deBruijn64tab), ("internal/strconv.uint64pow10", Rows.laid_internal_strconv_uint64pow10)]
theorem fnCosts_met (os : Os) (args : Array Value) : laidMetH Tryz.prog fnCosts_laid ((World.doorLaid Tryz.prog 400 os).forCall (fun _ _ => 0) ⟨#[], args, []⟩).memory :=
  laidMetH_of_parts3 (fuel := 8) (laidMet_of_run' 8 (by kernel_rfl) (by kernel_rfl)) (by kernel_rfl) (by kernel_rfl)
theorem fnCosts_tab : (Rows.laid_internal_strconv_uint64pow10 : DataW Unit) = Lib.tabData .u64 Lib.pow10Tab := by kernel_rfl
theorem fnCosts_low (W : World) (h : laidMetH Tryz.prog fnCosts_laid W) : Low Tryz.prog W [] := by
  rw [MakeChecks.laidMetH_plain _ _ _ (by kernel_rfl)] at h
  have h := laidMet_rest h
  have h := laidMet_rest h
  have h : laidMet Tryz.prog ((tabName, Rows.laid_internal_strconv_uint64pow10) :: []) W := h
  rw [fnCosts_tab] at h
  exact Low.of_tab (Lib.tabIs_of_head (g := 0) (t := 275) (show Tryz.prog.globalNamed tabName = some 0 by kernel_rfl) (by kernel_rfl) Tryz.underlying275 (by kernel_rfl) (by kernel_rfl) (by kernel_rfl) h) (by kernel_rfl)
theorem fnCosts_lifted (os : Os) (started : os.Started) (H : Type) (enc : TypeId × Value → H) :
    ReturnsInHanded {} Tryz.checked os 3 .any (fun w args => (Rows.fnCostsSpec.pre enc Tryz.prog Tryz.f3 [] false w args ∧ laidMetH Tryz.prog fnCosts_laid w) ∧ sizedMet enc Tryz.prog Tryz.f3 (OpenSpec.ofChange Rows.fnCostsSpec) false w args) (Rows.fnCostsSpec.post enc Tryz.prog Tryz.f3 false true false false) :=
  liftedX (X := fun w _ => laidMetH Tryz.prog fnCosts_laid w) (C := Tryz.checked) (E := [c_laws_big, c_spec_DrawCostOf, c_impl_CostOf, c_spec_CostOf, c_spec_DrawCostAdd, c_spec_DrawCostText, c_impl_CostAdd, c_spec_CostAdd, c_impl_CostText, c_spec_CostText, c_impl_CoreRun]) (fuel := _) (pf := pf_laws_FnCosts) (shs := [(false, [.sl (.int .u8)])]) (tb := 4) (fun _ _ _ hh h => h.of_heap hh) (by kernel_rfl) started (by kernel_rfl) Tryz.func3
    (ChangeSpec.witness_shaped (enc := enc) (C := Tryz.checked) (os := os) (X := fun w _ => laidMetH Tryz.prog fnCosts_laid w) false (World.doorLaid Tryz.prog 400 os) #[.slice none 0 0] 12 rfl (World.shaped_of_RefB (by kernel_rfl) (by kernel_rfl)) (by kernel_rfl) (by kernel_rfl) (by kernel_rfl) (fnCosts_met os _))
    mixd (envOk_cons ok_laws_big (envOk_cons ok_spec_DrawCostOf (envOk_cons ok_impl_CostOf (envOk_cons ok_spec_CostOf (envOk_cons ok_spec_DrawCostAdd (envOk_cons ok_spec_DrawCostText (envOk_cons ok_impl_CostAdd (envOk_cons ok_spec_CostAdd (envOk_cons ok_impl_CostText (envOk_cons ok_spec_CostText (envOk_cons ok_impl_CoreRun (envOk_nil)))))))))))) (by kernel_rfl) (by kernel_rfl) (by kernel_rfl) rfl (by kernel_rfl) rfl (fun W _ h => fnCosts_low W h)
    (fun ds h => by
      obtain _ | ⟨d0, ds⟩ := ds
      · simp at h
      obtain _ | ⟨x, ds⟩ := ds
      · rfl
      · simp at h)
    (fun ain h0 => by
      obtain ⟨T0, ain0, e, k0, h1⟩ := areCons h0
      subst e
      have e := areNil h1
      subst e
      obtain ⟨code, e, w0⟩ := isL k0
      subst e
      exact run_laws_FnCosts 0 code (w0.2))
theorem fnCosts_over : Rows.fnCostsRow.holds Tryz.pinned (OpenSpec.ofChange Rows.fnCostsSpec) :=
  OpenClaim.holds_of_wide 3 Tryz.f3 rfl rfl rfl rfl rfl rfl rfl ⟨rfl, rfl, rfl, rfl, rfl⟩ rfl rfl rfl rfl rfl (by kernel_rfl) Tryz.func3 (by kernel_rfl)
    (of_decide_eq_true (by kernel_rfl)) (by unfold Func.isWrapper; first | (rw [if_pos (by decide +kernel)]; kernel_rfl) | (rw [if_neg (by decide +kernel)]; exact ⟨rfl, rfl⟩))
    (fun os started H enc _ => fnCosts_lifted os started H enc)
theorem fnCosts_holds : Rows.FnCostsCardSaid :=
  Claim7.holds_tied_plain_at .later [] [.data, .data, .data] true (true, "31db36eace29b94f7be88ccec885d6b32da145bca90fe8d0d68889089bb2ff17") true
    fnCosts_over (fun _ h => by cases h) (by kernel_rfl) (fun _ h => by cases h) fnCosts_row_tie rfl ⟨rfl, rfl⟩ (by kernel_rfl) rfl
    (fun f fn hf hfn => by
      obtain rfl : f = 3 := Option.some.inj ((show Tryz.prog.funcNamed Rows.fnCostsRow.func = some 3 by kernel_rfl).symm.trans hf) |>.symm
      obtain rfl : fn = Tryz.f3 := (Option.some.inj (Tryz.func3.symm.trans hfn)).symm
      exact ⟨by kernel_rfl, fun j t ht => by
        rw [Tryz.params3] at ht
        have hm : t ∈ [22] := by simpa using Array.mem_of_getElem? ht
        have hall : ([22].all fun u => !Tryz.prog.wantsStandIn u) = true := by kernel_rfl
        exact (show Tryz.prog.wantsStandIn t = false by simpa using List.all_eq_true.1 hall t hm)⟩)
    (by kernel_rfl)
#print axioms fnCosts_holds
end Go.Proofs.YtojoiikibimomaaGreatDoor
