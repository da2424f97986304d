/- FnTwoSteps: the given statement holds, out of the law's run by PI. No conditions. -/
import Derived.Test.YtkiokbkbgjomeaaGreatC5
namespace Go.Pi
open Go.Proofs
set_option linter.unusedVariables false
set_option linter.unusedSimpArgs false
set_option maxRecDepth 100000
attribute [local irreducible] iterN
def pf_laws_FnTwoSteps : PF := ⟨[.t 2], .seq (.reg [.s (.mv 2 (.k (.v (.c .ff))))]) (.seq (.seq (.reg [.s (.mv 18 (.t 0)), .s (.call (some 19) 10 [(.t 18)])]) (.cond (.t 19) (.seq (.reg [.s (.mv 2 (.k (.v (.c .tt))))]) (.ret)) (.skip))) (.seq (.reg [.s (.mv 21 (.t 0)), .s (.call (some 22) 32 [(.t 21)]), .s (.mv 20 (.t 22)), .s (.ext 23 (.t 20) 0), .s (.ext 24 (.t 20) 1), .s (.ext 25 (.t 20) 2), .s (.ext 26 (.t 20) 3), .s (.alloc 5 [.nils .word, .nils .bool, .nils .word, .int .i64 0, .ff, .int .i64 0, .int .i64 0, .int .i64 0, .int .i64 0, .int .i64 0, .nils .word, .int .i64 0, .ff, .int .i64 0, .int .i64 0, .int .i64 0, .int .i64 0, .int .i64 0]), .s (.mv 3 (.t 23)), .s (.mv 4 (.t 24)), .s (.store 18 (.t 5) (.t 25)), .s (.mv 6 (.t 26))]) (.seq (.reg [.s (.mv 28 (.t 3)), .s (.mv 29 (.t 4)), .s (.load 30 true 18 (.t 5)), .s (.mv 31 (.t 6)), .s (.call (some 32) 33 [(.t 28), (.t 29), (.t 30), (.t 31)]), .s (.mv 27 (.t 32)), .s (.ext 33 (.t 27) 0), .s (.ext 34 (.t 27) 1), .s (.alloc 7 [.nils .word, .nils .bool, .nils .word, .int .i64 0, .ff, .int .i64 0, .int .i64 0, .int .i64 0, .int .i64 0, .int .i64 0, .nils .word, .int .i64 0, .ff, .int .i64 0, .int .i64 0, .int .i64 0, .int .i64 0, .int .i64 0]), .s (.store 18 (.t 7) (.t 33)), .s (.mv 8 (.t 34))]) (.seq (.reg [.s (.mv 36 (.t 3)), .s (.mv 37 (.t 4)), .s (.load 38 true 18 (.t 5)), .s (.mv 39 (.t 6)), .s (.call (some 40) 34 [(.t 36), (.t 37), (.t 38), (.t 39)]), .s (.mv 35 (.t 40)), .s (.ext 41 (.t 35) 0), .s (.ext 42 (.t 35) 1), .s (.alloc 9 [.nils .word, .nils .bool, .nils .word, .int .i64 0, .ff, .int .i64 0, .int .i64 0, .int .i64 0, .int .i64 0, .int .i64 0, .nils .word, .int .i64 0, .ff, .int .i64 0, .int .i64 0, .int .i64 0, .int .i64 0, .int .i64 0]), .s (.store 18 (.t 9) (.t 41)), .s (.mv 10 (.t 42))]) (.seq (.reg [.s (.mv 44 (.t 0)), .s (.call (some 45) 35 [(.t 44)]), .s (.mv 43 (.t 45)), .s (.ext 46 (.t 43) 0), .s (.ext 47 (.t 43) 1), .s (.ext 48 (.t 43) 2), .s (.ext 49 (.t 43) 3), .s (.alloc 13 [.nils .word, .nils .bool, .nils .word, .int .i64 0, .ff, .int .i64 0, .int .i64 0, .int .i64 0, .int .i64 0, .int .i64 0, .nils .word, .int .i64 0, .ff, .int .i64 0, .int .i64 0, .int .i64 0, .int .i64 0, .int .i64 0]), .s (.mv 11 (.t 46)), .s (.mv 12 (.t 47)), .s (.store 18 (.t 13) (.t 48)), .s (.mv 14 (.t 49))]) (.seq (.reg [.s (.mv 51 (.t 0)), .s (.call (some 52) 36 [(.t 51)]), .s (.mv 50 (.t 52)), .s (.ext 53 (.t 50) 0), .s (.ext 54 (.t 50) 1), .s (.alloc 15 [.nils .word, .nils .bool, .nils .word, .int .i64 0, .ff, .int .i64 0, .int .i64 0, .int .i64 0, .int .i64 0, .int .i64 0, .nils .word, .int .i64 0, .ff, .int .i64 0, .int .i64 0, .int .i64 0, .int .i64 0, .int .i64 0]), .s (.store 18 (.t 15) (.t 53)), .s (.mv 16 (.t 54))]) (.seq (.reg [.s (.mv 55 (.t 0)), .s (.call (some 56) 37 [(.t 55)]), .s (.alloc 17 [.nils .word, .nils .bool, .nils .word, .int .i64 0, .ff, .int .i64 0, .int .i64 0, .int .i64 0, .int .i64 0, .int .i64 0, .nils .word, .int .i64 0, .ff, .int .i64 0, .int .i64 0, .int .i64 0, .int .i64 0, .int .i64 0]), .s (.store 18 (.t 17) (.t 56))]) (.seq (.seq (.rgd [] [.s (.mv 57 (.t 8)), .s (.mv 58 (.t 10)), .s (.eqs 59 false [.b] true (.t 57) (.t 58)), .s (.mv 60 (.t 59)), .g 60 false (some 61) (.load 61 true 18 (.t 7)), .g 60 false (some 62) (.load 62 true 18 (.t 9)), .g 60 false (some 63) (.call (some 63) 38 [(.t 61), (.t 62)]), .g 60 false (some 64) (.bnot 64 (.t 63)), .s (.pick 65 (.t 60) (.k (.v (.c .tt))) (.t 64)), .s (.mv 66 (.t 65)), .g 66 false (some 67) (.mv 67 (.t 11)), .g 66 false (some 68) (.mv 68 (.t 12)), .g 66 false (some 69) (.load 69 true 18 (.t 13)), .g 66 false (some 70) (.mv 70 (.t 14)), .g 66 false (some 71) (.call (some 71) 39 [(.t 67), (.t 68), (.t 69), (.t 70)]), .g 66 false (some 72) (.mv 72 (.t 11)), .g 66 false (some 73) (.mv 73 (.t 12)), .g 66 false (some 74) (.load 74 true 18 (.t 13)), .g 66 false (some 75) (.mv 75 (.t 14)), .g 66 false (some 76) (.call (some 76) 40 [(.t 72), (.t 73), (.t 74), (.t 75)]), .g 66 false (some 77) (.call (some 77) 38 [(.t 71), (.t 76)]), .g 66 false (some 78) (.bnot 78 (.t 77)), .s (.pick 79 (.t 66) (.k (.v (.c .tt))) (.t 78)), .s (.mv 80 (.t 79)), .g 80 false (some 81) (.load 81 true 18 (.t 15)), .g 80 false (some 82) (.mv 82 (.t 16)), .g 80 false (some 83) (.call (some 83) 42 [(.t 81), (.t 82)]), .g 80 false (some 84) (.load 84 true 18 (.t 15)), .g 80 false (some 85) (.mv 85 (.t 16)), .g 80 false (some 86) (.call (some 86) 43 [(.t 84), (.t 85)]), .g 80 false (some 87) (.call (some 87) 41 [(.t 83), (.t 86)]), .g 80 false (some 88) (.bnot 88 (.t 87)), .s (.pick 89 (.t 80) (.k (.v (.c .tt))) (.t 88)), .s (.mv 90 (.t 89)), .g 90 false (some 91) (.load 91 true 18 (.t 17)), .g 90 false (some 92) (.call (some 92) 44 [(.t 91)]), .g 90 false (some 93) (.load 93 true 18 (.t 17)), .g 90 false (some 94) (.call (some 94) 45 [(.t 93)]), .g 90 false (some 95) (.eqs 95 false [.b] true (.t 92) (.t 94)), .s (.pick 96 (.t 90) (.k (.v (.c .tt))) (.t 95))] (.tk 0 (.tk 1 (.tk 2 (.tk 3 (.tk 4 (.tk 5 (.one 6 true (.tk 7 (.tk 8 (.tk 9 (.tk 10 (.tk 11 (.tk 12 (.tk 13 (.tk 15 (.tk 16 (.tk 17 (.tk 18 (.one 14 false (.one 19 true (.one 20 true (.tk 21 (.tk 22 (.tk 23 (.tk 24 (.tk 25 (.tk 27 (.tk 28 (.one 26 false (.one 29 true (.one 30 true (.tk 31 (.tk 32 (.tk 33 (.tk 34 (.tk 36 (.one 35 false (.one 37 true (.tk 38 (.tk 39 (.done none)))))))))))))))))))))))))))))))))))))))))) (.cond (.t 96) (.seq (.reg [.s (.mv 2 (.k (.v (.c .ff))))]) (.ret)) (.skip))) (.seq (.seq (.reg [.s (.mv 97 (.t 8)), .s (.bnot 98 (.t 97))]) (.cond (.t 98) (.seq (.reg [.s (.load 99 true 18 (.t 7)), .s (.load 100 true 18 (.t 5)), .s (.call (some 101) 38 [(.t 99), (.t 100)]), .s (.mv 2 (.t 101))]) (.ret)) (.skip))) (.seq (.seq (.reg [.s (.mv 102 (.t 6)), .s (.bin 103 .eql (.t 102) (.k (.v (.c (.int .i64 0)))))]) (.cond (.t 103) (.seq (.reg [.s (.fa 104 (.t 7) 10), .s (.load 105 true 8 (.t 104)), .s (.fa 106 (.t 5) 10), .s (.load 107 true 8 (.t 106)), .s (.call (some 108) 46 [(.t 105), (.t 107)]), .s (.mv 109 (.t 108)), .g 109 true (some 110) (.load 110 true 18 (.t 7)), .g 109 true (some 111) (.call (some 111) 44 [(.t 110)]), .s (.pick 112 (.t 109) (.t 111) (.k (.v (.c .ff)))), .s (.mv 2 (.t 112))]) (.ret)) (.skip))) (.seq (.reg [.s (.fa 113 (.t 7) 2), .s (.load 114 true 8 (.t 113)), .s (.fa 115 (.t 5) 2), .s (.load 116 true 8 (.t 115)), .s (.call (some 117) 46 [(.t 114), (.t 116)]), .s (.mv 118 (.t 117)), .g 118 true (some 119) (.load 119 true 18 (.t 7)), .g 118 true (some 120) (.call (some 120) 44 [(.t 119)]), .s (.pick 121 (.t 118) (.t 120) (.k (.v (.c .ff)))), .s (.mv 2 (.t 121))]) (.ret))))))))))))⟩
def c_laws_FnTwoSteps : Fun := ⟨7, [], fun ts K => as1 ts fun t0 => arC (pL (.int .u8)) t0 fun code => chk (code.length ≤ 9223372036854775807) (K (tB true) [])⟩
theorem run_laws_FnTwoSteps (code : List (FT.Ty (.int .u8))) (hpre : code.length ≤ 9223372036854775807) : runK [c_laws_big, c_spec_DrawTwoStep, c_impl_TwoStep, c_spec_TwoStep, c_spec_DrawTwoRun, c_spec_DrawSideState, c_spec_DrawTwoOk, c_laws_sameTwo, c_impl_TwoRun, c_spec_TwoRun, c_laws_sameState, c_impl_SideState, c_spec_SideState, c_impl_TwoOk, c_spec_TwoOk, c_laws_sameSide] (0) [] pf_laws_FnTwoSteps [tL false (.int .u8) code] fun r o => r = tB true ∧ o = [] := by
  conv => whnf
  refine sel_i (fun h => ?_) (fun h => ?_) <;> conv => whnf
  · exact ⟨rfl, rfl⟩
  have hc : code.length ≤ 1048576 := by simp at h; omega
  clear h
  refine chk_i hc ?_
  conv => whnf
  repeat' (first | (refine sel_i (fun h => ?_) (fun h => ?_) <;> conv => whnf) | (refine chk_c ?_ ?_ <;> conv => whnf) | (refine And.intro ?_ rfl) | (refine And.intro ?_ ?_ <;> conv => whnf) | (intro x y z d hd; (try have g1 := And.left hd); (try have g2 := And.right hd); (try have g3 := And.left (And.right hd)); (try have g4 := And.right (And.right hd)); conv => whnf) | (intro x y d hd; (try have g1 := And.left hd); (try have g2 := And.right hd); (try have g3 := And.left (And.right hd)); (try have g4 := And.right (And.right hd)); conv => whnf) | (intro x d hd; (try have g1 := And.left hd); (try have g2 := And.right hd); (try have g3 := And.left (And.right hd)); (try have g4 := And.right (And.right hd)); conv => whnf) | (intro d hd; (try have g1 := And.left hd); (try have g2 := And.right hd); (try have g3 := And.left (And.right hd)); (try have g4 := And.right (And.right hd)); conv => whnf))
  all_goals (try simp only [etaKey, etaWord, etaMemory, etaState, etaSide, etaTwo] at *)
  all_goals first
    | rfl
    | trivial
    | (exact ⟨rfl, rfl⟩)
    | (refine ⟨?_⟩; assumption)
    | (exfalso; simp at h; done)
    | (refine ⟨?_⟩; exact LTwo.big (by assumption))
    | (refine ⟨?_⟩; exact ⟨by omega, by omega, LTwo.big (by assumption)⟩)
    | (refine ⟨?_⟩; exact ⟨twoStep_len (LTwo.big (by assumption)), twoStep_len (LTwo.big (by assumption))⟩)
    | (refine ⟨?_⟩; exact ⟨by omega, by omega, LTwo.big (by assumption), by omega⟩)
    | (refine ⟨?_⟩; exact ⟨twoRun_len (LTwo.big (by assumption)), twoRun_len (LTwo.big (by assumption))⟩)
    | (refine ⟨?_⟩; exact ⟨sideState_len (LTwo.big (by assumption)), sideState_len (LTwo.big (by assumption))⟩)
    | (refine ⟨?_⟩; exact ⟨twoStep_len (LTwo.big (by assumption)), LTwo.big (by assumption)⟩)
    | (refine ⟨?_⟩; exact ⟨(twoStep_len (LTwo.big (by assumption))).2.1, (LTwo.big (by assumption)).2.1⟩)
    | (refine ⟨?_⟩; exact ⟨(twoStep_len (LTwo.big (by assumption))).2.2, (LTwo.big (by assumption)).2.2⟩)
    | (refine ⟨?_⟩; exact twoStep_len (LTwo.big (by assumption)))
    | (exfalso; revert h; simp; done)
    | (exfalso; have h5 : (!twoOk d == twoOk d) = true := (by assumption); simp at h5; done)
    | (rw [ts_no (by assumption)]; done)
    | (obtain ⟨q1, q2, q3⟩ := ts_parts (by assumption); rw [q1]; done)
    | (exfalso; obtain ⟨q1, q2, q3⟩ := ts_parts (by assumption); first | (have h5 := q2 (by assumption); simp_all; done) | (have h5 := q3 (by assumption); simp_all; done))
    | trace_state
theorem ok_laws_FnTwoSteps : FunOk Tryz.prog c_laws_FnTwoSteps := funOk (E := [c_laws_big, c_spec_DrawTwoStep, c_impl_TwoStep, c_spec_TwoStep, c_spec_DrawTwoRun, c_spec_DrawSideState, c_spec_DrawTwoOk, c_laws_sameTwo, c_impl_TwoRun, c_spec_TwoRun, c_laws_sameState, c_impl_SideState, c_spec_SideState, c_impl_TwoOk, c_spec_TwoOk, c_laws_sameSide]) (envOk_cons ok_laws_big (envOk_cons ok_spec_DrawTwoStep (envOk_cons ok_impl_TwoStep (envOk_cons ok_spec_TwoStep (envOk_cons ok_spec_DrawTwoRun (envOk_cons ok_spec_DrawSideState (envOk_cons ok_spec_DrawTwoOk (envOk_cons ok_laws_sameTwo (envOk_cons ok_impl_TwoRun (envOk_cons ok_spec_TwoRun (envOk_cons ok_laws_sameState (envOk_cons ok_impl_SideState (envOk_cons ok_spec_SideState (envOk_cons ok_impl_TwoOk (envOk_cons ok_spec_TwoOk (envOk_cons ok_laws_sameSide (envOk_nil))))))))))))))))) mixd Tryz.func7 (pf := pf_laws_FnTwoSteps) (by kernel_rfl) fun ts K h => by
  obtain ⟨t0, e0, h⟩ := as1_out h
  subst e0
  obtain ⟨code, e1, hq⟩ := arC_out (rd_l (.int .u8)) h
  clear h
  subst e1
  have h := hq
  clear hq
  obtain ⟨hpre, h⟩ := chk_o h
  exact ⟨_, _, h, Nat.le_of_ble_eq_true (show Nat.ble 1 Tryz.f7.ntmps = true by kernel_rfl), _, run_laws_FnTwoSteps code hpre⟩

end Go.Pi
namespace Go.Proofs.YtkiokbkbgjomeaaGreat
open Go.Pi
theorem fnTwoSteps_lifted (os : Os) (started : os.Started) (H : Type) (enc : TypeId × Value → H) :
    ReturnsInHanded {} Tryz.checked os 7 .any (Rows.fnTwoStepsSpec.pre6 enc Tryz.prog Tryz.f7 Rows.fnTwoStepsRow.domain false) (Rows.fnTwoStepsSpec.post enc Tryz.prog Tryz.f7 false true false false) :=
  lifted (C := Tryz.checked) (E := [c_laws_big, c_spec_DrawTwoStep, c_impl_TwoStep, c_spec_TwoStep, c_spec_DrawTwoRun, c_spec_DrawSideState, c_spec_DrawTwoOk, c_laws_sameTwo, c_impl_TwoRun, c_spec_TwoRun, c_laws_sameState, c_impl_SideState, c_spec_SideState, c_impl_TwoOk, c_spec_TwoOk, c_laws_sameSide]) (fuel := _) (pf := pf_laws_FnTwoSteps) (shs := [(false, [.sl (.int .u8)])]) (tb := 4) (by kernel_rfl) started (by kernel_rfl) Tryz.func7
    (ChangeSpec.witness6 (enc := enc) (C := Tryz.checked) false ⟨#[], #[.slice none 0 0], []⟩ 12 (by kernel_rfl) (by kernel_rfl) (by kernel_rfl) (by kernel_rfl))
    mixd (envOk_cons ok_laws_big (envOk_cons ok_spec_DrawTwoStep (envOk_cons ok_impl_TwoStep (envOk_cons ok_spec_TwoStep (envOk_cons ok_spec_DrawTwoRun (envOk_cons ok_spec_DrawSideState (envOk_cons ok_spec_DrawTwoOk (envOk_cons ok_laws_sameTwo (envOk_cons ok_impl_TwoRun (envOk_cons ok_spec_TwoRun (envOk_cons ok_laws_sameState (envOk_cons ok_impl_SideState (envOk_cons ok_spec_SideState (envOk_cons ok_impl_TwoOk (envOk_cons ok_spec_TwoOk (envOk_cons ok_laws_sameSide (envOk_nil))))))))))))))))) (by kernel_rfl) (by kernel_rfl) (by kernel_rfl) rfl (by kernel_rfl) rfl
    (fun ds h => by
      obtain _ | ⟨d0, ds⟩ := ds
      · simp at h
      obtain _ | ⟨x, ds⟩ := ds
      · rfl
      · simp at h)
    (fun ain h0 => by
      obtain ⟨T0, ain0, e, k0, h1⟩ := areCons h0
      subst e
      have e := areNil h1
      subst e
      obtain ⟨code, e, w0⟩ := isL k0
      subst e
      exact run_laws_FnTwoSteps code (w0.2))
theorem fnTwoSteps_over : Rows.fnTwoStepsRow.holds Tryz.pinned (OpenSpec.ofChange Rows.fnTwoStepsSpec) :=
  OpenClaim.holds_of_wide 7 Tryz.f7 rfl rfl rfl rfl rfl rfl rfl ⟨rfl, rfl, rfl, rfl, rfl⟩ rfl rfl rfl rfl rfl (by kernel_rfl) Tryz.func7 (by kernel_rfl)
    (of_decide_eq_true (by kernel_rfl)) (by unfold Func.isWrapper; first | (rw [if_pos (by decide +kernel)]; kernel_rfl) | (rw [if_neg (by decide +kernel)]; exact ⟨rfl, rfl⟩))
    (fun os started H enc _ => fnTwoSteps_lifted os started H enc)
theorem fnTwoSteps_holds : Rows.FnTwoStepsSaid := fnTwoSteps_over
#print axioms fnTwoSteps_holds
end Go.Proofs.YtkiokbkbgjomeaaGreat
