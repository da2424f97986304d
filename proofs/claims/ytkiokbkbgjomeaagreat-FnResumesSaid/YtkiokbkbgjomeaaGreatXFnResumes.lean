/- FnResumes: the given statement holds, out of the law's run by PI. No conditions. -/
import Derived.Test.YtkiokbkbgjomeaaGreatC7
namespace Go.Pi
open Go.Proofs
set_option linter.unusedVariables false
set_option linter.unusedSimpArgs false
set_option maxRecDepth 100000
attribute [local irreducible] iterN
def pf_laws_FnResumes : PF := ⟨[.t 2], .seq (.reg [.s (.mv 2 (.k (.v (.c .ff))))]) (.seq (.seq (.reg [.s (.mv 19 (.t 0)), .s (.call (some 20) 10 [(.t 19)])]) (.cond (.t 20) (.seq (.reg [.s (.mv 2 (.k (.v (.c .tt))))]) (.ret)) (.skip))) (.seq (.reg [.s (.mv 22 (.t 0)), .s (.call (some 23) 26 [(.t 22)]), .s (.mv 21 (.t 23)), .s (.ext 24 (.t 21) 0), .s (.ext 25 (.t 21) 1), .s (.ext 26 (.t 21) 2), .s (.mv 3 (.t 24)), .s (.mv 4 (.t 25)), .s (.mv 5 (.t 26))]) (.seq (.reg [.s (.mv 28 (.t 3)), .s (.mv 29 (.t 4)), .s (.mv 30 (.t 5)), .s (.call (some 31) 27 [(.t 28), (.t 29), (.t 30)]), .s (.mv 27 (.t 31)), .s (.ext 32 (.t 27) 0), .s (.ext 33 (.t 27) 1), .s (.mv 6 (.t 32)), .s (.mv 7 (.t 33))]) (.seq (.reg [.s (.mv 35 (.t 3)), .s (.mv 36 (.t 4)), .s (.mv 37 (.t 5)), .s (.call (some 38) 28 [(.t 35), (.t 36), (.t 37)]), .s (.mv 34 (.t 38)), .s (.ext 39 (.t 34) 0), .s (.ext 40 (.t 34) 1), .s (.mv 8 (.t 39)), .s (.mv 9 (.t 40))]) (.seq (.seq (.reg [.s (.mv 41 (.t 7)), .s (.mv 42 (.t 9)), .s (.eqs 43 false [.b] true (.t 41) (.t 42)), .s (.mv 44 (.t 43)), .g 44 false (some 45) (.mv 45 (.t 6)), .g 44 false (some 46) (.b2s 46 (.t 45)), .g 44 false (some 47) (.mv 47 (.t 8)), .g 44 false (some 48) (.b2s 48 (.t 47)), .g 44 false (some 49) (.eqs 49 false [.s] true (.t 46) (.t 48)), .s (.pick 50 (.t 44) (.k (.v (.c .tt))) (.t 49))]) (.cond (.t 50) (.seq (.reg [.s (.mv 2 (.k (.v (.c .ff))))]) (.ret)) (.skip))) (.seq (.seq (.reg [.s (.mv 51 (.t 7)), .s (.bnot 52 (.t 51))]) (.cond (.t 52) (.seq (.reg [.s (.mv 53 (.t 6)), .s (.len 54 false (.t 53)), .s (.bin 55 .eql (.t 54) (.k (.v (.c (.int .i64 0))))), .s (.mv 2 (.t 55))]) (.ret)) (.skip))) (.seq (.reg [.s (.mv 57 (.t 4)), .s (.call (some 58) 29 [(.t 57)]), .s (.mv 56 (.t 58)), .s (.ext 59 (.t 56) 0), .s (.ext 60 (.t 56) 1), .s (.alloc 10 [.nils .word, .int .i64 0, .ff, .int .i64 0, .int .i64 0, .int .i64 0, .int .i64 0, .nils .word, .nils .bool, .int .i64 0]), .s (.store 10 (.t 10) (.t 59)), .s (.mv 11 (.t 60))]) (.seq (.reg [.s (.mv 61 (.t 0)), .s (.call (some 62) 30 [(.t 61), (.k (.v (.c (.int .i64 1))))]), .s (.bin 63 .rem (.t 62) (.k (.v (.c (.int .i64 8))))), .s (.mv 12 (.t 63))]) (.seq (.reg [.s (.mv 65 (.t 3)), .s (.load 66 true 10 (.t 10)), .s (.mv 67 (.t 12)), .s (.call (some 68) 19 [(.t 65), (.t 66), (.t 67)]), .s (.mv 64 (.t 68)), .s (.ext 69 (.t 64) 0), .s (.ext 70 (.t 64) 1), .s (.alloc 13 [.nils .word, .int .i64 0, .ff, .int .i64 0, .int .i64 0, .int .i64 0, .int .i64 0, .nils .word, .nils .bool, .int .i64 0]), .s (.store 10 (.t 13) (.t 69)), .s (.mv 14 (.t 70))]) (.seq (.reg [.s (.mv 72 (.t 3)), .s (.load 73 true 10 (.t 13)), .s (.call (some 74) 31 [(.t 73)]), .s (.call (some 75) 27 [(.t 72), (.t 74), (.k (.v (.c (.int .i64 12))))]), .s (.mv 71 (.t 75)), .s (.ext 76 (.t 71) 0), .s (.ext 77 (.t 71) 1), .s (.mv 15 (.t 76)), .s (.mv 16 (.t 77))]) (.seq (.reg [.s (.mv 79 (.t 3)), .s (.load 80 true 10 (.t 10)), .s (.mv 81 (.t 12)), .s (.bin 82 .add (.t 81) (.k (.v (.c (.int .i64 12))))), .s (.call (some 83) 19 [(.t 79), (.t 80), (.t 82)]), .s (.mv 78 (.t 83)), .s (.ext 84 (.t 78) 0), .s (.ext 85 (.t 78) 1), .s (.alloc 17 [.nils .word, .int .i64 0, .ff, .int .i64 0, .int .i64 0, .int .i64 0, .int .i64 0, .nils .word, .nils .bool, .int .i64 0]), .s (.store 10 (.t 17) (.t 84)), .s (.mv 18 (.t 85))]) (.seq (.rgd [] [.s (.mv 86 (.t 16)), .s (.mv 87 (.t 86)), .g 87 true (some 88) (.mv 88 (.t 15)), .g 87 true (some 89) (.b2s 89 (.t 88)), .g 87 true (some 90) (.load 90 true 10 (.t 17)), .g 87 true (some 91) (.call (some 91) 31 [(.t 90)]), .g 87 true (some 92) (.b2s 92 (.t 91)), .g 87 true (some 93) (.eqs 93 false [.s] false (.t 89) (.t 92)), .s (.pick 94 (.t 87) (.t 93) (.k (.v (.c .ff)))), .s (.mv 2 (.t 94))] (.tk 0 (.tk 1 (.tk 2 (.tk 4 (.alt 3 false (.one 5 true (.one 6 true (.tk 7 (.tk 8 (.tk 9 (.done (some [2]))))))) (.alt 5 false (.alt 3 false (.one 6 true (.tk 7 (.tk 8 (.tk 9 (.done (some [2])))))) (.alt 6 false (.one 3 false (.tk 7 (.tk 8 (.tk 9 (.done (some [2])))))) (.nil))) (.nil)))))))) (.ret)))))))))))))⟩
def c_laws_FnResumes : Fun := ⟨6, [], fun ts K => as1 ts fun t0 => arC (pL (.int .u8)) t0 fun code => chk (code.length ≤ 9223372036854775807 ∧ U8s code) (K (tB true) [])⟩
theorem run_laws_FnResumes (code : List (FT.Ty (.int .u8))) (hpre : code.length ≤ 9223372036854775807 ∧ U8s code) : runK [c_laws_big, c_impl_InOrder, c_spec_DrawGoes, c_impl_Goes, c_spec_Goes, c_impl_StateOf, c_laws_at, c_impl_StateBytes] (0) [] pf_laws_FnResumes [tL false (.int .u8) code] fun r o => r = tB true ∧ o = [] := by
  obtain ⟨hp1, hu⟩ := hpre
  conv => whnf
  refine sel_i (fun h => ?_) (fun h => ?_) <;> conv => whnf
  · exact ⟨rfl, rfl⟩
  have hc : code.length ≤ 1048576 := by simp at h; omega
  clear h
  refine chk_i hc ?_
  conv => whnf
  repeat' (first | (refine sel_i (fun h => ?_) (fun h => ?_) <;> conv => whnf) | (refine chk_c ?_ ?_ <;> conv => whnf) | (refine And.intro ?_ rfl) | (refine And.intro ?_ ?_ <;> conv => whnf) | (intro x y z d hd; (try have g1 := And.left hd); (try have g2 := And.right hd); (try have g3 := And.left (And.right hd)); (try have g4 := And.right (And.right hd)); conv => whnf) | (intro x y d hd; (try have g1 := And.left hd); (try have g2 := And.right hd); (try have g3 := And.left (And.right hd)); (try have g4 := And.right (And.right hd)); conv => whnf) | (intro x d hd; (try have g1 := And.left hd); (try have g2 := And.right hd); (try have g3 := And.left (And.right hd)); (try have g4 := And.right (And.right hd)); conv => whnf) | (intro d hd; (try have g1 := And.left hd); (try have g2 := And.right hd); (try have g3 := And.left (And.right hd)); (try have g4 := And.right (And.right hd)); conv => whnf))
  all_goals (try simp only [etaKey, etaWord, etaMemory, etaState] at *)
  all_goals first
    | rfl
    | trivial
    | (exact ⟨rfl, rfl⟩)
    | (refine ⟨?_⟩; exact ⟨by omega, by omega, by assumption⟩)
    | (refine ⟨?_⟩; exact ⟨by omega, by assumption⟩)
    | (refine ⟨?_⟩; exact ⟨hc, by decide, by decide, hu⟩)
    | (refine ⟨?_⟩; decide)
    | (exfalso; simp at h; done)
    | (exfalso; rw [strI_eq (goes_u8 _ _ _) (goes_u8 _ _ _)] at h; simp at h; done)
    | (have e1 : (stateOf y).isSome = false := by
         cases e : (stateOf y).isSome with
         | false => rfl
         | true => rw [goes_ok e] at h; cases h
       rw [goes_no e1]; rfl)
    | (refine ⟨?_⟩; exact ⟨by omega, stateOf_len8⟩)
    | (refine ⟨?_⟩; exact inOrder_len stateOf_len8)
    | (refine ⟨?_⟩; exact ⟨by omega, Nat.le_trans (stateBytes_len _) (by decide), stateBytes_u8 _⟩)
    | skip
  all_goals (obtain ⟨s, e1⟩ := goes_is (l := x) (b := y) (by assumption))
  all_goals (have e2 := resumes (l := x) (stateOf_okS e1) (d := d) (by omega); rw [show (stateOf y).getD zState = s from (by rw [e1]; rfl)] at *)
  all_goals (try rw [e2] at h)
  all_goals (try rw [e2])
  all_goals first
    | (exfalso; simp at h; done)
    | (rw [strI_eq (stateBytes_u8 _) (stateBytes_u8 _)]; simp; done)
    | trace_state
theorem ok_laws_FnResumes : FunOk Tryz.prog c_laws_FnResumes := funOk (E := [c_laws_big, c_impl_InOrder, c_spec_DrawGoes, c_impl_Goes, c_spec_Goes, c_impl_StateOf, c_laws_at, c_impl_StateBytes]) (envOk_cons ok_laws_big (envOk_cons ok_impl_InOrder (envOk_cons ok_spec_DrawGoes (envOk_cons ok_impl_Goes (envOk_cons ok_spec_Goes (envOk_cons ok_impl_StateOf (envOk_cons ok_laws_at (envOk_cons ok_impl_StateBytes (envOk_nil))))))))) mixd Tryz.func6 (pf := pf_laws_FnResumes) (by kernel_rfl) fun ts K h => by
  obtain ⟨t0, e0, h⟩ := as1_out h
  subst e0
  obtain ⟨code, e1, hq⟩ := arC_out (rd_l (.int .u8)) h
  clear h
  subst e1
  have h := hq
  clear hq
  obtain ⟨hpre, h⟩ := chk_o h
  exact ⟨_, _, h, Nat.le_of_ble_eq_true (show Nat.ble 1 Tryz.f6.ntmps = true by kernel_rfl), _, run_laws_FnResumes code hpre⟩

end Go.Pi
namespace Go.Proofs.YtkiokbkbgjomeaaGreat
open Go.Pi
theorem fnResumes_lifted (os : Os) (started : os.Started) (H : Type) (enc : TypeId × Value → H) :
    ReturnsInHanded {} Tryz.checked os 6 .any (Rows.fnResumesSpec.pre6 enc Tryz.prog Tryz.f6 Rows.fnResumesRow.domain false) (Rows.fnResumesSpec.post enc Tryz.prog Tryz.f6 false true false false) :=
  lifted (C := Tryz.checked) (E := [c_laws_big, c_impl_InOrder, c_spec_DrawGoes, c_impl_Goes, c_spec_Goes, c_impl_StateOf, c_laws_at, c_impl_StateBytes]) (fuel := _) (pf := pf_laws_FnResumes) (shs := [(false, [.sl (.int .u8)])]) (tb := 4) (by kernel_rfl) started (by kernel_rfl) Tryz.func6
    (ChangeSpec.witness6 (enc := enc) (C := Tryz.checked) false ⟨#[], #[.slice none 0 0], []⟩ 12 (by kernel_rfl) (by kernel_rfl) (by kernel_rfl) (by kernel_rfl))
    mixd (envOk_cons ok_laws_big (envOk_cons ok_impl_InOrder (envOk_cons ok_spec_DrawGoes (envOk_cons ok_impl_Goes (envOk_cons ok_spec_Goes (envOk_cons ok_impl_StateOf (envOk_cons ok_laws_at (envOk_cons ok_impl_StateBytes (envOk_nil))))))))) (by kernel_rfl) (by kernel_rfl) (by kernel_rfl) rfl (by kernel_rfl) rfl
    (fun ds h => by
      obtain _ | ⟨d0, ds⟩ := ds
      · simp at h
      obtain _ | ⟨x, ds⟩ := ds
      · rfl
      · simp at h)
    (fun ain h0 => by
      obtain ⟨T0, ain0, e, k0, h1⟩ := areCons h0
      subst e
      have e := areNil h1
      subst e
      obtain ⟨code, e, w0⟩ := isL k0
      subst e
      exact run_laws_FnResumes code (⟨w0.2, fun x hx => wfU8 (w0.1 x hx)⟩))
theorem fnResumes_over : Rows.fnResumesRow.holds Tryz.pinned (OpenSpec.ofChange Rows.fnResumesSpec) :=
  OpenClaim.holds_of_wide 6 Tryz.f6 rfl rfl rfl rfl rfl rfl rfl ⟨rfl, rfl, rfl, rfl, rfl⟩ rfl rfl rfl rfl rfl (by kernel_rfl) Tryz.func6 (by kernel_rfl)
    (of_decide_eq_true (by kernel_rfl)) (by unfold Func.isWrapper; first | (rw [if_pos (by decide +kernel)]; kernel_rfl) | (rw [if_neg (by decide +kernel)]; exact ⟨rfl, rfl⟩))
    (fun os started H enc _ => fnResumes_lifted os started H enc)
theorem fnResumes_holds : Rows.FnResumesSaid := fnResumes_over
#print axioms fnResumes_holds
end Go.Proofs.YtkiokbkbgjomeaaGreat
