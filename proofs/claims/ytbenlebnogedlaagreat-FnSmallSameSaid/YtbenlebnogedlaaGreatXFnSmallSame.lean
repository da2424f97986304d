/- FnSmallSame: the given statement holds, out of the law's run by PI. No conditions. -/
import Derived.Test.YtbenlebnogedlaaGreatC8
namespace Go.Pi
open Go.Proofs
set_option linter.unusedVariables false
set_option linter.unusedSimpArgs false
set_option maxRecDepth 100000
attribute [local irreducible] iterN
def pf_laws_FnSmallSame : PF := ⟨[.t 2], .seq (.reg [.s (.mv 2 (.k (.v (.c .ff))))]) (.seq (.seq (.reg [.s (.mv 12 (.t 0)), .s (.call (some 13) 6 [(.t 12)])]) (.cond (.t 13) (.seq (.reg [.s (.mv 2 (.k (.v (.c .tt))))]) (.ret)) (.skip))) (.seq (.reg [.s (.mv 15 (.t 0)), .s (.call (some 16) 8 [(.t 15), (.k (.v (.c (.int .i64 1))))]), .s (.bin 17 .rem (.t 16) (.k (.v (.c (.int .i64 4))))), .s (.bin 18 .add (.k (.v (.c (.int .i64 1)))) (.t 17)), .s (.call (some 19) 7 [(.k (.v (.c (.int .i64 0)))), (.k (.v (.c (.int .i64 8)))), (.t 18)]), .s (.mv 14 (.t 19)), .s (.ext 20 (.t 14) 0), .s (.ext 21 (.t 14) 1), .s (.mv 3 (.t 20)), .s (.mv 4 (.t 21))]) (.seq (.seq (.reg [.s (.mv 22 (.t 0)), .s (.call (some 23) 8 [(.t 22), (.k (.v (.c (.int .i64 2))))]), .s (.bin 24 .rem (.t 23) (.k (.v (.c (.int .i64 2))))), .s (.bin 25 .eql (.t 24) (.k (.v (.c (.int .i64 0)))))]) (.cond (.t 25) (.reg [.s (.mv 27 (.t 0)), .s (.call (some 28) 8 [(.t 27), (.k (.v (.c (.int .i64 1))))]), .s (.bin 29 .rem (.t 28) (.k (.v (.c (.int .i64 10))))), .s (.mv 30 (.t 0)), .s (.call (some 31) 8 [(.t 30), (.k (.v (.c (.int .i64 3))))]), .s (.bin 32 .rem (.t 31) (.k (.v (.c (.int .i64 6))))), .s (.bin 33 .add (.k (.v (.c (.int .i64 1)))) (.t 32)), .s (.call (some 34) 9 [(.t 29), (.t 33)]), .s (.mv 26 (.t 34)), .s (.ext 35 (.t 26) 0), .s (.ext 36 (.t 26) 1), .s (.mv 3 (.t 35)), .s (.mv 4 (.t 36))]) (.skip))) (.seq (.seq (.reg [.s (.mv 37 (.t 4)), .s (.bnot 38 (.t 37))]) (.cond (.t 38) (.seq (.reg [.s (.mv 2 (.k (.v (.c .ff))))]) (.ret)) (.skip))) (.seq (.reg [.s (.call (some 39) 10 []), .s (.alloc 5 [.nils .word, .int .i64 0, .ff, .int .i64 0, .int .i64 0, .int .i64 0, .int .i64 0, .nils .word, .nils .bool, .int .i64 0]), .s (.store 10 (.t 5) (.t 39))]) (.seq (.reg [.s (.mv 40 (.t 0)), .s (.call (some 41) 11 [(.t 40)]), .s (.fa 42 (.t 5) 7), .s (.store 2 (.t 42) (.t 41))]) (.seq (.rgd [] [.s (.mv 44 (.t 3)), .s (.load 45 true 10 (.t 5)), .s (.mv 46 (.t 0)), .s (.call (some 47) 8 [(.t 46), (.k (.v (.c (.int .i64 4))))]), .s (.bin 48 .rem (.t 47) (.k (.v (.c (.int .i64 6))))), .s (.bin 49 .add (.k (.v (.c (.int .i64 1)))) (.t 48)), .s (.call (some 50) 12 [(.t 44), (.t 45), (.t 49), (.k (.v (.c (.int .i64 60))))]), .s (.mv 43 (.t 50)), .s (.ext 51 (.t 43) 0), .s (.ext 52 (.t 43) 1), .s (.alloc 6 [.nils .word, .int .i64 0, .ff, .int .i64 0, .int .i64 0, .int .i64 0, .int .i64 0, .nils .word, .nils .bool, .int .i64 0]), .s (.store 10 (.t 6) (.t 51)), .s (.mv 7 (.t 52))] (.tk 0 (.tk 1 (.tk 2 (.alt 3 false (.tk 4 (.tk 5 (.alt 6 false (.tk 7 (.tk 8 (.tk 9 (.one 10 false (.one 11 true (.tk 12 (.done (some [0, 3, 5, 6, 7])))))))) (.alt 10 false (.one 6 true (.tk 7 (.tk 8 (.tk 9 (.one 11 true (.tk 12 (.done (some [0, 3, 5, 6, 7])))))))) (.nil))))) (.alt 10 false (.one 3 false (.tk 4 (.tk 5 (.one 6 true (.tk 7 (.tk 8 (.tk 9 (.one 11 true (.tk 12 (.done (some [0, 3, 5, 6, 7]))))))))))) (.nil))))))) (.seq (.reg [.s (.mv 54 (.t 3)), .s (.load 55 true 10 (.t 5)), .s (.call (some 56) 13 [(.t 54), (.t 55), (.k (.v (.c (.int .i64 60))))]), .s (.mv 53 (.t 56)), .s (.ext 57 (.t 53) 0), .s (.ext 58 (.t 53) 1), .s (.alloc 8 [.nils .word, .int .i64 0, .ff, .int .i64 0, .int .i64 0, .int .i64 0, .int .i64 0, .nils .word, .nils .bool, .int .i64 0]), .s (.store 10 (.t 8) (.t 57)), .s (.mv 9 (.t 58))]) (.seq (.rgd [] [.s (.mv 60 (.t 3)), .s (.load 61 true 10 (.t 5)), .s (.mv 62 (.t 0)), .s (.call (some 63) 8 [(.t 62), (.k (.v (.c (.int .i64 4))))]), .s (.bin 64 .rem (.t 63) (.k (.v (.c (.int .i64 6))))), .s (.bin 65 .add (.k (.v (.c (.int .i64 1)))) (.t 64)), .s (.call (some 66) 14 [(.t 60), (.t 61), (.t 65), (.k (.v (.c (.int .i64 60))))]), .s (.mv 59 (.t 66)), .s (.ext 67 (.t 59) 0), .s (.ext 68 (.t 59) 1), .s (.alloc 10 [.nils .word, .int .i64 0, .ff, .int .i64 0, .int .i64 0, .int .i64 0, .int .i64 0, .nils .word, .nils .bool, .int .i64 0]), .s (.store 10 (.t 10) (.t 67)), .s (.mv 11 (.t 68))] (.tk 0 (.tk 1 (.tk 2 (.alt 3 false (.tk 4 (.tk 5 (.alt 6 false (.tk 7 (.tk 8 (.tk 9 (.one 10 false (.one 11 true (.tk 12 (.done (some [6, 7, 8, 9, 10, 11])))))))) (.alt 10 false (.one 6 true (.tk 7 (.tk 8 (.tk 9 (.one 11 true (.tk 12 (.done (some [6, 7, 8, 9, 10, 11])))))))) (.nil))))) (.alt 10 false (.one 3 false (.tk 4 (.tk 5 (.one 6 true (.tk 7 (.tk 8 (.tk 9 (.one 11 true (.tk 12 (.done (some [6, 7, 8, 9, 10, 11]))))))))))) (.nil))))))) (.seq (.reg [.s (.load 69 true 10 (.t 6)), .s (.load 70 true 10 (.t 8)), .s (.call (some 71) 15 [(.t 69), (.t 70)]), .s (.mv 72 (.t 71)), .g 72 true (some 73) (.mv 73 (.t 7)), .g 72 true (some 74) (.mv 74 (.t 11)), .g 72 true (some 75) (.bin 75 .eql (.t 73) (.t 74)), .s (.pick 76 (.t 72) (.t 75) (.k (.v (.c .ff)))), .s (.mv 77 (.t 76)), .g 77 true (some 78) (.load 78 true 10 (.t 6)), .g 77 true (some 79) (.load 79 true 10 (.t 10)), .g 77 true (some 80) (.call (some 80) 15 [(.t 78), (.t 79)]), .s (.pick 81 (.t 77) (.t 80) (.k (.v (.c .ff)))), .s (.mv 82 (.t 81)), .g 82 true (some 83) (.mv 83 (.t 9)), .g 82 true (some 84) (.bin 84 .geq (.t 83) (.k (.v (.c (.int .i64 1))))), .s (.pick 85 (.t 82) (.t 84) (.k (.v (.c .ff)))), .s (.mv 2 (.t 85))]) (.ret)))))))))))⟩
def c_laws_FnSmallSame : Fun := ⟨3, [], fun ts K => as1 ts fun t0 => arC (pL (.int .u8)) t0 fun code => chk (code.length ≤ 9223372036854775807 ∧ U8s code) (K (tB true) [])⟩
attribute [local irreducible] outOrder inOrder markCode copyAll
set_option maxHeartbeats 1000000 in
theorem run_laws_FnSmallSame (FU : Nat) (code : List (FT.Ty (.int .u8))) (hpre : code.length ≤ 9223372036854775807 ∧ U8s code) : runK [c_laws_big, c_laws_at_v_Det, c_impl_CopyCode, c_impl_MarkCode, c_impl_StateNew, c_spec_DrawMemory2, c_impl_OutOrder, c_impl_InOrder, c_spec_OutOrder, c_impl_Alike] (100 + FU) [] pf_laws_FnSmallSame [tL false (.int .u8) code] fun r o => r = tB true ∧ o = [] := by
  obtain ⟨hpre, hu⟩ := hpre
  conv => whnf
  refine sel_i (fun h => ?_) (fun h => ?_) <;> conv => whnf
  · exact ⟨rfl, rfl⟩
  have hc : code.length ≤ 1048576 := by simp at h; omega
  clear h
  have a1 := atDI_in hu (i := 1) (by decide)
  have a3 := atDI_in hu (i := 3) (by decide)
  have b1 := tmodI (m := 4) a1.1 (by decide)
  have b2 := tmodI (m := 10) a1.1 (by decide)
  have b3 := tmodI (m := 6) a3.1 (by decide)
  have c1 : IntKind.i64.wrap (1 + (atDI code 1).tmod 4) = 1 + (atDI code 1).tmod 4 := wrap_id (by omega) (by omega)
  have c3 : IntKind.i64.wrap (1 + (atDI code 3).tmod 6) = 1 + (atDI code 3).tmod 6 := wrap_id (by omega) (by omega)
  have r1 := small_room (x := (atDI code 1).tmod 10) (n := 1 + (atDI code 3).tmod 6) ⟨b2.1, by omega⟩ ⟨by omega, by omega⟩
  have r2 := small_room (x := 0) (n := 1 + (atDI code 1).tmod 4) (by decide) ⟨by omega, by omega⟩
  have r3 := small_room (x := 8) (n := 1 + (atDI code 1).tmod 4) (by decide) ⟨by omega, by omega⟩
  conv => whnf
  repeat' (first | (refine sel_i (fun h => ?_) (fun h => ?_) <;> conv => whnf) | (refine chk_c ?_ ?_ <;> conv => whnf) | (refine And.intro ?_ rfl) | (refine And.intro ?_ ?_ <;> conv => whnf) | (intro x y z d hd; (try have g1 := And.left hd); (try have g2 := And.right hd); (try have g3 := And.left (And.right hd)); (try have g4 := And.right (And.right hd)); conv => whnf) | (intro x y d hd; (try have g1 := And.left hd); (try have g2 := And.right hd); (try have g3 := And.left (And.right hd)); (try have g4 := And.right (And.right hd)); conv => whnf) | (intro x d hd; (try have g1 := And.left hd); (try have g2 := And.right hd); (try have g3 := And.left (And.right hd)); (try have g4 := And.right (And.right hd)); conv => whnf) | (intro d hd; (try have g1 := And.left hd); (try have g2 := And.right hd); (try have g3 := And.left (And.right hd)); (try have g4 := And.right (And.right hd)); conv => whnf))
  all_goals (try simp only [etaKey, etaWord, etaMemory, etaState, c1, c3, r1, r2, r3, Bool.and_self, Bool.not_true, Bool.not_false] at *)
  all_goals first
    | (refine ⟨?_⟩; assumption)
    | (refine ⟨?_⟩; exact ⟨hc, by decide, by decide, hu⟩)
    | (refine ⟨?_⟩; decide)
    | (refine ⟨?_⟩; exact ⟨Nat.le_trans (copyAll_le _ _ _) (by decide), (stateOk_len (runFrom_ok hd)).l⟩)
    | (refine ⟨?_⟩; exact ⟨Nat.le_trans (markCode_le _ _) (by decide), (stateOk_len (runFrom_ok hd)).l⟩)
    | (exfalso; simp at h; done)
    | skip
  all_goals first
    | (obtain ⟨e1, e2, e3⟩ := small_all (l := markCode ((atDI code 1).tmod 10) (1 + (atDI code 3).tmod 6)) (w := IntKind.i64.wrap (1 + (atDI code 4).tmod 6)) hd mark_ops (Nat.le_trans (markCode_le _ _) (by decide))
       rw [e1]
       first
         | (refine ⟨?_⟩; exact ⟨e3, e3⟩)
         | (exfalso; simp at h; done)
         | (rw [decide_eq_true (show _ ≥ _ from e2)]; done))
    | (obtain ⟨e1, e2, e3⟩ := small_all (l := copyAll 0 8 (1 + (atDI code 1).tmod 4)) (w := IntKind.i64.wrap (1 + (atDI code 4).tmod 6)) hd copy_ops (Nat.le_trans (copyAll_le _ _ _) (by decide))
       rw [e1]
       first
         | (refine ⟨?_⟩; exact ⟨e3, e3⟩)
         | (exfalso; simp at h; done)
         | (rw [decide_eq_true (show _ ≥ _ from e2)]; done))
    | (obtain ⟨e1, e2, e3⟩ := small_all (l := markCode ((atDI code 1).tmod 10) (1 + (atDI code 3).tmod 6)) (w := IntKind.i64.wrap (1 + (atDI code 4).tmod 6)) hd mark_ops (Nat.le_trans (markCode_le _ _) (by decide))
       first
         | (rw [decide_eq_true (show _ ≥ _ from e2)]; done)
         | (exfalso; rw [e1] at h; simp at h; done))
    | (obtain ⟨e1, e2, e3⟩ := small_all (l := copyAll 0 8 (1 + (atDI code 1).tmod 4)) (w := IntKind.i64.wrap (1 + (atDI code 4).tmod 6)) hd copy_ops (Nat.le_trans (copyAll_le _ _ _) (by decide))
       first
         | (rw [decide_eq_true (show _ ≥ _ from e2)]; done)
         | (exfalso; rw [e1] at h; simp at h; done)
         | trace_state)
    | trace_state
theorem ok_laws_FnSmallSame : FunOk Tryz.prog c_laws_FnSmallSame := funOk (E := [c_laws_big, c_laws_at_v_Det, c_impl_CopyCode, c_impl_MarkCode, c_impl_StateNew, c_spec_DrawMemory2, c_impl_OutOrder, c_impl_InOrder, c_spec_OutOrder, c_impl_Alike]) (envOk_cons ok_laws_big (envOk_cons ok_laws_at_v_Det (envOk_cons ok_impl_CopyCode (envOk_cons ok_impl_MarkCode (envOk_cons ok_impl_StateNew (envOk_cons ok_spec_DrawMemory2 (envOk_cons ok_impl_OutOrder (envOk_cons ok_impl_InOrder (envOk_cons ok_spec_OutOrder (envOk_cons ok_impl_Alike (envOk_nil))))))))))) mixd Tryz.func3 (pf := pf_laws_FnSmallSame) (by kernel_rfl) fun ts K h => by
  obtain ⟨t0, e0, h⟩ := as1_out h
  subst e0
  obtain ⟨code, e1, hq⟩ := arC_out (rd_l (.int .u8)) h
  clear h
  subst e1
  have h := hq
  clear hq
  obtain ⟨hpre, h⟩ := chk_o h
  exact ⟨_, _, h, Nat.le_of_ble_eq_true (show Nat.ble 1 Tryz.f3.ntmps = true by kernel_rfl), _, run_laws_FnSmallSame 0 code hpre⟩

end Go.Pi
namespace Go.Proofs.YtbenlebnogedlaaGreat
open Go.Pi
theorem fnSmallSame_lifted (os : Os) (started : os.Started) (H : Type) (enc : TypeId × Value → H) :
    ReturnsInHanded {} Tryz.checked os 3 .any (Rows.fnSmallSameSpec.pre6 enc Tryz.prog Tryz.f3 Rows.fnSmallSameRow.domain false) (Rows.fnSmallSameSpec.post enc Tryz.prog Tryz.f3 false true false false) :=
  lifted (C := Tryz.checked) (E := [c_laws_big, c_laws_at_v_Det, c_impl_CopyCode, c_impl_MarkCode, c_impl_StateNew, c_spec_DrawMemory2, c_impl_OutOrder, c_impl_InOrder, c_spec_OutOrder, c_impl_Alike]) (fuel := _) (pf := pf_laws_FnSmallSame) (shs := [(false, [.sl (.int .u8)])]) (tb := 4) (by kernel_rfl) started (by kernel_rfl) Tryz.func3
    (ChangeSpec.witness6 (enc := enc) (C := Tryz.checked) false ⟨#[], #[.slice none 0 0], []⟩ 12 (by kernel_rfl) (by kernel_rfl) (by kernel_rfl) (by kernel_rfl))
    mixd (envOk_cons ok_laws_big (envOk_cons ok_laws_at_v_Det (envOk_cons ok_impl_CopyCode (envOk_cons ok_impl_MarkCode (envOk_cons ok_impl_StateNew (envOk_cons ok_spec_DrawMemory2 (envOk_cons ok_impl_OutOrder (envOk_cons ok_impl_InOrder (envOk_cons ok_spec_OutOrder (envOk_cons ok_impl_Alike (envOk_nil))))))))))) (by kernel_rfl) (by kernel_rfl) (by kernel_rfl) rfl (by kernel_rfl) rfl (by kernel_rfl)
    (fun ds h => by
      obtain _ | ⟨d0, ds⟩ := ds
      · simp at h
      obtain _ | ⟨x, ds⟩ := ds
      · rfl
      · simp at h)
    (fun ain h0 => by
      obtain ⟨T0, ain0, e, k0, h1⟩ := areCons h0
      subst e
      have e := areNil h1
      subst e
      obtain ⟨code, e, w0⟩ := isL k0
      subst e
      exact run_laws_FnSmallSame 0 code (⟨w0.2, fun x hx => wfU8 (w0.1 x hx)⟩))
theorem fnSmallSame_over : Rows.fnSmallSameRow.holds Tryz.pinned (OpenSpec.ofChange Rows.fnSmallSameSpec) :=
  OpenClaim.holds_of_wide 3 Tryz.f3 rfl rfl rfl rfl rfl rfl rfl ⟨rfl, rfl, rfl, rfl, rfl⟩ rfl rfl rfl rfl rfl (by kernel_rfl) Tryz.func3 (by kernel_rfl)
    (of_decide_eq_true (by kernel_rfl)) (by unfold Func.isWrapper; first | (rw [if_pos (by decide +kernel)]; kernel_rfl) | (rw [if_neg (by decide +kernel)]; exact ⟨rfl, rfl⟩))
    (fun os started H enc _ => fnSmallSame_lifted os started H enc)
theorem fnSmallSame_holds : Rows.FnSmallSameSaid := fnSmallSame_over
#print axioms fnSmallSame_holds
end Go.Proofs.YtbenlebnogedlaaGreat
