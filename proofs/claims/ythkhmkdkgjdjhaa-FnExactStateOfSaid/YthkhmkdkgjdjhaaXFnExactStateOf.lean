/- FnExactStateOf: the given statement holds, out of the law's run by PI. No conditions. -/
import Derived.Test.YthkhmkdkgjdjhaaC5
namespace Go.Pi
open Go.Proofs
set_option linter.unusedVariables false
set_option linter.unusedSimpArgs false
set_option maxRecDepth 100000
attribute [local irreducible] iterN
def pf_laws_FnExactStateOf : PF := ⟨[.t 2], .seq (.reg [.s (.mv 2 (.k (.v (.c .ff))))]) (.seq (.seq (.reg [.s (.mv 13 (.t 0)), .s (.len 14 false (.t 13)), .s (.bin 15 .gtr (.t 14) (.k (.v (.c (.int .i64 1048576)))))]) (.cond (.t 15) (.seq (.reg [.s (.mv 2 (.k (.v (.c .tt))))]) (.ret)) (.skip))) (.seq (.reg [.s (.mv 17 (.t 0)), .s (.call (some 18) 26 [(.t 17)]), .s (.call (some 19) 25 [(.t 18)]), .s (.mv 16 (.t 19)), .s (.ext 20 (.t 16) 0), .s (.ext 21 (.t 16) 1), .s (.alloc 3 [.nils .word, .int .i64 0, .ff, .int .i64 0, .int .i64 0, .int .i64 0, .int .i64 0, .nils .word, .nils .bool, .int .i64 0]), .s (.store 10 (.t 3) (.t 20)), .s (.mv 4 (.t 21))]) (.seq (.reg [.s (.mv 22 (.t 0)), .s (.call (some 23) 26 [(.t 22)]), .s (.mv 5 (.t 23))]) (.seq (.reg [.s (.mv 25 (.t 5)), .s (.call (some 26) 27 [(.t 25)]), .s (.mv 24 (.t 26)), .s (.ext 27 (.t 24) 0), .s (.ext 28 (.t 24) 1), .s (.alloc 6 [.nils .word, .int .i64 0, .ff, .int .i64 0, .int .i64 0, .int .i64 0, .int .i64 0, .nils .word, .nils .bool, .int .i64 0]), .s (.store 10 (.t 6) (.t 27)), .s (.mv 7 (.t 28))]) (.seq (.seq (.reg [.s (.load 29 true 10 (.t 6)), .s (.load 30 true 10 (.t 3)), .s (.call (some 31) 23 [(.t 29), (.t 30)]), .s (.bnot 32 (.t 31)), .s (.mv 33 (.t 32)), .g 33 false (some 34) (.mv 34 (.t 7)), .g 33 false (some 35) (.mv 35 (.t 4)), .g 33 false (some 36) (.eqs 36 false [.b] true (.t 34) (.t 35)), .s (.pick 37 (.t 33) (.k (.v (.c .tt))) (.t 36))]) (.cond (.t 37) (.seq (.reg [.s (.mv 2 (.k (.v (.c .ff))))]) (.ret)) (.skip))) (.seq (.seq (.reg [.s (.mv 38 (.t 5)), .s (.mv 39 (.t 0)), .s (.call (some 40) 26 [(.t 39)]), .s (.call (some 41) 16 [(.t 38), (.t 40)]), .s (.bnot 42 (.t 41))]) (.cond (.t 42) (.seq (.reg [.s (.mv 2 (.k (.v (.c .ff))))]) (.ret)) (.skip))) (.seq (.reg [.s (.mv 8 (.k (.v (.c (.int .i64 1)))))]) (.seq (.reg [.s (.mv 43 (.t 5)), .s (.mv 44 (.t 8)), .s (.call (some 45) 17 [(.t 43), (.t 44)]), .s (.mv 8 (.t 45))]) (.seq (.seq (.reg [.s (.mv 46 (.t 8)), .s (.bin 47 .lss (.t 46) (.k (.v (.c (.int .i64 0))))), .s (.mv 48 (.t 47)), .g 48 false (some 49) (.load 49 true 10 (.t 6)), .g 48 false (some 50) (.load 50 true 10 (.t 3)), .g 48 false (some 51) (.call (some 51) 23 [(.t 49), (.t 50)]), .g 48 false (some 52) (.bnot 52 (.t 51)), .s (.pick 53 (.t 48) (.k (.v (.c .tt))) (.t 52)), .s (.mv 54 (.t 53)), .g 54 false (some 55) (.mv 55 (.t 7)), .g 54 false (some 56) (.mv 56 (.t 4)), .g 54 false (some 57) (.eqs 57 false [.b] true (.t 55) (.t 56)), .s (.pick 58 (.t 54) (.k (.v (.c .tt))) (.t 57))]) (.cond (.t 58) (.seq (.reg [.s (.mv 2 (.k (.v (.c .ff))))]) (.ret)) (.skip))) (.seq (.reg [.s (.mv 9 (.k (.v (.c (.int .i64 1)))))]) (.seq (.reg [.s (.load 59 true 10 (.t 6)), .s (.mv 60 (.t 9)), .s (.call (some 61) 24 [(.t 59), (.t 60)]), .s (.mv 9 (.t 61))]) (.seq (.reg [.s (.mv 10 (.k (.v (.c (.int .i64 1)))))]) (.seq (.reg [.s (.load 62 true 10 (.t 6)), .s (.mv 63 (.t 10)), .s (.call (some 64) 28 [(.t 62), (.t 63)]), .s (.mv 10 (.t 64))]) (.seq (.seq (.reg [.s (.mv 65 (.t 10)), .s (.bin 66 .lss (.t 65) (.k (.v (.c (.int .i64 0)))))]) (.cond (.t 66) (.seq (.reg [.s (.mv 2 (.k (.v (.c .ff))))]) (.ret)) (.skip))) (.seq (.seq (.reg [.s (.mv 67 (.t 10)), .s (.mv 68 (.t 9)), .s (.bin 69 .neq (.t 67) (.t 68))]) (.cond (.t 69) (.seq (.reg [.s (.mv 2 (.k (.v (.c .ff))))]) (.ret)) (.skip))) (.seq (.reg [.s (.mv 71 (.t 0)), .s (.call (some 72) 26 [(.t 71)]), .s (.call (some 73) 27 [(.t 72)]), .s (.mv 70 (.t 73)), .s (.ext 74 (.t 70) 0), .s (.ext 75 (.t 70) 1), .s (.alloc 11 [.nils .word, .int .i64 0, .ff, .int .i64 0, .int .i64 0, .int .i64 0, .int .i64 0, .nils .word, .nils .bool, .int .i64 0]), .s (.store 10 (.t 11) (.t 74)), .s (.mv 12 (.t 75))]) (.seq (.seq (.reg [.s (.load 76 true 10 (.t 11)), .s (.load 77 true 10 (.t 3)), .s (.call (some 78) 23 [(.t 76), (.t 77)]), .s (.bnot 79 (.t 78)), .s (.mv 80 (.t 79)), .g 80 false (some 81) (.mv 81 (.t 12)), .g 80 false (some 82) (.mv 82 (.t 4)), .g 80 false (some 83) (.eqs 83 false [.b] true (.t 81) (.t 82)), .s (.pick 84 (.t 80) (.k (.v (.c .tt))) (.t 83))]) (.cond (.t 84) (.seq (.reg [.s (.mv 2 (.k (.v (.c .ff))))]) (.ret)) (.skip))) (.seq (.reg [.s (.mv 10 (.k (.v (.c (.int .i64 1)))))]) (.seq (.reg [.s (.load 85 true 10 (.t 6)), .s (.mv 86 (.t 10)), .s (.call (some 87) 28 [(.t 85), (.t 86)]), .s (.mv 10 (.t 87))]) (.seq (.seq (.reg [.s (.mv 88 (.t 10)), .s (.bin 89 .lss (.t 88) (.k (.v (.c (.int .i64 0)))))]) (.cond (.t 89) (.seq (.reg [.s (.mv 2 (.k (.v (.c .ff))))]) (.ret)) (.skip))) (.seq (.seq (.reg [.s (.mv 90 (.t 10)), .s (.mv 91 (.t 9)), .s (.bin 92 .neq (.t 90) (.t 91))]) (.cond (.t 92) (.seq (.reg [.s (.mv 2 (.k (.v (.c .ff))))]) (.ret)) (.skip))) (.seq (.reg [.s (.mv 2 (.k (.v (.c .tt))))]) (.ret)))))))))))))))))))))))⟩
def c_laws_FnExactStateOf : Fun := ⟨5, [], fun ts K => as1 ts fun t0 => arC (pL (.int .u8)) t0 fun b => chk (b.length ≤ 9223372036854775807 ∧ U8s b) (K (tB true) [])⟩
theorem run_laws_FnExactStateOf (b : List (FT.Ty (.int .u8))) (hpre : b.length ≤ 9223372036854775807 ∧ U8s b) : runK [c_laws_eqByteS, c_laws_markByteS, c_laws_eqState, c_laws_markState, c_spec_StateOf, c_laws_toByteS, c_impl_StateOf, c_laws_heldState] (0) [] pf_laws_FnExactStateOf [tL false (.int .u8) b] fun r o => r = tB true ∧ o = [] := by
  obtain ⟨l1, l2⟩ := hpre
  conv => whnf
  refine sel_i (fun h => ?_) (fun h => ?_)
  · conv => whnf
    repeat' (first | (refine sel_i (fun h => ?_) (fun h => ?_) <;> conv => whnf) | (refine chk_c ?_ ?_ <;> conv => whnf) | (refine And.intro ?_ rfl) | (refine And.intro ?_ ?_ <;> conv => whnf))
    rfl
  have hb : b.length ≤ 1048576 := by simp at h; omega
  have hb2 : b.length ≤ 2147483647 := by omega
  clear h
  have hl := stateOf_len8 (b := b)
  have hz3 : SzState ((stateOf b).getD zState) := ⟨hl.1, hl.2.1, hl.2.2⟩
  have he := endState_le ((stateOf b).getD zState) 1 hz3
  have hq : (0 : Int) ≤ 1 ∧ (1 : Int) ≤ 281474976710656 ∧ SzState ((stateOf b).getD zState) := ⟨by omega, by omega, hz3⟩
  have hm := sz_markState ((stateOf b).getD zState) 1 hz3
  have hq2 : (0 : Int) ≤ 1 ∧ (1 : Int) ≤ 281474976710656 ∧ SzState (markState ((stateOf b).getD zState) 1) := ⟨by omega, by omega, hm⟩
  conv => whnf
  repeat' (first | (refine sel_i (fun h => ?_) (fun h => ?_) <;> conv => whnf) | (refine chk_c ?_ ?_ <;> conv => whnf) | (refine And.intro ?_ rfl) | (refine And.intro ?_ ?_ <;> conv => whnf))
  all_goals (try simp only [etaKey, etaWord, etaInst, etaSpan, mkInsS_length, mkByteS_length, etaMemory, etaSide, etaTwo, etaState, etaHeap, etaMState, mkWordS_length, mkBoolS_length, mkSpanS_length, mkIntS_length, mark_markMemory, end_markMemory, mark_markHeap, end_markHeap, mark_markState, end_markState, mark_markTwo, end_markTwo, hres_true] at *)
  all_goals first
    | (refine ⟨?_⟩; assumption)
    | (refine ⟨?_⟩; exact ⟨by assumption, by assumption⟩)
    | (refine ⟨?_⟩; exact ⟨by assumption, by assumption, by assumption⟩)
    | (refine ⟨?_⟩; omega)
    | (refine ⟨?_⟩; exact ⟨by omega, by omega, by assumption⟩)
    | rfl
    | trivial
    | (refine ⟨?_⟩; simp [markMemory, markHeap, markSide, markTwo, markState, mkInsS_length, mkByteS_length, mkWordS_length, mkBoolS_length, mkSpanS_length, mkIntS_length]; done)
    | (exfalso; simp [hres_true] at *; done)
    | (exfalso; simp [hres_true] at *; omega)
    | trace_state
theorem ok_laws_FnExactStateOf : FunOk Try.prog c_laws_FnExactStateOf := funOk (E := [c_laws_eqByteS, c_laws_markByteS, c_laws_eqState, c_laws_markState, c_spec_StateOf, c_laws_toByteS, c_impl_StateOf, c_laws_heldState]) (envOk_cons ok_laws_eqByteS (envOk_cons ok_laws_markByteS (envOk_cons ok_laws_eqState (envOk_cons ok_laws_markState (envOk_cons ok_spec_StateOf (envOk_cons ok_laws_toByteS (envOk_cons ok_impl_StateOf (envOk_cons ok_laws_heldState (envOk_nil))))))))) mixd Try.func5 (pf := pf_laws_FnExactStateOf) (by kernel_rfl) fun ts K h => by
  obtain ⟨t0, e0, h⟩ := as1_out h
  subst e0
  obtain ⟨b, e1, hq⟩ := arC_out (rd_l (.int .u8)) h
  clear h
  subst e1
  have h := hq
  clear hq
  obtain ⟨hpre, h⟩ := chk_o h
  exact ⟨_, _, h, Nat.le_of_ble_eq_true (show Nat.ble 1 Try.f5.ntmps = true by kernel_rfl), _, run_laws_FnExactStateOf b hpre⟩

end Go.Pi
namespace Go.Proofs.Ythkhmkdkgjdjhaa
open Go.Pi
theorem fnExactStateOf_lifted (os : Os) (started : os.Started) (H : Type) (enc : TypeId × Value → H) :
    ReturnsInHanded {} Try.checked os 5 .any (Rows.fnExactStateOfSpec.pre6 enc Try.prog Try.f5 Rows.fnExactStateOfRow.domain false) (Rows.fnExactStateOfSpec.post enc Try.prog Try.f5 false true false false) :=
  lifted (C := Try.checked) (E := [c_laws_eqByteS, c_laws_markByteS, c_laws_eqState, c_laws_markState, c_spec_StateOf, c_laws_toByteS, c_impl_StateOf, c_laws_heldState]) (fuel := _) (pf := pf_laws_FnExactStateOf) (shs := [(false, [.sl (.int .u8)])]) (tb := 4) (by kernel_rfl) started (by kernel_rfl) Try.func5
    (ChangeSpec.witness6 (enc := enc) (C := Try.checked) false ⟨#[], #[.slice none 0 0], []⟩ 12 (by kernel_rfl) (by kernel_rfl) (by kernel_rfl) (by kernel_rfl))
    mixd (envOk_cons ok_laws_eqByteS (envOk_cons ok_laws_markByteS (envOk_cons ok_laws_eqState (envOk_cons ok_laws_markState (envOk_cons ok_spec_StateOf (envOk_cons ok_laws_toByteS (envOk_cons ok_impl_StateOf (envOk_cons ok_laws_heldState (envOk_nil))))))))) (by kernel_rfl) (by kernel_rfl) (by kernel_rfl) rfl (by kernel_rfl) rfl
    (fun ds h => by
      obtain _ | ⟨d0, ds⟩ := ds
      · simp at h
      obtain _ | ⟨x, ds⟩ := ds
      · rfl
      · simp at h)
    (fun ain h0 => by
      obtain ⟨T0, ain0, e, k0, h1⟩ := areCons h0
      subst e
      have e := areNil h1
      subst e
      obtain ⟨b, e, w0⟩ := isL k0
      subst e
      exact run_laws_FnExactStateOf b (⟨w0.2, fun x hx => wfU8 (w0.1 x hx)⟩))
theorem fnExactStateOf_over : Rows.fnExactStateOfRow.holds Try.pinned (OpenSpec.ofChange Rows.fnExactStateOfSpec) :=
  OpenClaim.holds_of_wide 5 Try.f5 rfl rfl rfl rfl rfl rfl rfl ⟨rfl, rfl, rfl, rfl, rfl⟩ rfl rfl rfl rfl rfl (by kernel_rfl) Try.func5 (by kernel_rfl)
    (of_decide_eq_true (by kernel_rfl)) (by unfold Func.isWrapper; first | (rw [if_pos (by decide +kernel)]; kernel_rfl) | (rw [if_neg (by decide +kernel)]; exact ⟨rfl, rfl⟩))
    (fun os started H enc _ => fnExactStateOf_lifted os started H enc)
theorem fnExactStateOf_holds : Rows.FnExactStateOfSaid := fnExactStateOf_over
#print axioms fnExactStateOf_holds
end Go.Proofs.Ythkhmkdkgjdjhaa
