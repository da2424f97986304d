/- FnExactStateBytes: the given statement holds, out of the law's run by PI. No conditions. -/
import Derived.Test.YthkhmkdkgjdjhaaC5
namespace Go.Pi
open Go.Proofs
set_option linter.unusedVariables false
set_option linter.unusedSimpArgs false
set_option maxRecDepth 100000
attribute [local irreducible] iterN
def pf_laws_FnExactStateBytes : PF := ⟨[.t 2], .seq (.reg [.s (.box 1 (.t 0)), .s (.mv 2 (.k (.v (.c .ff))))]) (.seq (.reg [.s (.mv 3 (.k (.v (.c (.int .i64 1048576)))))]) (.seq (.reg [.s (.load 11 true 10 (.t 1)), .s (.mv 12 (.t 3)), .s (.call (some 13) 19 [(.t 11), (.t 12)]), .s (.mv 3 (.t 13))]) (.seq (.seq (.reg [.s (.mv 14 (.t 3)), .s (.bin 15 .lss (.t 14) (.k (.v (.c (.int .i64 0)))))]) (.cond (.t 15) (.seq (.reg [.s (.mv 2 (.k (.v (.c .tt))))]) (.ret)) (.skip))) (.seq (.reg [.s (.load 16 true 10 (.t 1)), .s (.call (some 17) 21 [(.t 16)]), .s (.call (some 18) 20 [(.t 17)]), .s (.mv 4 (.t 18))]) (.seq (.reg [.s (.load 19 true 10 (.t 1)), .s (.call (some 20) 21 [(.t 19)]), .s (.alloc 5 [.nils .word, .int .i64 0, .ff, .int .i64 0, .int .i64 0, .int .i64 0, .int .i64 0, .nils .word, .nils .bool, .int .i64 0]), .s (.store 10 (.t 5) (.t 20))]) (.seq (.reg [.s (.load 21 true 10 (.t 5)), .s (.call (some 22) 22 [(.t 21)]), .s (.mv 6 (.t 22))]) (.seq (.seq (.reg [.s (.mv 23 (.t 6)), .s (.mv 24 (.t 4)), .s (.call (some 25) 16 [(.t 23), (.t 24)]), .s (.bnot 26 (.t 25))]) (.cond (.t 26) (.seq (.reg [.s (.mv 2 (.k (.v (.c .ff))))]) (.ret)) (.skip))) (.seq (.seq (.rgd [.s (.load 27 true 10 (.t 5)), .s (.load 28 true 10 (.t 1)), .s (.call (some 29) 21 [(.t 28)]), .s (.call (some 30) 23 [(.t 27), (.t 29)]), .s (.bnot 31 (.t 30))] (.tk 0 (.tk 1 (.one 2 false (.one 3 true (.tk 4 (.done none))))))) (.cond (.t 31) (.seq (.reg [.s (.mv 2 (.k (.v (.c .ff))))]) (.ret)) (.skip))) (.seq (.reg [.s (.mv 7 (.k (.v (.c (.int .i64 1)))))]) (.seq (.reg [.s (.load 32 true 10 (.t 5)), .s (.mv 33 (.t 7)), .s (.call (some 34) 24 [(.t 32), (.t 33)]), .s (.mv 7 (.t 34))]) (.seq (.seq (.reg [.s (.mv 35 (.t 7)), .s (.bin 36 .lss (.t 35) (.k (.v (.c (.int .i64 0))))), .s (.mv 37 (.t 36)), .g 37 false (some 38) (.mv 38 (.t 6)), .g 37 false (some 39) (.mv 39 (.t 4)), .g 37 false (some 40) (.call (some 40) 16 [(.t 38), (.t 39)]), .g 37 false (some 41) (.bnot 41 (.t 40)), .s (.pick 42 (.t 37) (.k (.v (.c .tt))) (.t 41))]) (.cond (.t 42) (.seq (.reg [.s (.mv 2 (.k (.v (.c .ff))))]) (.ret)) (.skip))) (.seq (.reg [.s (.mv 8 (.k (.v (.c (.int .i64 1)))))]) (.seq (.reg [.s (.mv 43 (.t 6)), .s (.mv 44 (.t 8)), .s (.call (some 45) 17 [(.t 43), (.t 44)]), .s (.mv 8 (.t 45))]) (.seq (.reg [.s (.mv 9 (.k (.v (.c (.int .i64 1)))))]) (.seq (.reg [.s (.mv 46 (.t 6)), .s (.mv 47 (.t 9)), .s (.call (some 48) 18 [(.t 46), (.t 47)]), .s (.mv 9 (.t 48))]) (.seq (.seq (.reg [.s (.mv 49 (.t 9)), .s (.bin 50 .lss (.t 49) (.k (.v (.c (.int .i64 0)))))]) (.cond (.t 50) (.seq (.reg [.s (.mv 2 (.k (.v (.c .ff))))]) (.ret)) (.skip))) (.seq (.seq (.reg [.s (.mv 51 (.t 9)), .s (.mv 52 (.t 8)), .s (.bin 53 .neq (.t 51) (.t 52))]) (.cond (.t 53) (.seq (.reg [.s (.mv 2 (.k (.v (.c .ff))))]) (.ret)) (.skip))) (.seq (.reg [.s (.load 54 true 10 (.t 1)), .s (.call (some 55) 21 [(.t 54)]), .s (.call (some 56) 22 [(.t 55)]), .s (.mv 10 (.t 56))]) (.seq (.seq (.reg [.s (.mv 57 (.t 10)), .s (.mv 58 (.t 4)), .s (.call (some 59) 16 [(.t 57), (.t 58)]), .s (.bnot 60 (.t 59))]) (.cond (.t 60) (.seq (.reg [.s (.mv 2 (.k (.v (.c .ff))))]) (.ret)) (.skip))) (.seq (.reg [.s (.mv 9 (.k (.v (.c (.int .i64 1)))))]) (.seq (.reg [.s (.mv 61 (.t 6)), .s (.mv 62 (.t 9)), .s (.call (some 63) 18 [(.t 61), (.t 62)]), .s (.mv 9 (.t 63))]) (.seq (.seq (.reg [.s (.mv 64 (.t 9)), .s (.bin 65 .lss (.t 64) (.k (.v (.c (.int .i64 0)))))]) (.cond (.t 65) (.seq (.reg [.s (.mv 2 (.k (.v (.c .ff))))]) (.ret)) (.skip))) (.seq (.seq (.reg [.s (.mv 66 (.t 9)), .s (.mv 67 (.t 8)), .s (.bin 68 .neq (.t 66) (.t 67))]) (.cond (.t 68) (.seq (.reg [.s (.mv 2 (.k (.v (.c .ff))))]) (.ret)) (.skip))) (.seq (.reg [.s (.mv 2 (.k (.v (.c .tt))))]) (.ret)))))))))))))))))))))))))⟩
def c_laws_FnExactStateBytes : Fun := ⟨4, [], fun ts K => as1 ts fun t0 => arG pStateT t0 fun s => chk (LState s 9223372036854775807) (K (tB true) [])⟩
theorem run_laws_FnExactStateBytes (s : State) (hpre : LState s 9223372036854775807) : runK [c_laws_eqByteS, c_laws_markByteS, c_laws_heldByteS, c_laws_szState, c_spec_StateBytes, c_laws_toState, c_impl_StateBytes, c_laws_eqState, c_laws_markState] (0) [] pf_laws_FnExactStateBytes [tG (s.tc false [])] fun r o => r = tB true ∧ o = [] := by
  conv => whnf
  refine chk_i ⟨hpre, by omega, by omega⟩ ?_
  conv => whnf
  refine sel_i (fun h => ?_) (fun h => ?_)
  · conv => whnf
    exact ⟨rfl, rfl⟩
  have hz : LState s 1048576 := szState_n (k := 1048576) (by omega) (by simpa [etaKey, etaWord, etaMemory, etaState] using h)
  clear h
  have l2 : LState s 2147483647 := hz.mono (by decide)
  have hl := stateBytes_len s
  have l3 : (stateBytes s).length ≤ 2147483647 := by omega
  have hz3 : SzState s := ⟨l2.1, l2.2.1, l2.2.2⟩
  have he := endState_le s 1 hz3
  have hq : (0 : Int) ≤ 1 ∧ (1 : Int) ≤ 281474976710656 ∧ SzState s := ⟨by omega, by omega, hz3⟩
  clear hz
  conv => whnf
  repeat' (first | (refine sel_i (fun h => ?_) (fun h => ?_) <;> conv => whnf) | (refine chk_c ?_ ?_ <;> conv => whnf) | (refine And.intro ?_ rfl) | (refine And.intro ?_ ?_ <;> conv => whnf))
  all_goals (try simp only [etaKey, etaWord, etaInst, etaSpan, mkInsS_length, mkByteS_length, etaMemory, etaSide, etaTwo, etaState, etaHeap, etaMState, mkWordS_length, mkBoolS_length, mkSpanS_length, mkIntS_length, mark_markMemory, end_markMemory, mark_markHeap, end_markHeap, mark_markState, end_markState, mark_markTwo, end_markTwo, hres_true] at *)
  all_goals first
    | (refine ⟨?_⟩; assumption)
    | (refine ⟨?_⟩; exact ⟨by assumption, by assumption⟩)
    | (refine ⟨?_⟩; exact ⟨by assumption, by assumption, by assumption⟩)
    | (refine ⟨?_⟩; omega)
    | (refine ⟨?_⟩; exact ⟨by omega, by omega, by assumption⟩)
    | rfl
    | trivial
    | (refine ⟨?_⟩; simp [markMemory, markHeap, markSide, markTwo, markState, mkInsS_length, mkByteS_length, mkWordS_length, mkBoolS_length, mkSpanS_length, mkIntS_length]; done)
    | (exfalso; simp [hres_true] at *; done)
    | (exfalso; simp [hres_true] at *; omega)
    | trace_state
theorem ok_laws_FnExactStateBytes : FunOk Try.prog c_laws_FnExactStateBytes := funOk (E := [c_laws_eqByteS, c_laws_markByteS, c_laws_heldByteS, c_laws_szState, c_spec_StateBytes, c_laws_toState, c_impl_StateBytes, c_laws_eqState, c_laws_markState]) (envOk_cons ok_laws_eqByteS (envOk_cons ok_laws_markByteS (envOk_cons ok_laws_heldByteS (envOk_cons ok_laws_szState (envOk_cons ok_spec_StateBytes (envOk_cons ok_laws_toState (envOk_cons ok_impl_StateBytes (envOk_cons ok_laws_eqState (envOk_cons ok_laws_markState (envOk_nil)))))))))) mixd Try.func4 (pf := pf_laws_FnExactStateBytes) (by kernel_rfl) fun ts K h => by
  obtain ⟨t0, e0, h⟩ := as1_out h
  subst e0
  obtain ⟨s, e1, hq⟩ := arG_out rd_state h
  clear h
  subst e1
  have h := hq
  clear hq
  obtain ⟨hpre, h⟩ := chk_o h
  exact ⟨_, _, h, Nat.le_of_ble_eq_true (show Nat.ble 1 Try.f4.ntmps = true by kernel_rfl), _, run_laws_FnExactStateBytes s hpre⟩

end Go.Pi
namespace Go.Proofs.Ythkhmkdkgjdjhaa
open Go.Pi
theorem fnExactStateBytes_lifted (os : Os) (started : os.Started) (H : Type) (enc : TypeId × Value → H) :
    ReturnsInHanded {} Try.checked os 4 .any (Rows.fnExactStateBytesSpec.pre6 enc Try.prog Try.f4 Rows.fnExactStateBytesRow.domain false) (Rows.fnExactStateBytesSpec.post enc Try.prog Try.f4 false true false false) :=
  lifted (C := Try.checked) (E := [c_laws_eqByteS, c_laws_markByteS, c_laws_heldByteS, c_laws_szState, c_spec_StateBytes, c_laws_toState, c_impl_StateBytes, c_laws_eqState, c_laws_markState]) (fuel := _) (pf := pf_laws_FnExactStateBytes) (shs := [(true, ckState)]) (tb := 4) (by kernel_rfl) started (by kernel_rfl) Try.func4
    (ChangeSpec.witness6 (enc := enc) (C := Try.checked) false ⟨#[], #[.agg #[.slice none 0 0, .int .i64 0, .bool false, .int .i64 0, .int .i64 0, .int .i64 0, .int .i64 0, .slice none 0 0, .slice none 0 0, .int .i64 0]], []⟩ 12 (by kernel_rfl) (by kernel_rfl) (by kernel_rfl) (by kernel_rfl))
    mixd (envOk_cons ok_laws_eqByteS (envOk_cons ok_laws_markByteS (envOk_cons ok_laws_heldByteS (envOk_cons ok_laws_szState (envOk_cons ok_spec_StateBytes (envOk_cons ok_laws_toState (envOk_cons ok_impl_StateBytes (envOk_cons ok_laws_eqState (envOk_cons ok_laws_markState (envOk_nil)))))))))) (by kernel_rfl) (by kernel_rfl) (by kernel_rfl) rfl (by kernel_rfl) rfl
    (fun ds h => by
      obtain _ | ⟨d0, ds⟩ := ds
      · simp at h
      obtain _ | ⟨x, ds⟩ := ds
      · rfl
      · simp at h)
    (fun ain h0 => by
      obtain ⟨T0, ain0, e, k0, h1⟩ := areCons h0
      subst e
      have e := areNil h1
      subst e
      obtain ⟨s, e, w0⟩ := areG ut_state k0
      subst e
      exact run_laws_FnExactStateBytes s (lState_of w0))
theorem fnExactStateBytes_over : Rows.fnExactStateBytesRow.holds Try.pinned (OpenSpec.ofChange Rows.fnExactStateBytesSpec) :=
  OpenClaim.holds_of_wide 4 Try.f4 rfl rfl rfl rfl rfl rfl rfl ⟨rfl, rfl, rfl, rfl, rfl⟩ rfl rfl rfl rfl rfl (by kernel_rfl) Try.func4 (by kernel_rfl)
    (of_decide_eq_true (by kernel_rfl)) (by unfold Func.isWrapper; first | (rw [if_pos (by decide +kernel)]; kernel_rfl) | (rw [if_neg (by decide +kernel)]; exact ⟨rfl, rfl⟩))
    (fun os started H enc _ => fnExactStateBytes_lifted os started H enc)
theorem fnExactStateBytes_holds : Rows.FnExactStateBytesSaid := fnExactStateBytes_over
#print axioms fnExactStateBytes_holds
end Go.Proofs.Ythkhmkdkgjdjhaa
