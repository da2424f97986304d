/- FnExactWordBytes: the given statement holds, out of the law's run by PI. No conditions. -/
import Derived.Test.YthkhmkdkgjdjhaaC5
namespace Go.Pi
open Go.Proofs
set_option linter.unusedVariables false
set_option linter.unusedSimpArgs false
set_option maxRecDepth 100000
attribute [local irreducible] iterN
def pf_laws_FnExactWordBytes : PF := ⟨[.t 2], .seq (.reg [.s (.box 1 (.t 0)), .s (.mv 2 (.k (.v (.c .ff))))]) (.seq (.reg [.s (.load 8 true 6 (.t 1)), .s (.call (some 9) 14 [(.t 8)]), .s (.call (some 10) 13 [(.t 9)]), .s (.mv 3 (.t 10))]) (.seq (.reg [.s (.load 11 true 6 (.t 1)), .s (.call (some 12) 14 [(.t 11)]), .s (.call (some 13) 15 [(.t 12)]), .s (.mv 4 (.t 13))]) (.seq (.seq (.reg [.s (.mv 14 (.t 4)), .s (.mv 15 (.t 3)), .s (.call (some 16) 16 [(.t 14), (.t 15)]), .s (.bnot 17 (.t 16))]) (.cond (.t 17) (.seq (.reg [.s (.mv 2 (.k (.v (.c .ff))))]) (.ret)) (.skip))) (.seq (.reg [.s (.mv 5 (.k (.v (.c (.int .i64 1)))))]) (.seq (.reg [.s (.mv 18 (.t 4)), .s (.mv 19 (.t 5)), .s (.call (some 20) 17 [(.t 18), (.t 19)]), .s (.mv 5 (.t 20))]) (.seq (.reg [.s (.mv 6 (.k (.v (.c (.int .i64 1)))))]) (.seq (.reg [.s (.mv 21 (.t 4)), .s (.mv 22 (.t 6)), .s (.call (some 23) 18 [(.t 21), (.t 22)]), .s (.mv 6 (.t 23))]) (.seq (.seq (.reg [.s (.mv 24 (.t 6)), .s (.bin 25 .lss (.t 24) (.k (.v (.c (.int .i64 0)))))]) (.cond (.t 25) (.seq (.reg [.s (.mv 2 (.k (.v (.c .ff))))]) (.ret)) (.skip))) (.seq (.seq (.reg [.s (.mv 26 (.t 6)), .s (.mv 27 (.t 5)), .s (.bin 28 .neq (.t 26) (.t 27))]) (.cond (.t 28) (.seq (.reg [.s (.mv 2 (.k (.v (.c .ff))))]) (.ret)) (.skip))) (.seq (.reg [.s (.load 29 true 6 (.t 1)), .s (.call (some 30) 14 [(.t 29)]), .s (.call (some 31) 15 [(.t 30)]), .s (.mv 7 (.t 31))]) (.seq (.seq (.reg [.s (.mv 32 (.t 7)), .s (.mv 33 (.t 3)), .s (.call (some 34) 16 [(.t 32), (.t 33)]), .s (.bnot 35 (.t 34))]) (.cond (.t 35) (.seq (.reg [.s (.mv 2 (.k (.v (.c .ff))))]) (.ret)) (.skip))) (.seq (.reg [.s (.mv 6 (.k (.v (.c (.int .i64 1)))))]) (.seq (.reg [.s (.mv 36 (.t 4)), .s (.mv 37 (.t 6)), .s (.call (some 38) 18 [(.t 36), (.t 37)]), .s (.mv 6 (.t 38))]) (.seq (.seq (.reg [.s (.mv 39 (.t 6)), .s (.bin 40 .lss (.t 39) (.k (.v (.c (.int .i64 0)))))]) (.cond (.t 40) (.seq (.reg [.s (.mv 2 (.k (.v (.c .ff))))]) (.ret)) (.skip))) (.seq (.seq (.reg [.s (.mv 41 (.t 6)), .s (.mv 42 (.t 5)), .s (.bin 43 .neq (.t 41) (.t 42))]) (.cond (.t 43) (.seq (.reg [.s (.mv 2 (.k (.v (.c .ff))))]) (.ret)) (.skip))) (.seq (.reg [.s (.mv 2 (.k (.v (.c .tt))))]) (.ret)))))))))))))))))⟩
def c_laws_FnExactWordBytes : Fun := ⟨3, [], fun ts K => as1 ts fun t0 => arG pWordT t0 fun w => K (tB true) []⟩
theorem run_laws_FnExactWordBytes (w : Word) : runK [c_spec_WordBytes, c_laws_toWord, c_impl_WordBytes, c_laws_eqByteS, c_laws_markByteS, c_laws_heldByteS] (0) [] pf_laws_FnExactWordBytes [tG (w.tc [])] fun r o => r = tB true ∧ o = [] := by
  have l1 := wordBytes_len w
  have l2 : (wordBytes w).length ≤ 2147483647 := by omega
  conv => whnf
  repeat' (first | (refine sel_i (fun h => ?_) (fun h => ?_) <;> conv => whnf) | (refine chk_c ?_ ?_ <;> conv => whnf) | (refine And.intro ?_ rfl) | (refine And.intro ?_ ?_ <;> conv => whnf))
  all_goals (try simp only [etaKey, etaWord, etaInst, etaSpan, mkInsS_length, mkByteS_length, etaMemory, etaSide, etaTwo, etaState, etaHeap, etaMState, mkWordS_length, mkBoolS_length, mkSpanS_length, mkIntS_length, mark_markMemory, end_markMemory, mark_markHeap, end_markHeap, mark_markState, end_markState, mark_markTwo, end_markTwo, hres_true] at *)
  all_goals first
    | (refine ⟨?_⟩; assumption)
    | (refine ⟨?_⟩; exact ⟨by assumption, by assumption⟩)
    | (refine ⟨?_⟩; exact ⟨by assumption, by assumption, by assumption⟩)
    | (refine ⟨?_⟩; omega)
    | (refine ⟨?_⟩; exact ⟨by omega, by omega, by assumption⟩)
    | rfl
    | trivial
    | (refine ⟨?_⟩; simp [markMemory, markHeap, markSide, markTwo, markState, mkInsS_length, mkByteS_length, mkWordS_length, mkBoolS_length, mkSpanS_length, mkIntS_length]; done)
    | (exfalso; simp [hres_true] at *; done)
    | (exfalso; simp [hres_true] at *; omega)
    | trace_state
theorem ok_laws_FnExactWordBytes : FunOk Try.prog c_laws_FnExactWordBytes := funOk (E := [c_spec_WordBytes, c_laws_toWord, c_impl_WordBytes, c_laws_eqByteS, c_laws_markByteS, c_laws_heldByteS]) (envOk_cons ok_spec_WordBytes (envOk_cons ok_laws_toWord (envOk_cons ok_impl_WordBytes (envOk_cons ok_laws_eqByteS (envOk_cons ok_laws_markByteS (envOk_cons ok_laws_heldByteS (envOk_nil))))))) mixd Try.func3 (pf := pf_laws_FnExactWordBytes) (by kernel_rfl) fun ts K h => by
  obtain ⟨t0, e0, h⟩ := as1_out h
  subst e0
  obtain ⟨w, e1, hq⟩ := arG_out rd_word h
  clear h
  subst e1
  have h := hq
  clear hq
  exact ⟨_, _, h, Nat.le_of_ble_eq_true (show Nat.ble 1 Try.f3.ntmps = true by kernel_rfl), _, run_laws_FnExactWordBytes w⟩

end Go.Pi
namespace Go.Proofs.Ythkhmkdkgjdjhaa
open Go.Pi
theorem fnExactWordBytes_lifted (os : Os) (started : os.Started) (H : Type) (enc : TypeId × Value → H) :
    ReturnsInHanded {} Try.checked os 3 .any (Rows.fnExactWordBytesSpec.pre6 enc Try.prog Try.f3 Rows.fnExactWordBytesRow.domain false) (Rows.fnExactWordBytesSpec.post enc Try.prog Try.f3 false true false false) :=
  lifted (C := Try.checked) (E := [c_spec_WordBytes, c_laws_toWord, c_impl_WordBytes, c_laws_eqByteS, c_laws_markByteS, c_laws_heldByteS]) (fuel := _) (pf := pf_laws_FnExactWordBytes) (shs := [(true, ckWord)]) (tb := 4) (by kernel_rfl) started (by kernel_rfl) Try.func3
    (ChangeSpec.witness6 (enc := enc) (C := Try.checked) false ⟨#[], #[.agg #[.int .i64 0, .bool false, .int .i64 0, .int .i64 0, .int .i64 0, .int .i64 0]], []⟩ 12 (by kernel_rfl) (by kernel_rfl) (by kernel_rfl) (by kernel_rfl))
    mixd (envOk_cons ok_spec_WordBytes (envOk_cons ok_laws_toWord (envOk_cons ok_impl_WordBytes (envOk_cons ok_laws_eqByteS (envOk_cons ok_laws_markByteS (envOk_cons ok_laws_heldByteS (envOk_nil))))))) (by kernel_rfl) (by kernel_rfl) (by kernel_rfl) rfl (by kernel_rfl) rfl
    (fun ds h => by
      obtain _ | ⟨d0, ds⟩ := ds
      · simp at h
      obtain _ | ⟨x, ds⟩ := ds
      · rfl
      · simp at h)
    (fun ain h0 => by
      obtain ⟨T0, ain0, e, k0, h1⟩ := areCons h0
      subst e
      have e := areNil h1
      subst e
      obtain ⟨w, e, w0⟩ := areG ut_word k0
      subst e
      exact run_laws_FnExactWordBytes w)
theorem fnExactWordBytes_over : Rows.fnExactWordBytesRow.holds Try.pinned (OpenSpec.ofChange Rows.fnExactWordBytesSpec) :=
  OpenClaim.holds_of_wide 3 Try.f3 rfl rfl rfl rfl rfl rfl rfl ⟨rfl, rfl, rfl, rfl, rfl⟩ rfl rfl rfl rfl rfl (by kernel_rfl) Try.func3 (by kernel_rfl)
    (of_decide_eq_true (by kernel_rfl)) (by unfold Func.isWrapper; first | (rw [if_pos (by decide +kernel)]; kernel_rfl) | (rw [if_neg (by decide +kernel)]; exact ⟨rfl, rfl⟩))
    (fun os started H enc _ => fnExactWordBytes_lifted os started H enc)
theorem fnExactWordBytes_holds : Rows.FnExactWordBytesSaid := fnExactWordBytes_over
#print axioms fnExactWordBytes_holds
end Go.Proofs.Ythkhmkdkgjdjhaa
