/- FnExactTouched: the given statement holds, out of the law's run by PI. No conditions. -/
import Derived.Test.YtlbfghplkadacaaC2
namespace Go.Pi
open Go.Proofs
set_option linter.unusedVariables false
set_option linter.unusedSimpArgs false
set_option maxRecDepth 100000
attribute [local irreducible] iterN
def pf_laws_FnExactTouched : PF := ⟨[.t 2], .seq (.reg [.s (.mv 2 (.k (.v (.c .ff))))]) (.seq (.reg [.s (.mv 3 (.k (.v (.c (.int .i64 1048576)))))]) (.seq (.reg [.s (.mv 11 (.t 0)), .s (.mv 12 (.t 3)), .s (.call (some 13) 5 [(.t 11), (.t 12)]), .s (.mv 3 (.t 13))]) (.seq (.seq (.reg [.s (.mv 14 (.t 3)), .s (.bin 15 .lss (.t 14) (.k (.v (.c (.int .i64 0)))))]) (.cond (.t 15) (.seq (.reg [.s (.mv 2 (.k (.v (.c .tt))))]) (.ret)) (.skip))) (.seq (.reg [.s (.mv 16 (.t 0)), .s (.call (some 17) 7 [(.t 16)]), .s (.call (some 18) 6 [(.t 17)]), .s (.mv 4 (.t 18))]) (.seq (.reg [.s (.mv 19 (.t 0)), .s (.call (some 20) 7 [(.t 19)]), .s (.mv 5 (.t 20))]) (.seq (.reg [.s (.mv 21 (.t 5)), .s (.call (some 22) 8 [(.t 21)]), .s (.mv 6 (.t 22))]) (.seq (.seq (.reg [.s (.mv 23 (.t 6)), .s (.mv 24 (.t 4)), .s (.call (some 25) 9 [(.t 23), (.t 24)]), .s (.bnot 26 (.t 25))]) (.cond (.t 26) (.seq (.reg [.s (.mv 2 (.k (.v (.c .ff))))]) (.ret)) (.skip))) (.seq (.seq (.reg [.s (.mv 27 (.t 5)), .s (.mv 28 (.t 0)), .s (.call (some 29) 7 [(.t 28)]), .s (.call (some 30) 10 [(.t 27), (.t 29)]), .s (.bnot 31 (.t 30))]) (.cond (.t 31) (.seq (.reg [.s (.mv 2 (.k (.v (.c .ff))))]) (.ret)) (.skip))) (.seq (.reg [.s (.mv 7 (.k (.v (.c (.int .i64 1)))))]) (.seq (.reg [.s (.mv 32 (.t 5)), .s (.mv 33 (.t 7)), .s (.call (some 34) 11 [(.t 32), (.t 33)]), .s (.mv 7 (.t 34))]) (.seq (.seq (.reg [.s (.mv 35 (.t 7)), .s (.bin 36 .lss (.t 35) (.k (.v (.c (.int .i64 0))))), .s (.mv 37 (.t 36)), .g 37 false (some 38) (.mv 38 (.t 6)), .g 37 false (some 39) (.mv 39 (.t 4)), .g 37 false (some 40) (.call (some 40) 9 [(.t 38), (.t 39)]), .g 37 false (some 41) (.bnot 41 (.t 40)), .s (.pick 42 (.t 37) (.k (.v (.c .tt))) (.t 41))]) (.cond (.t 42) (.seq (.reg [.s (.mv 2 (.k (.v (.c .ff))))]) (.ret)) (.skip))) (.seq (.reg [.s (.mv 8 (.k (.v (.c (.int .i64 1)))))]) (.seq (.reg [.s (.mv 43 (.t 6)), .s (.mv 44 (.t 8)), .s (.call (some 45) 12 [(.t 43), (.t 44)]), .s (.mv 8 (.t 45))]) (.seq (.reg [.s (.mv 9 (.k (.v (.c (.int .i64 1)))))]) (.seq (.reg [.s (.mv 46 (.t 6)), .s (.mv 47 (.t 9)), .s (.call (some 48) 13 [(.t 46), (.t 47)]), .s (.mv 9 (.t 48))]) (.seq (.seq (.reg [.s (.mv 49 (.t 9)), .s (.bin 50 .lss (.t 49) (.k (.v (.c (.int .i64 0)))))]) (.cond (.t 50) (.seq (.reg [.s (.mv 2 (.k (.v (.c .ff))))]) (.ret)) (.skip))) (.seq (.seq (.reg [.s (.mv 51 (.t 9)), .s (.mv 52 (.t 8)), .s (.bin 53 .neq (.t 51) (.t 52))]) (.cond (.t 53) (.seq (.reg [.s (.mv 2 (.k (.v (.c .ff))))]) (.ret)) (.skip))) (.seq (.reg [.s (.mv 54 (.t 0)), .s (.call (some 55) 7 [(.t 54)]), .s (.call (some 56) 8 [(.t 55)]), .s (.mv 10 (.t 56))]) (.seq (.seq (.reg [.s (.mv 57 (.t 10)), .s (.mv 58 (.t 4)), .s (.call (some 59) 9 [(.t 57), (.t 58)]), .s (.bnot 60 (.t 59))]) (.cond (.t 60) (.seq (.reg [.s (.mv 2 (.k (.v (.c .ff))))]) (.ret)) (.skip))) (.seq (.reg [.s (.mv 9 (.k (.v (.c (.int .i64 1)))))]) (.seq (.reg [.s (.mv 61 (.t 6)), .s (.mv 62 (.t 9)), .s (.call (some 63) 13 [(.t 61), (.t 62)]), .s (.mv 9 (.t 63))]) (.seq (.seq (.reg [.s (.mv 64 (.t 9)), .s (.bin 65 .lss (.t 64) (.k (.v (.c (.int .i64 0)))))]) (.cond (.t 65) (.seq (.reg [.s (.mv 2 (.k (.v (.c .ff))))]) (.ret)) (.skip))) (.seq (.seq (.reg [.s (.mv 66 (.t 9)), .s (.mv 67 (.t 8)), .s (.bin 68 .neq (.t 66) (.t 67))]) (.cond (.t 68) (.seq (.reg [.s (.mv 2 (.k (.v (.c .ff))))]) (.ret)) (.skip))) (.seq (.reg [.s (.mv 2 (.k (.v (.c .tt))))]) (.ret)))))))))))))))))))))))))⟩
def c_laws_FnExactTouched : Fun := ⟨3, [], fun ts K => as1 ts fun t0 => arC (pL .seen) t0 fun l => chk (l.length ≤ 9223372036854775807) (K (tB true) [])⟩
theorem run_laws_FnExactTouched (l : List (FT.Ty .seen)) (hpre : l.length ≤ 9223372036854775807) : runK [c_laws_szSeenS, c_spec_Touched, c_laws_toSeenS, c_impl_Touched, c_laws_eqIntS, c_laws_eqSeenS, c_laws_markSeenS, c_laws_markIntS, c_laws_heldIntS] (0) [] pf_laws_FnExactTouched [tL false .seen l] fun r o => r = tB true ∧ o = [] := by
  conv => whnf
  refine chk_i ⟨hpre, by omega, by omega⟩ ?_
  conv => whnf
  refine sel_i (fun h => ?_) (fun h => ?_)
  · conv => whnf
    exact ⟨rfl, rfl⟩
  have h : 0 ≤ szr 1048576 l.length := by simpa using h
  have hn := szr_n h
  have l1 : l.length ≤ 2147483647 := by omega
  have hl := touched_len l
  have l3 : (touched l).length ≤ 2147483647 := by omega
  clear h
  conv => whnf
  repeat' (first | (refine sel_i (fun h => ?_) (fun h => ?_) <;> conv => whnf) | (refine chk_c ?_ ?_ <;> conv => whnf) | (refine And.intro ?_ rfl) | (refine And.intro ?_ ?_ <;> conv => whnf))
  all_goals (try simp only [mkSeenS_length, etaSeen] at *)
  all_goals (try simp only [etaKey, etaWord, etaInst, etaSpan, mkInsS_length, mkByteS_length, etaMemory, etaSide, etaTwo, etaState, etaHeap, etaMState, mkWordS_length, mkBoolS_length, mkSpanS_length, mkIntS_length, mark_markMemory, end_markMemory, mark_markHeap, end_markHeap, mark_markState, end_markState, mark_markTwo, end_markTwo, hres_true] at *)
  all_goals first
    | (refine ⟨?_⟩; assumption)
    | (refine ⟨?_⟩; exact ⟨by assumption, by assumption⟩)
    | (refine ⟨?_⟩; exact ⟨by assumption, by assumption, by assumption⟩)
    | (refine ⟨?_⟩; omega)
    | (refine ⟨?_⟩; exact ⟨by omega, by omega, by assumption⟩)
    | rfl
    | trivial
    | (refine ⟨?_⟩; simp [markMemory, markHeap, markSide, markTwo, markState, mkInsS_length, mkByteS_length, mkWordS_length, mkBoolS_length, mkSpanS_length, mkIntS_length]; done)
    | (exfalso; simp [hres_true] at *; done)
    | (exfalso; simp [hres_true] at *; omega)
    | trace_state
theorem ok_laws_FnExactTouched : FunOk Try.prog c_laws_FnExactTouched := funOk (E := [c_laws_szSeenS, c_spec_Touched, c_laws_toSeenS, c_impl_Touched, c_laws_eqIntS, c_laws_eqSeenS, c_laws_markSeenS, c_laws_markIntS, c_laws_heldIntS]) (envOk_cons ok_laws_szSeenS (envOk_cons ok_spec_Touched (envOk_cons ok_laws_toSeenS (envOk_cons ok_impl_Touched (envOk_cons ok_laws_eqIntS (envOk_cons ok_laws_eqSeenS (envOk_cons ok_laws_markSeenS (envOk_cons ok_laws_markIntS (envOk_cons ok_laws_heldIntS (envOk_nil)))))))))) mixd Try.func3 (pf := pf_laws_FnExactTouched) (by kernel_rfl) fun ts K h => by
  obtain ⟨t0, e0, h⟩ := as1_out h
  subst e0
  obtain ⟨l, e1, hq⟩ := arC_out (rd_l .seen) h
  clear h
  subst e1
  have h := hq
  clear hq
  obtain ⟨hpre, h⟩ := chk_o h
  exact ⟨_, _, h, Nat.le_of_ble_eq_true (show Nat.ble 1 Try.f3.ntmps = true by kernel_rfl), _, run_laws_FnExactTouched l hpre⟩

end Go.Pi
namespace Go.Proofs.Ytlbfghplkadacaa
open Go.Pi
theorem fnExactTouched_lifted (os : Os) (started : os.Started) (H : Type) (enc : TypeId × Value → H) :
    ReturnsInHanded {} Try.checked os 3 .any (Rows.fnExactTouchedSpec.pre6 enc Try.prog Try.f3 Rows.fnExactTouchedRow.domain false) (Rows.fnExactTouchedSpec.post enc Try.prog Try.f3 false true false false) :=
  lifted (C := Try.checked) (E := [c_laws_szSeenS, c_spec_Touched, c_laws_toSeenS, c_impl_Touched, c_laws_eqIntS, c_laws_eqSeenS, c_laws_markSeenS, c_laws_markIntS, c_laws_heldIntS]) (fuel := _) (pf := pf_laws_FnExactTouched) (shs := [(false, [.sl .seen])]) (tb := 4) (by kernel_rfl) started (by kernel_rfl) Try.func3
    (ChangeSpec.witness6 (enc := enc) (C := Try.checked) false ⟨#[], #[.slice none 0 0], []⟩ 12 (by kernel_rfl) (by kernel_rfl) (by kernel_rfl) (by kernel_rfl))
    mixd (envOk_cons ok_laws_szSeenS (envOk_cons ok_spec_Touched (envOk_cons ok_laws_toSeenS (envOk_cons ok_impl_Touched (envOk_cons ok_laws_eqIntS (envOk_cons ok_laws_eqSeenS (envOk_cons ok_laws_markSeenS (envOk_cons ok_laws_markIntS (envOk_cons ok_laws_heldIntS (envOk_nil)))))))))) (by kernel_rfl) (by kernel_rfl) (by kernel_rfl) rfl (by kernel_rfl) rfl (by kernel_rfl)
    (fun ds h => by
      obtain _ | ⟨d0, ds⟩ := ds
      · simp at h
      obtain _ | ⟨x, ds⟩ := ds
      · rfl
      · simp at h)
    (fun ain h0 => by
      obtain ⟨T0, ain0, e, k0, h1⟩ := areCons h0
      subst e
      have e := areNil h1
      subst e
      obtain ⟨l, e, w0⟩ := isL k0
      subst e
      exact run_laws_FnExactTouched l (w0.2))
theorem fnExactTouched_over : Rows.fnExactTouchedRow.holds Try.pinned (OpenSpec.ofChange Rows.fnExactTouchedSpec) :=
  OpenClaim.holds_of_wide 3 Try.f3 rfl rfl rfl rfl rfl rfl rfl ⟨rfl, rfl, rfl, rfl, rfl⟩ rfl rfl rfl rfl rfl (by kernel_rfl) Try.func3 (by kernel_rfl)
    (of_decide_eq_true (by kernel_rfl)) (by unfold Func.isWrapper; first | (rw [if_pos (by decide +kernel)]; kernel_rfl) | (rw [if_neg (by decide +kernel)]; exact ⟨rfl, rfl⟩))
    (fun os started H enc _ => fnExactTouched_lifted os started H enc)
theorem fnExactTouched_holds : Rows.FnExactTouchedSaid := fnExactTouched_over
#print axioms fnExactTouched_holds
end Go.Proofs.Ytlbfghplkadacaa
