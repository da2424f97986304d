/- FnExactSeenRun: the given statement holds, out of the law's run by PI. No conditions. -/
import Derived.Test.YthkhmkdkgjdjhaaGreatC5
namespace Go.Pi
open Go.Proofs
set_option linter.unusedVariables false
set_option linter.unusedSimpArgs false
set_option maxRecDepth 100000
attribute [local irreducible] iterN
def pf_laws_FnExactSeenRun : PF := ⟨[.t 6], .seq (.reg [.s (.box 4 (.t 1)), .s (.mv 6 (.k (.v (.c .ff))))]) (.seq (.reg [.s (.mv 7 (.k (.v (.c (.int .i64 1048576)))))]) (.seq (.reg [.s (.mv 16 (.t 0)), .s (.mv 17 (.t 7)), .s (.call (some 18) 5 [(.t 16), (.t 17)]), .s (.mv 7 (.t 18))]) (.seq (.seq (.reg [.s (.mv 19 (.t 7)), .s (.bin 20 .lss (.t 19) (.k (.v (.c (.int .i64 0)))))]) (.cond (.t 20) (.seq (.reg [.s (.mv 6 (.k (.v (.c .tt))))]) (.ret)) (.skip))) (.seq (.reg [.s (.load 21 true 10 (.t 4)), .s (.mv 22 (.t 7)), .s (.call (some 23) 6 [(.t 21), (.t 22)]), .s (.mv 7 (.t 23))]) (.seq (.seq (.reg [.s (.mv 24 (.t 7)), .s (.bin 25 .lss (.t 24) (.k (.v (.c (.int .i64 0)))))]) (.cond (.t 25) (.seq (.reg [.s (.mv 6 (.k (.v (.c .tt))))]) (.ret)) (.skip))) (.seq (.rgd [.s (.mv 26 (.t 0)), .s (.call (some 27) 8 [(.t 26)]), .s (.load 28 true 10 (.t 4)), .s (.call (some 29) 9 [(.t 28)]), .s (.mv 30 (.t 2)), .s (.call (some 31) 7 [(.t 27), (.t 29), (.t 30)]), .s (.mv 8 (.t 31))] (.tk 0 (.tk 2 (.tk 4 (.one 1 false (.one 3 true (.one 5 true (.tk 6 (.done none))))))))) (.seq (.reg [.s (.mv 32 (.t 0)), .s (.call (some 33) 8 [(.t 32)]), .s (.mv 9 (.t 33))]) (.seq (.reg [.s (.load 34 true 10 (.t 4)), .s (.call (some 35) 9 [(.t 34)]), .s (.alloc 10 [.nils .word, .int .i64 0, .ff, .int .i64 0, .int .i64 0, .int .i64 0, .int .i64 0, .nils .word, .nils .bool, .int .i64 0]), .s (.store 10 (.t 10) (.t 35))]) (.seq (.reg [.s (.mv 36 (.t 9)), .s (.load 37 true 10 (.t 10)), .s (.mv 38 (.t 2)), .s (.call (some 39) 10 [(.t 36), (.t 37), (.t 38)]), .s (.mv 11 (.t 39))]) (.seq (.seq (.reg [.s (.mv 40 (.t 11)), .s (.mv 41 (.t 8)), .s (.call (some 42) 11 [(.t 40), (.t 41)]), .s (.bnot 43 (.t 42))]) (.cond (.t 43) (.seq (.reg [.s (.mv 6 (.k (.v (.c .ff))))]) (.ret)) (.skip))) (.seq (.seq (.reg [.s (.mv 44 (.t 9)), .s (.mv 45 (.t 0)), .s (.call (some 46) 8 [(.t 45)]), .s (.call (some 47) 12 [(.t 44), (.t 46)]), .s (.bnot 48 (.t 47))]) (.cond (.t 48) (.seq (.reg [.s (.mv 6 (.k (.v (.c .ff))))]) (.ret)) (.skip))) (.seq (.seq (.rgd [.s (.load 49 true 10 (.t 10)), .s (.load 50 true 10 (.t 4)), .s (.call (some 51) 9 [(.t 50)]), .s (.call (some 52) 13 [(.t 49), (.t 51)]), .s (.bnot 53 (.t 52))] (.tk 0 (.tk 1 (.one 2 false (.one 3 true (.tk 4 (.done none))))))) (.cond (.t 53) (.seq (.reg [.s (.mv 6 (.k (.v (.c .ff))))]) (.ret)) (.skip))) (.seq (.reg [.s (.mv 12 (.k (.v (.c (.int .i64 1)))))]) (.seq (.reg [.s (.mv 54 (.t 9)), .s (.mv 55 (.t 12)), .s (.call (some 56) 14 [(.t 54), (.t 55)]), .s (.mv 12 (.t 56))]) (.seq (.reg [.s (.load 57 true 10 (.t 10)), .s (.mv 58 (.t 12)), .s (.call (some 59) 15 [(.t 57), (.t 58)]), .s (.mv 12 (.t 59))]) (.seq (.seq (.reg [.s (.mv 60 (.t 12)), .s (.bin 61 .lss (.t 60) (.k (.v (.c (.int .i64 0))))), .s (.mv 62 (.t 61)), .g 62 false (some 63) (.mv 63 (.t 11)), .g 62 false (some 64) (.mv 64 (.t 8)), .g 62 false (some 65) (.call (some 65) 11 [(.t 63), (.t 64)]), .g 62 false (some 66) (.bnot 66 (.t 65)), .s (.pick 67 (.t 62) (.k (.v (.c .tt))) (.t 66))]) (.cond (.t 67) (.seq (.reg [.s (.mv 6 (.k (.v (.c .ff))))]) (.ret)) (.skip))) (.seq (.reg [.s (.mv 13 (.k (.v (.c (.int .i64 1)))))]) (.seq (.reg [.s (.mv 68 (.t 11)), .s (.mv 69 (.t 13)), .s (.call (some 70) 16 [(.t 68), (.t 69)]), .s (.mv 13 (.t 70))]) (.seq (.reg [.s (.mv 14 (.k (.v (.c (.int .i64 1)))))]) (.seq (.reg [.s (.mv 71 (.t 11)), .s (.mv 72 (.t 14)), .s (.call (some 73) 17 [(.t 71), (.t 72)]), .s (.mv 14 (.t 73))]) (.seq (.seq (.reg [.s (.mv 74 (.t 14)), .s (.bin 75 .lss (.t 74) (.k (.v (.c (.int .i64 0)))))]) (.cond (.t 75) (.seq (.reg [.s (.mv 6 (.k (.v (.c .ff))))]) (.ret)) (.skip))) (.seq (.seq (.reg [.s (.mv 76 (.t 14)), .s (.mv 77 (.t 13)), .s (.bin 78 .neq (.t 76) (.t 77))]) (.cond (.t 78) (.seq (.reg [.s (.mv 6 (.k (.v (.c .ff))))]) (.ret)) (.skip))) (.seq (.rgd [.s (.mv 79 (.t 0)), .s (.call (some 80) 8 [(.t 79)]), .s (.load 81 true 10 (.t 4)), .s (.call (some 82) 9 [(.t 81)]), .s (.mv 83 (.t 2)), .s (.call (some 84) 10 [(.t 80), (.t 82), (.t 83)]), .s (.mv 15 (.t 84))] (.tk 0 (.tk 2 (.tk 4 (.one 1 false (.one 3 true (.one 5 true (.tk 6 (.done none))))))))) (.seq (.seq (.reg [.s (.mv 85 (.t 15)), .s (.mv 86 (.t 8)), .s (.call (some 87) 11 [(.t 85), (.t 86)]), .s (.bnot 88 (.t 87))]) (.cond (.t 88) (.seq (.reg [.s (.mv 6 (.k (.v (.c .ff))))]) (.ret)) (.skip))) (.seq (.reg [.s (.mv 14 (.k (.v (.c (.int .i64 1)))))]) (.seq (.reg [.s (.mv 89 (.t 11)), .s (.mv 90 (.t 14)), .s (.call (some 91) 17 [(.t 89), (.t 90)]), .s (.mv 14 (.t 91))]) (.seq (.seq (.reg [.s (.mv 92 (.t 14)), .s (.bin 93 .lss (.t 92) (.k (.v (.c (.int .i64 0)))))]) (.cond (.t 93) (.seq (.reg [.s (.mv 6 (.k (.v (.c .ff))))]) (.ret)) (.skip))) (.seq (.seq (.reg [.s (.mv 94 (.t 14)), .s (.mv 95 (.t 13)), .s (.bin 96 .neq (.t 94) (.t 95))]) (.cond (.t 96) (.seq (.reg [.s (.mv 6 (.k (.v (.c .ff))))]) (.ret)) (.skip))) (.seq (.reg [.s (.mv 6 (.k (.v (.c .tt))))]) (.ret))))))))))))))))))))))))))))))⟩
def c_laws_FnExactSeenRun : Fun := ⟨3, [], fun ts K => as3 ts fun t0 t1 t2 => arC (pL .inst) t0 fun l => arG pStateT t1 fun s => arC (pI .i64) t2 fun n => chk (l.length ≤ 9223372036854775807 ∧ LState s 9223372036854775807) (K (tB true) [])⟩
theorem run_laws_FnExactSeenRun (l : List (FT.Ty .inst)) (s : State) (n : Int) (hpre : l.length ≤ 9223372036854775807 ∧ LState s 9223372036854775807) : runK [c_laws_szInsS, c_laws_szState, c_spec_SeenRun, c_laws_toInsS, c_laws_toState, c_impl_SeenRun, c_laws_eqSeenS, c_laws_eqInsS, c_laws_eqState, c_laws_markInsS, c_laws_markState, c_laws_markSeenS, c_laws_heldSeenS] (0) [] pf_laws_FnExactSeenRun [tL false .inst l, tG (s.tc false []), tI .i64 n] fun r o => r = tB true ∧ o = [] := by
  obtain ⟨p1, p2⟩ := hpre
  conv => whnf
  refine chk_i ⟨p1, by omega, by omega⟩ ?_
  conv => whnf
  refine sel_i (fun h => ?_) (fun h => ?_)
  · conv => whnf
    exact ⟨rfl, rfl⟩
  have h0 := szr_le (n := l.length) (show (0:Int) ≤ 1048576 by decide)
  have h : 0 ≤ szr 1048576 l.length := by simpa using h
  have hn := szr_n h
  conv => whnf
  refine chk_i ⟨p2, h, h0⟩ ?_
  conv => whnf
  refine sel_i (fun h => ?_) (fun h => ?_)
  · conv => whnf
    exact ⟨rfl, rfl⟩
  have hz : LState s 1048576 := szState_n h0 (by simpa [etaKey, etaWord, etaMemory, etaState] using h)
  clear h
  have l1 : l.length ≤ 2147483647 := by omega
  have l2 : LState s 2147483647 := hz.mono (by decide)
  have hl := seenRun_len l s n
  have l3 : (seenRun l s n).length ≤ 2147483647 := by omega
  have hz3 : SzState s := ⟨l2.1, l2.2.1, l2.2.2⟩
  have he := endState_le s (1 + 5 * l.length) hz3
  have hq : 0 ≤ 1 + 5 * (l.length : Int) ∧ 1 + 5 * (l.length : Int) ≤ 281474976710656 ∧ SzState s := ⟨by omega, by omega, hz3⟩
  clear p1 p2 h0 hn hz
  conv => whnf
  repeat' (first | (refine sel_i (fun h => ?_) (fun h => ?_) <;> conv => whnf) | (refine chk_c ?_ ?_ <;> conv => whnf) | (refine And.intro ?_ rfl) | (refine And.intro ?_ ?_ <;> conv => whnf))
  all_goals (try simp only [mkSeenS_length, etaSeen] at *)
  all_goals (try simp only [etaKey, etaWord, etaInst, etaSpan, mkInsS_length, mkByteS_length, etaMemory, etaSide, etaTwo, etaState, etaHeap, etaMState, mkWordS_length, mkBoolS_length, mkSpanS_length, mkIntS_length, mark_markMemory, end_markMemory, mark_markHeap, end_markHeap, mark_markState, end_markState, mark_markTwo, end_markTwo, hres_true] at *)
  all_goals first
    | (refine ⟨?_⟩; assumption)
    | (refine ⟨?_⟩; exact ⟨by assumption, by assumption⟩)
    | (refine ⟨?_⟩; exact ⟨by assumption, by assumption, by assumption⟩)
    | (refine ⟨?_⟩; omega)
    | (refine ⟨?_⟩; exact ⟨by omega, by omega, by assumption⟩)
    | rfl
    | trivial
    | (refine ⟨?_⟩; simp [markMemory, markHeap, markSide, markTwo, markState, mkInsS_length, mkByteS_length, mkWordS_length, mkBoolS_length, mkSpanS_length, mkIntS_length]; done)
    | (exfalso; simp [hres_true] at *; done)
    | (exfalso; simp [hres_true] at *; omega)
    | trace_state
theorem ok_laws_FnExactSeenRun : FunOk Tryz.prog c_laws_FnExactSeenRun := funOk (E := [c_laws_szInsS, c_laws_szState, c_spec_SeenRun, c_laws_toInsS, c_laws_toState, c_impl_SeenRun, c_laws_eqSeenS, c_laws_eqInsS, c_laws_eqState, c_laws_markInsS, c_laws_markState, c_laws_markSeenS, c_laws_heldSeenS]) (envOk_cons ok_laws_szInsS (envOk_cons ok_laws_szState (envOk_cons ok_spec_SeenRun (envOk_cons ok_laws_toInsS (envOk_cons ok_laws_toState (envOk_cons ok_impl_SeenRun (envOk_cons ok_laws_eqSeenS (envOk_cons ok_laws_eqInsS (envOk_cons ok_laws_eqState (envOk_cons ok_laws_markInsS (envOk_cons ok_laws_markState (envOk_cons ok_laws_markSeenS (envOk_cons ok_laws_heldSeenS (envOk_nil)))))))))))))) mixd Tryz.func3 (pf := pf_laws_FnExactSeenRun) (by kernel_rfl) fun ts K h => by
  obtain ⟨t0, t1, t2, e0, h⟩ := as3_out h
  subst e0
  obtain ⟨l, e1, hq⟩ := arC_out (rd_l .inst) h
  clear h
  subst e1
  have h := hq
  clear hq
  obtain ⟨s, e1, hq⟩ := arG_out rd_state h
  clear h
  subst e1
  have h := hq
  clear hq
  obtain ⟨n, e1, hq⟩ := arC_out (rd_int .i64) h
  clear h
  subst e1
  have h := hq
  clear hq
  obtain ⟨hpre, h⟩ := chk_o h
  exact ⟨_, _, h, Nat.le_of_ble_eq_true (show Nat.ble 3 Tryz.f3.ntmps = true by kernel_rfl), _, run_laws_FnExactSeenRun l s n hpre⟩

end Go.Pi
namespace Go.Proofs.YthkhmkdkgjdjhaaGreat
open Go.Pi
theorem fnExactSeenRun_lifted (os : Os) (started : os.Started) (H : Type) (enc : TypeId × Value → H) :
    ReturnsInHanded {} Tryz.checked os 3 .any (Rows.fnExactSeenRunSpec.pre6 enc Tryz.prog Tryz.f3 Rows.fnExactSeenRunRow.domain false) (Rows.fnExactSeenRunSpec.post enc Tryz.prog Tryz.f3 false true false false) :=
  lifted (C := Tryz.checked) (E := [c_laws_szInsS, c_laws_szState, c_spec_SeenRun, c_laws_toInsS, c_laws_toState, c_impl_SeenRun, c_laws_eqSeenS, c_laws_eqInsS, c_laws_eqState, c_laws_markInsS, c_laws_markState, c_laws_markSeenS, c_laws_heldSeenS]) (fuel := _) (pf := pf_laws_FnExactSeenRun) (shs := [(false, [.sl .inst]), (true, ckState), (false, [.int .i64])]) (tb := 4) (by kernel_rfl) started (by kernel_rfl) Tryz.func3
    (ChangeSpec.witness6 (enc := enc) (C := Tryz.checked) false ⟨#[], #[.slice none 0 0, .agg #[.slice none 0 0, .int .i64 0, .bool false, .int .i64 0, .int .i64 0, .int .i64 0, .int .i64 0, .slice none 0 0, .slice none 0 0, .int .i64 0], .int .i64 0], []⟩ 12 (by kernel_rfl) (by kernel_rfl) (by kernel_rfl) (by kernel_rfl))
    mixd (envOk_cons ok_laws_szInsS (envOk_cons ok_laws_szState (envOk_cons ok_spec_SeenRun (envOk_cons ok_laws_toInsS (envOk_cons ok_laws_toState (envOk_cons ok_impl_SeenRun (envOk_cons ok_laws_eqSeenS (envOk_cons ok_laws_eqInsS (envOk_cons ok_laws_eqState (envOk_cons ok_laws_markInsS (envOk_cons ok_laws_markState (envOk_cons ok_laws_markSeenS (envOk_cons ok_laws_heldSeenS (envOk_nil)))))))))))))) (by kernel_rfl) (by kernel_rfl) (by kernel_rfl) rfl (by kernel_rfl) rfl
    (fun ds h => by
      obtain _ | ⟨d0, ds⟩ := ds
      · simp at h
      obtain _ | ⟨d1, ds⟩ := ds
      · simp at h
      obtain _ | ⟨d2, ds⟩ := ds
      · simp at h
      obtain _ | ⟨x, ds⟩ := ds
      · rfl
      · simp at h)
    (fun ain h0 => by
      obtain ⟨T0, ain0, e, k0, h1⟩ := areCons h0
      subst e
      obtain ⟨T1, ain1, e, k1, h2⟩ := areCons h1
      subst e
      obtain ⟨T2, ain2, e, k2, h3⟩ := areCons h2
      subst e
      have e := areNil h3
      subst e
      obtain ⟨l, e, w0⟩ := isL k0
      subst e
      obtain ⟨s, e, w1⟩ := areG ut_state k1
      subst e
      obtain ⟨n, e, w2⟩ := isN k2
      subst e
      exact run_laws_FnExactSeenRun l s n (⟨w0.2, lState_of w1⟩))
theorem fnExactSeenRun_over : Rows.fnExactSeenRunRow.holds Tryz.pinned (OpenSpec.ofChange Rows.fnExactSeenRunSpec) :=
  OpenClaim.holds_of_wide 3 Tryz.f3 rfl rfl rfl rfl rfl rfl rfl ⟨rfl, rfl, rfl, rfl, rfl⟩ rfl rfl rfl rfl rfl (by kernel_rfl) Tryz.func3 (by kernel_rfl)
    (of_decide_eq_true (by kernel_rfl)) (by unfold Func.isWrapper; first | (rw [if_pos (by decide +kernel)]; kernel_rfl) | (rw [if_neg (by decide +kernel)]; exact ⟨rfl, rfl⟩))
    (fun os started H enc _ => fnExactSeenRun_lifted os started H enc)
theorem fnExactSeenRun_holds : Rows.FnExactSeenRunSaid := fnExactSeenRun_over
#print axioms fnExactSeenRun_holds
end Go.Proofs.YthkhmkdkgjdjhaaGreat
