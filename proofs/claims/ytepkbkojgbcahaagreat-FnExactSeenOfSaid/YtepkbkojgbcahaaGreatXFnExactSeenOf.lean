/- FnExactSeenOf: the given statement holds, out of the law's run by PI. No conditions. -/
import Derived.Test.YtepkbkojgbcahaaGreatC6
namespace Go.Pi
open Go.Proofs
set_option linter.unusedVariables false
set_option linter.unusedSimpArgs false
set_option maxRecDepth 100000
attribute [local irreducible] iterN
def pf_laws_FnExactSeenOf : PF := ⟨[.t 4], .seq (.reg [.s (.box 3 (.t 1)), .s (.mv 4 (.k (.v (.c .ff))))]) (.seq (.reg [.s (.mv 5 (.k (.v (.c (.int .i64 1048576)))))]) (.seq (.reg [.s (.mv 12 (.t 0)), .s (.mv 13 (.t 5)), .s (.call (some 14) 6 [(.t 12), (.t 13)]), .s (.mv 5 (.t 14))]) (.seq (.seq (.reg [.s (.mv 15 (.t 5)), .s (.bin 16 .lss (.t 15) (.k (.v (.c (.int .i64 0)))))]) (.cond (.t 16) (.seq (.reg [.s (.mv 4 (.k (.v (.c .tt))))]) (.ret)) (.skip))) (.seq (.reg [.s (.load 17 true 10 (.t 3)), .s (.mv 18 (.t 5)), .s (.call (some 19) 7 [(.t 17), (.t 18)]), .s (.mv 5 (.t 19))]) (.seq (.seq (.reg [.s (.mv 20 (.t 5)), .s (.bin 21 .lss (.t 20) (.k (.v (.c (.int .i64 0)))))]) (.cond (.t 21) (.seq (.reg [.s (.mv 4 (.k (.v (.c .tt))))]) (.ret)) (.skip))) (.seq (.rgd [.s (.mv 23 (.t 0)), .s (.call (some 24) 9 [(.t 23)]), .s (.load 25 true 10 (.t 3)), .s (.call (some 26) 10 [(.t 25)]), .s (.call (some 27) 8 [(.t 24), (.t 26)]), .s (.mv 22 (.t 27)), .s (.ext 28 (.t 22) 0), .s (.ext 29 (.t 22) 1), .s (.alloc 6 [.int .i64 0, .int .i64 0, .int .i64 0, .int .i64 0]), .s (.store 4 (.t 6) (.t 28)), .s (.mv 7 (.t 29))] (.tk 0 (.tk 2 (.alt 1 false (.alt 3 false (.alt 4 false (.tk 5 (.tk 6 (.tk 7 (.one 8 false (.one 9 true (.tk 10 (.done (some [0, 3, 6, 7])))))))) (.alt 8 false (.one 4 true (.tk 5 (.tk 6 (.tk 7 (.one 9 true (.tk 10 (.done (some [0, 3, 6, 7])))))))) (.nil))) (.alt 8 false (.one 3 true (.one 4 true (.tk 5 (.tk 6 (.tk 7 (.one 9 true (.tk 10 (.done (some [0, 3, 6, 7]))))))))) (.nil))) (.alt 8 false (.one 1 false (.one 3 true (.one 4 true (.tk 5 (.tk 6 (.tk 7 (.one 9 true (.tk 10 (.done (some [0, 3, 6, 7])))))))))) (.nil)))))) (.seq (.reg [.s (.mv 30 (.t 0)), .s (.call (some 31) 9 [(.t 30)]), .s (.mv 8 (.t 31))]) (.seq (.reg [.s (.load 32 true 10 (.t 3)), .s (.call (some 33) 10 [(.t 32)]), .s (.alloc 9 [.nils .word, .int .i64 0, .ff, .int .i64 0, .int .i64 0, .int .i64 0, .int .i64 0, .nils .word, .nils .bool, .int .i64 0]), .s (.store 10 (.t 9) (.t 33))]) (.seq (.reg [.s (.mv 35 (.t 8)), .s (.load 36 true 10 (.t 9)), .s (.call (some 37) 11 [(.t 35), (.t 36)]), .s (.mv 34 (.t 37)), .s (.ext 38 (.t 34) 0), .s (.ext 39 (.t 34) 1), .s (.alloc 10 [.int .i64 0, .int .i64 0, .int .i64 0, .int .i64 0]), .s (.store 4 (.t 10) (.t 38)), .s (.mv 11 (.t 39))]) (.seq (.seq (.reg [.s (.load 40 true 4 (.t 10)), .s (.load 41 true 4 (.t 6)), .s (.call (some 42) 12 [(.t 40), (.t 41)]), .s (.bnot 43 (.t 42)), .s (.mv 44 (.t 43)), .g 44 false (some 45) (.mv 45 (.t 11)), .g 44 false (some 46) (.mv 46 (.t 7)), .g 44 false (some 47) (.eqs 47 false [.b] true (.t 45) (.t 46)), .s (.pick 48 (.t 44) (.k (.v (.c .tt))) (.t 47))]) (.cond (.t 48) (.seq (.reg [.s (.mv 4 (.k (.v (.c .ff))))]) (.ret)) (.skip))) (.seq (.seq (.reg [.s (.mv 49 (.t 8)), .s (.mv 50 (.t 0)), .s (.call (some 51) 9 [(.t 50)]), .s (.call (some 52) 13 [(.t 49), (.t 51)]), .s (.bnot 53 (.t 52))]) (.cond (.t 53) (.seq (.reg [.s (.mv 4 (.k (.v (.c .ff))))]) (.ret)) (.skip))) (.seq (.seq (.rgd [.s (.load 54 true 10 (.t 9)), .s (.load 55 true 10 (.t 3)), .s (.call (some 56) 10 [(.t 55)]), .s (.call (some 57) 14 [(.t 54), (.t 56)]), .s (.bnot 58 (.t 57))] (.tk 0 (.tk 1 (.one 2 false (.one 3 true (.tk 4 (.done none))))))) (.cond (.t 58) (.seq (.reg [.s (.mv 4 (.k (.v (.c .ff))))]) (.ret)) (.skip))) (.seq (.reg [.s (.mv 4 (.k (.v (.c .tt))))]) (.ret))))))))))))))⟩
def c_laws_FnExactSeenOf : Fun := ⟨3, [], fun ts K => as2 ts fun t0 t1 => arC (pL .inst) t0 fun l => arG pStateT t1 fun s => chk (l.length ≤ 9223372036854775807 ∧ LState s 9223372036854775807) (K (tB true) [])⟩
theorem run_laws_FnExactSeenOf (l : List (FT.Ty .inst)) (s : State) (hpre : l.length ≤ 9223372036854775807 ∧ LState s 9223372036854775807) : runK [c_laws_szInsS, c_laws_szState, c_spec_SeenOf, c_laws_toInsS, c_laws_toState, c_impl_SeenOf, c_laws_eqSeen, c_laws_eqInsS, c_laws_eqState] (0) [] pf_laws_FnExactSeenOf [tL false .inst l, tG (s.tc false [])] fun r o => r = tB true ∧ o = [] := by
  obtain ⟨p1, p2⟩ := hpre
  conv => whnf
  refine chk_i ⟨p1, by omega, by omega⟩ ?_
  conv => whnf
  refine sel_i (fun h => ?_) (fun h => ?_)
  · conv => whnf
    exact ⟨rfl, rfl⟩
  have h0 := szr_le (n := l.length) (show (0:Int) ≤ 1048576 by decide)
  have h : 0 ≤ szr 1048576 l.length := by simpa using h
  have hn := szr_n h
  conv => whnf
  refine chk_i ⟨p2, h, h0⟩ ?_
  conv => whnf
  refine sel_i (fun h => ?_) (fun h => ?_)
  · conv => whnf
    exact ⟨rfl, rfl⟩
  have hz : LState s 1048576 := szState_n h0 (by simpa [etaKey, etaWord, etaMemory, etaState] using h)
  clear h
  have l1 : l.length ≤ 2147483647 := by omega
  have l2 : LState s 2147483647 := hz.mono (by decide)
  conv => whnf
  repeat' (first | (refine sel_i (fun h => ?_) (fun h => ?_) <;> conv => whnf) | (refine chk_c ?_ ?_ <;> conv => whnf) | (refine And.intro ?_ rfl) | (refine And.intro ?_ ?_ <;> conv => whnf))
  all_goals first
    | (refine ⟨?_⟩; assumption)
    | (refine ⟨?_⟩; exact ⟨l1, l2⟩)
    | trivial
    | rfl
    | (exfalso; simp only [etaKey, etaWord, etaMemory, etaState] at *; simp at *; done)
    | trace_state
theorem ok_laws_FnExactSeenOf : FunOk Tryz.prog c_laws_FnExactSeenOf := funOk (E := [c_laws_szInsS, c_laws_szState, c_spec_SeenOf, c_laws_toInsS, c_laws_toState, c_impl_SeenOf, c_laws_eqSeen, c_laws_eqInsS, c_laws_eqState]) (envOk_cons ok_laws_szInsS (envOk_cons ok_laws_szState (envOk_cons ok_spec_SeenOf (envOk_cons ok_laws_toInsS (envOk_cons ok_laws_toState (envOk_cons ok_impl_SeenOf (envOk_cons ok_laws_eqSeen (envOk_cons ok_laws_eqInsS (envOk_cons ok_laws_eqState (envOk_nil)))))))))) mixd Tryz.func3 (pf := pf_laws_FnExactSeenOf) (by kernel_rfl) fun ts K h => by
  obtain ⟨t0, t1, e0, h⟩ := as2_out h
  subst e0
  obtain ⟨l, e1, hq⟩ := arC_out (rd_l .inst) h
  clear h
  subst e1
  have h := hq
  clear hq
  obtain ⟨s, e1, hq⟩ := arG_out rd_state h
  clear h
  subst e1
  have h := hq
  clear hq
  obtain ⟨hpre, h⟩ := chk_o h
  exact ⟨_, _, h, Nat.le_of_ble_eq_true (show Nat.ble 2 Tryz.f3.ntmps = true by kernel_rfl), _, run_laws_FnExactSeenOf l s hpre⟩

end Go.Pi
namespace Go.Proofs.YtepkbkojgbcahaaGreat
open Go.Pi
theorem fnExactSeenOf_lifted (os : Os) (started : os.Started) (H : Type) (enc : TypeId × Value → H) :
    ReturnsInHanded {} Tryz.checked os 3 .any (Rows.fnExactSeenOfSpec.pre6 enc Tryz.prog Tryz.f3 Rows.fnExactSeenOfRow.domain false) (Rows.fnExactSeenOfSpec.post enc Tryz.prog Tryz.f3 false true false false) :=
  lifted (C := Tryz.checked) (E := [c_laws_szInsS, c_laws_szState, c_spec_SeenOf, c_laws_toInsS, c_laws_toState, c_impl_SeenOf, c_laws_eqSeen, c_laws_eqInsS, c_laws_eqState]) (fuel := _) (pf := pf_laws_FnExactSeenOf) (shs := [(false, [.sl .inst]), (true, ckState)]) (tb := 4) (by kernel_rfl) started (by kernel_rfl) Tryz.func3
    (ChangeSpec.witness6 (enc := enc) (C := Tryz.checked) false ⟨#[], #[.slice none 0 0, .agg #[.slice none 0 0, .int .i64 0, .bool false, .int .i64 0, .int .i64 0, .int .i64 0, .int .i64 0, .slice none 0 0, .slice none 0 0, .int .i64 0]], []⟩ 12 (by kernel_rfl) (by kernel_rfl) (by kernel_rfl) (by kernel_rfl))
    mixd (envOk_cons ok_laws_szInsS (envOk_cons ok_laws_szState (envOk_cons ok_spec_SeenOf (envOk_cons ok_laws_toInsS (envOk_cons ok_laws_toState (envOk_cons ok_impl_SeenOf (envOk_cons ok_laws_eqSeen (envOk_cons ok_laws_eqInsS (envOk_cons ok_laws_eqState (envOk_nil)))))))))) (by kernel_rfl) (by kernel_rfl) (by kernel_rfl) rfl (by kernel_rfl) rfl
    (fun ds h => by
      obtain _ | ⟨d0, ds⟩ := ds
      · simp at h
      obtain _ | ⟨d1, ds⟩ := ds
      · simp at h
      obtain _ | ⟨x, ds⟩ := ds
      · rfl
      · simp at h)
    (fun ain h0 => by
      obtain ⟨T0, ain0, e, k0, h1⟩ := areCons h0
      subst e
      obtain ⟨T1, ain1, e, k1, h2⟩ := areCons h1
      subst e
      have e := areNil h2
      subst e
      obtain ⟨l, e, w0⟩ := isL k0
      subst e
      obtain ⟨s, e, w1⟩ := areG ut_state k1
      subst e
      exact run_laws_FnExactSeenOf l s (⟨w0.2, lState_of w1⟩))
theorem fnExactSeenOf_over : Rows.fnExactSeenOfRow.holds Tryz.pinned (OpenSpec.ofChange Rows.fnExactSeenOfSpec) :=
  OpenClaim.holds_of_wide 3 Tryz.f3 rfl rfl rfl rfl rfl rfl rfl ⟨rfl, rfl, rfl, rfl, rfl⟩ rfl rfl rfl rfl rfl (by kernel_rfl) Tryz.func3 (by kernel_rfl)
    (of_decide_eq_true (by kernel_rfl)) (by unfold Func.isWrapper; first | (rw [if_pos (by decide +kernel)]; kernel_rfl) | (rw [if_neg (by decide +kernel)]; exact ⟨rfl, rfl⟩))
    (fun os started H enc _ => fnExactSeenOf_lifted os started H enc)
theorem fnExactSeenOf_holds : Rows.FnExactSeenOfSaid := fnExactSeenOf_over
#print axioms fnExactSeenOf_holds
end Go.Proofs.YtepkbkojgbcahaaGreat
