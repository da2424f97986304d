/- FnExactCostOf: the given statement holds, out of the law's run by PI. No conditions. -/
import Derived.Test.YtojoiikibimomaaGreatC9
namespace Go.Pi
open Go.Proofs
set_option linter.unusedVariables false
set_option linter.unusedSimpArgs false
set_option maxRecDepth 100000
attribute [local irreducible] iterN
def pf_laws_FnExactCostOf : PF := ⟨[.t 6], .seq (.reg [.s (.box 4 (.t 1)), .s (.mv 6 (.k (.v (.c .ff))))]) (.seq (.reg [.s (.mv 7 (.k (.v (.c (.int .i64 1048576)))))]) (.seq (.reg [.s (.mv 15 (.t 0)), .s (.mv 16 (.t 7)), .s (.call (some 17) 29 [(.t 15), (.t 16)]), .s (.mv 7 (.t 17))]) (.seq (.seq (.reg [.s (.mv 18 (.t 7)), .s (.bin 19 .lss (.t 18) (.k (.v (.c (.int .i64 0)))))]) (.cond (.t 19) (.seq (.reg [.s (.mv 6 (.k (.v (.c .tt))))]) (.ret)) (.skip))) (.seq (.reg [.s (.load 20 true 10 (.t 4)), .s (.mv 21 (.t 7)), .s (.call (some 22) 30 [(.t 20), (.t 21)]), .s (.mv 7 (.t 22))]) (.seq (.seq (.reg [.s (.mv 23 (.t 7)), .s (.bin 24 .lss (.t 23) (.k (.v (.c (.int .i64 0)))))]) (.cond (.t 24) (.seq (.reg [.s (.mv 6 (.k (.v (.c .tt))))]) (.ret)) (.skip))) (.seq (.reg [.s (.mv 25 (.t 2)), .s (.mv 26 (.t 7)), .s (.call (some 27) 31 [(.t 25), (.t 26)]), .s (.mv 7 (.t 27))]) (.seq (.seq (.reg [.s (.mv 28 (.t 7)), .s (.bin 29 .lss (.t 28) (.k (.v (.c (.int .i64 0)))))]) (.cond (.t 29) (.seq (.reg [.s (.mv 6 (.k (.v (.c .tt))))]) (.ret)) (.skip))) (.seq (.rgd [] [.s (.mv 31 (.t 0)), .s (.call (some 32) 33 [(.t 31)]), .s (.load 33 true 10 (.t 4)), .s (.call (some 34) 34 [(.t 33)]), .s (.mv 35 (.t 2)), .s (.call (some 36) 35 [(.t 35)]), .s (.call (some 37) 32 [(.t 32), (.t 34), (.t 36)]), .s (.mv 30 (.t 37)), .s (.ext 38 (.t 30) 0), .s (.ext 39 (.t 30) 1), .s (.alloc 8 [.int .i64 0, .int .i64 0, .int .i64 0, .int .i64 0, .int .i64 0]), .s (.store 5 (.t 8) (.t 38)), .s (.mv 9 (.t 39))] (.tk 0 (.tk 2 (.tk 4 (.alt 1 false (.alt 3 false (.alt 5 false (.alt 6 false (.tk 7 (.tk 8 (.tk 9 (.one 10 false (.one 11 true (.tk 12 (.done (some [0, 2, 4, 8, 9])))))))) (.alt 10 false (.one 6 true (.tk 7 (.tk 8 (.tk 9 (.one 11 true (.tk 12 (.done (some [0, 2, 4, 8, 9])))))))) (.nil))) (.alt 10 false (.one 5 true (.one 6 true (.tk 7 (.tk 8 (.tk 9 (.one 11 true (.tk 12 (.done (some [0, 2, 4, 8, 9]))))))))) (.nil))) (.alt 10 false (.one 3 true (.one 5 true (.one 6 true (.tk 7 (.tk 8 (.tk 9 (.one 11 true (.tk 12 (.done (some [0, 2, 4, 8, 9])))))))))) (.nil))) (.alt 10 false (.one 1 false (.one 3 true (.one 5 true (.one 6 true (.tk 7 (.tk 8 (.tk 9 (.one 11 true (.tk 12 (.done (some [0, 2, 4, 8, 9]))))))))))) (.nil))))))) (.seq (.reg [.s (.mv 40 (.t 0)), .s (.call (some 41) 33 [(.t 40)]), .s (.mv 10 (.t 41))]) (.seq (.reg [.s (.load 42 true 10 (.t 4)), .s (.call (some 43) 34 [(.t 42)]), .s (.alloc 11 [.nils .word, .int .i64 0, .ff, .int .i64 0, .int .i64 0, .int .i64 0, .int .i64 0, .nils .word, .nils .bool, .int .i64 0]), .s (.store 10 (.t 11) (.t 43))]) (.seq (.reg [.s (.mv 44 (.t 2)), .s (.call (some 45) 35 [(.t 44)]), .s (.mv 12 (.t 45))]) (.seq (.reg [.s (.mv 47 (.t 10)), .s (.load 48 true 10 (.t 11)), .s (.mv 49 (.t 12)), .s (.call (some 50) 21 [(.t 47), (.t 48), (.t 49)]), .s (.mv 46 (.t 50)), .s (.ext 51 (.t 46) 0), .s (.ext 52 (.t 46) 1), .s (.alloc 13 [.int .i64 0, .int .i64 0, .int .i64 0, .int .i64 0, .int .i64 0]), .s (.store 5 (.t 13) (.t 51)), .s (.mv 14 (.t 52))]) (.seq (.seq (.reg [.s (.load 53 true 5 (.t 13)), .s (.load 54 true 5 (.t 8)), .s (.call (some 55) 36 [(.t 53), (.t 54)]), .s (.bnot 56 (.t 55)), .s (.mv 57 (.t 56)), .g 57 false (some 58) (.mv 58 (.t 14)), .g 57 false (some 59) (.mv 59 (.t 9)), .g 57 false (some 60) (.eqs 60 false [.b] true (.t 58) (.t 59)), .s (.pick 61 (.t 57) (.k (.v (.c .tt))) (.t 60))]) (.cond (.t 61) (.seq (.reg [.s (.mv 6 (.k (.v (.c .ff))))]) (.ret)) (.skip))) (.seq (.seq (.reg [.s (.mv 62 (.t 10)), .s (.mv 63 (.t 0)), .s (.call (some 64) 33 [(.t 63)]), .s (.call (some 65) 37 [(.t 62), (.t 64)]), .s (.bnot 66 (.t 65))]) (.cond (.t 66) (.seq (.reg [.s (.mv 6 (.k (.v (.c .ff))))]) (.ret)) (.skip))) (.seq (.seq (.rgd [] [.s (.load 67 true 10 (.t 11)), .s (.load 68 true 10 (.t 4)), .s (.call (some 69) 34 [(.t 68)]), .s (.call (some 70) 38 [(.t 67), (.t 69)]), .s (.bnot 71 (.t 70))] (.tk 0 (.tk 1 (.one 2 false (.one 3 true (.tk 4 (.done none))))))) (.cond (.t 71) (.seq (.reg [.s (.mv 6 (.k (.v (.c .ff))))]) (.ret)) (.skip))) (.seq (.seq (.reg [.s (.mv 72 (.t 12)), .s (.mv 73 (.t 2)), .s (.call (some 74) 35 [(.t 73)]), .s (.call (some 75) 39 [(.t 72), (.t 74)]), .s (.bnot 76 (.t 75))]) (.cond (.t 76) (.seq (.reg [.s (.mv 6 (.k (.v (.c .ff))))]) (.ret)) (.skip))) (.seq (.reg [.s (.mv 6 (.k (.v (.c .tt))))]) (.ret))))))))))))))))))⟩
def c_laws_FnExactCostOf : Fun := ⟨6, [], fun ts K => as3 ts fun t0 t1 t2 => arC (pL .inst) t0 fun l => arG pStateT t1 fun s => arC (pL .pick) t2 fun ps => chk (l.length ≤ 9223372036854775807 ∧ LState s 9223372036854775807 ∧ ps.length ≤ 9223372036854775807) (K (tB true) [])⟩
theorem run_laws_FnExactCostOf (l : List (FT.Ty .inst)) (s : State) (ps : List (FT.Ty .pick)) (hpre : l.length ≤ 9223372036854775807 ∧ LState s 9223372036854775807 ∧ ps.length ≤ 9223372036854775807) : runK [c_impl_CostOf, c_laws_szInsS, c_laws_szState, c_laws_szPickS, c_spec_CostOf, c_laws_toInsS, c_laws_toState, c_laws_toPickS, c_laws_eqCost, c_laws_eqInsS, c_laws_eqState, c_laws_eqPickS] (0) [] pf_laws_FnExactCostOf [tL false .inst l, tG (s.tc false []), tL false .pick ps] fun r o => r = tB true ∧ o = [] := by
  obtain ⟨p1, p2, p3⟩ := hpre
  conv => whnf
  refine chk_i ⟨p1, by omega, by omega⟩ ?_
  conv => whnf
  refine sel_i (fun h => ?_) (fun h => ?_)
  · conv => whnf
    exact ⟨rfl, rfl⟩
  have h0 := szr_le (n := l.length) (show (0:Int) ≤ 1048576 by decide)
  have h : 0 ≤ szr 1048576 l.length := by simpa using h
  have hn := szr_n h
  conv => whnf
  refine chk_i ⟨p2, h, h0⟩ ?_
  conv => whnf
  refine sel_i (fun h => ?_) (fun h => ?_)
  · conv => whnf
    exact ⟨rfl, rfl⟩
  have hq0 : 0 ≤ szState s (szr 1048576 l.length) := by simpa [etaKey, etaWord, etaMemory, etaState] using h
  have hz : LState s 1048576 := szState_n h0 hq0
  have hle := szState_le (s := s) h0
  clear h
  simp only [etaKey, etaWord, etaMemory, etaState]
  conv => whnf
  refine chk_i ⟨p3, by omega, by omega⟩ ?_
  conv => whnf
  refine sel_i (fun h => ?_) (fun h => ?_)
  · conv => whnf
    exact ⟨rfl, rfl⟩
  have h : 0 ≤ szr (szState s (szr 1048576 l.length)) ps.length := by simpa [etaKey, etaWord, etaMemory, etaState] using h
  have hn2 := szr_n h
  clear h
  have l1 : l.length ≤ 2147483647 := by omega
  have l2 : LState s 2147483647 := hz.mono (by decide)
  have l3 : ps.length ≤ 2147483647 := by omega
  clear p1 p2 p3
  conv => whnf
  repeat' (first | (refine sel_i (fun h => ?_) (fun h => ?_) <;> conv => whnf) | (refine chk_c ?_ ?_ <;> conv => whnf) | (refine And.intro ?_ rfl) | (refine And.intro ?_ ?_ <;> conv => whnf))
  all_goals (try simp only [etaPick, etaCost] at *)
  all_goals (try trivial)
  all_goals (try simp only [etaKey, etaWord, etaInst, etaSpan, mkInsS_length, mkByteS_length, etaMemory, etaSide, etaTwo, etaState, etaHeap, etaMState, mkWordS_length, mkBoolS_length, mkSpanS_length, mkIntS_length, mark_markMemory, end_markMemory, mark_markHeap, end_markHeap, mark_markState, end_markState, mark_markTwo, end_markTwo, hres_true] at *)
  all_goals first
    | (refine ⟨?_⟩; assumption)
    | (refine ⟨?_⟩; exact ⟨by assumption, by assumption⟩)
    | (refine ⟨?_⟩; exact ⟨by assumption, by assumption, by assumption⟩)
    | (refine ⟨?_⟩; omega)
    | (refine ⟨?_⟩; exact ⟨by omega, by omega, by assumption⟩)
    | rfl
    | trivial
    | (refine ⟨?_⟩; simp [markMemory, markHeap, markSide, markTwo, markState, mkInsS_length, mkByteS_length, mkWordS_length, mkBoolS_length, mkSpanS_length, mkIntS_length]; done)
    | (exfalso; simp [hres_true] at *; done)
    | (exfalso; simp [hres_true] at *; omega)
    | trace_state
theorem ok_laws_FnExactCostOf : FunOk Tryz.prog c_laws_FnExactCostOf := funOk (E := [c_impl_CostOf, c_laws_szInsS, c_laws_szState, c_laws_szPickS, c_spec_CostOf, c_laws_toInsS, c_laws_toState, c_laws_toPickS, c_laws_eqCost, c_laws_eqInsS, c_laws_eqState, c_laws_eqPickS]) (envOk_cons ok_impl_CostOf (envOk_cons ok_laws_szInsS (envOk_cons ok_laws_szState (envOk_cons ok_laws_szPickS (envOk_cons ok_spec_CostOf (envOk_cons ok_laws_toInsS (envOk_cons ok_laws_toState (envOk_cons ok_laws_toPickS (envOk_cons ok_laws_eqCost (envOk_cons ok_laws_eqInsS (envOk_cons ok_laws_eqState (envOk_cons ok_laws_eqPickS (envOk_nil))))))))))))) mixd Tryz.func6 (pf := pf_laws_FnExactCostOf) (by kernel_rfl) fun ts K h => by
  obtain ⟨t0, t1, t2, e0, h⟩ := as3_out h
  subst e0
  obtain ⟨l, e1, hq⟩ := arC_out (rd_l .inst) h
  clear h
  subst e1
  have h := hq
  clear hq
  obtain ⟨s, e1, hq⟩ := arG_out rd_state h
  clear h
  subst e1
  have h := hq
  clear hq
  obtain ⟨ps, e1, hq⟩ := arC_out (rd_l .pick) h
  clear h
  subst e1
  have h := hq
  clear hq
  obtain ⟨hpre, h⟩ := chk_o h
  exact ⟨_, _, h, Nat.le_of_ble_eq_true (show Nat.ble 3 Tryz.f6.ntmps = true by kernel_rfl), _, run_laws_FnExactCostOf l s ps hpre⟩

end Go.Pi
namespace Go.Proofs.YtojoiikibimomaaGreat
open Go.Pi
theorem fnExactCostOf_lifted (os : Os) (started : os.Started) (H : Type) (enc : TypeId × Value → H) :
    ReturnsInHanded {} Tryz.checked os 6 .any (Rows.fnExactCostOfSpec.pre6 enc Tryz.prog Tryz.f6 Rows.fnExactCostOfRow.domain false) (Rows.fnExactCostOfSpec.post enc Tryz.prog Tryz.f6 false true false false) :=
  lifted (C := Tryz.checked) (E := [c_impl_CostOf, c_laws_szInsS, c_laws_szState, c_laws_szPickS, c_spec_CostOf, c_laws_toInsS, c_laws_toState, c_laws_toPickS, c_laws_eqCost, c_laws_eqInsS, c_laws_eqState, c_laws_eqPickS]) (fuel := _) (pf := pf_laws_FnExactCostOf) (shs := [(false, [.sl .inst]), (true, ckState), (false, [.sl .pick])]) (tb := 4) (by kernel_rfl) started (by kernel_rfl) Tryz.func6
    (ChangeSpec.witness6 (enc := enc) (C := Tryz.checked) false ⟨#[], #[.slice none 0 0, .agg #[.slice none 0 0, .int .i64 0, .bool false, .int .i64 0, .int .i64 0, .int .i64 0, .int .i64 0, .slice none 0 0, .slice none 0 0, .int .i64 0], .slice none 0 0], []⟩ 12 (by kernel_rfl) (by kernel_rfl) (by kernel_rfl) (by kernel_rfl))
    mixd (envOk_cons ok_impl_CostOf (envOk_cons ok_laws_szInsS (envOk_cons ok_laws_szState (envOk_cons ok_laws_szPickS (envOk_cons ok_spec_CostOf (envOk_cons ok_laws_toInsS (envOk_cons ok_laws_toState (envOk_cons ok_laws_toPickS (envOk_cons ok_laws_eqCost (envOk_cons ok_laws_eqInsS (envOk_cons ok_laws_eqState (envOk_cons ok_laws_eqPickS (envOk_nil))))))))))))) (by kernel_rfl) (by kernel_rfl) (by kernel_rfl) rfl (by kernel_rfl) rfl (by kernel_rfl)
    (fun ds h => by
      obtain _ | ⟨d0, ds⟩ := ds
      · simp at h
      obtain _ | ⟨d1, ds⟩ := ds
      · simp at h
      obtain _ | ⟨d2, ds⟩ := ds
      · simp at h
      obtain _ | ⟨x, ds⟩ := ds
      · rfl
      · simp at h)
    (fun ain h0 => by
      obtain ⟨T0, ain0, e, k0, h1⟩ := areCons h0
      subst e
      obtain ⟨T1, ain1, e, k1, h2⟩ := areCons h1
      subst e
      obtain ⟨T2, ain2, e, k2, h3⟩ := areCons h2
      subst e
      have e := areNil h3
      subst e
      obtain ⟨l, e, w0⟩ := isL k0
      subst e
      obtain ⟨s, e, w1⟩ := areG ut_state k1
      subst e
      obtain ⟨ps, e, w2⟩ := isL k2
      subst e
      exact run_laws_FnExactCostOf l s ps (⟨w0.2, lState_of w1, w2.2⟩))
theorem fnExactCostOf_over : Rows.fnExactCostOfRow.holds Tryz.pinned (OpenSpec.ofChange Rows.fnExactCostOfSpec) :=
  OpenClaim.holds_of_wide 6 Tryz.f6 rfl rfl rfl rfl rfl rfl rfl ⟨rfl, rfl, rfl, rfl, rfl⟩ rfl rfl rfl rfl rfl (by kernel_rfl) Tryz.func6 (by kernel_rfl)
    (of_decide_eq_true (by kernel_rfl)) (by unfold Func.isWrapper; first | (rw [if_pos (by decide +kernel)]; kernel_rfl) | (rw [if_neg (by decide +kernel)]; exact ⟨rfl, rfl⟩))
    (fun os started H enc _ => fnExactCostOf_lifted os started H enc)
theorem fnExactCostOf_holds : Rows.FnExactCostOfSaid := fnExactCostOf_over
#print axioms fnExactCostOf_holds
end Go.Proofs.YtojoiikibimomaaGreat
