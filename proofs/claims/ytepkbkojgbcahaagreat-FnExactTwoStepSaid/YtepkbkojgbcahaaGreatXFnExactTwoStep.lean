/- FnExactTwoStep: the given statement holds, out of the law's run by PI. No conditions. -/
import Derived.Test.YtepkbkojgbcahaaGreatC6
namespace Go.Pi
open Go.Proofs
set_option linter.unusedVariables false
set_option linter.unusedSimpArgs false
set_option maxRecDepth 100000
attribute [local irreducible] iterN
def pf_laws_FnExactTwoStep : PF := ⟨[.t 8], .seq (.reg [.s (.box 6 (.t 2)), .s (.mv 8 (.k (.v (.c .ff))))]) (.seq (.reg [.s (.mv 9 (.k (.v (.c (.int .i64 1048576)))))]) (.seq (.reg [.s (.mv 22 (.t 0)), .s (.mv 23 (.t 9)), .s (.call (some 24) 6 [(.t 22), (.t 23)]), .s (.mv 9 (.t 24))]) (.seq (.seq (.reg [.s (.mv 25 (.t 9)), .s (.bin 26 .lss (.t 25) (.k (.v (.c (.int .i64 0)))))]) (.cond (.t 26) (.seq (.reg [.s (.mv 8 (.k (.v (.c .tt))))]) (.ret)) (.skip))) (.seq (.reg [.s (.mv 27 (.t 1)), .s (.mv 28 (.t 9)), .s (.call (some 29) 6 [(.t 27), (.t 28)]), .s (.mv 9 (.t 29))]) (.seq (.seq (.reg [.s (.mv 30 (.t 9)), .s (.bin 31 .lss (.t 30) (.k (.v (.c (.int .i64 0)))))]) (.cond (.t 31) (.seq (.reg [.s (.mv 8 (.k (.v (.c .tt))))]) (.ret)) (.skip))) (.seq (.reg [.s (.load 32 true 18 (.t 6)), .s (.mv 33 (.t 9)), .s (.call (some 34) 15 [(.t 32), (.t 33)]), .s (.mv 9 (.t 34))]) (.seq (.seq (.reg [.s (.mv 35 (.t 9)), .s (.bin 36 .lss (.t 35) (.k (.v (.c (.int .i64 0)))))]) (.cond (.t 36) (.seq (.reg [.s (.mv 8 (.k (.v (.c .tt))))]) (.ret)) (.skip))) (.seq (.rgd [.s (.mv 38 (.t 0)), .s (.call (some 39) 9 [(.t 38)]), .s (.mv 40 (.t 1)), .s (.call (some 41) 9 [(.t 40)]), .s (.load 42 true 18 (.t 6)), .s (.call (some 43) 17 [(.t 42)]), .s (.mv 44 (.t 3)), .s (.call (some 45) 16 [(.t 39), (.t 41), (.t 43), (.t 44)]), .s (.mv 37 (.t 45)), .s (.ext 46 (.t 37) 0), .s (.ext 47 (.t 37) 1), .s (.alloc 10 [.nils .word, .nils .bool, .nils .word, .int .i64 0, .ff, .int .i64 0, .int .i64 0, .int .i64 0, .int .i64 0, .int .i64 0, .nils .word, .int .i64 0, .ff, .int .i64 0, .int .i64 0, .int .i64 0, .int .i64 0, .int .i64 0]), .s (.store 18 (.t 10) (.t 46)), .s (.mv 11 (.t 47))] (.tk 0 (.tk 2 (.tk 4 (.tk 6 (.alt 1 false (.alt 3 false (.alt 5 false (.alt 7 false (.tk 8 (.tk 9 (.tk 10 (.one 11 false (.one 12 true (.tk 13 (.done (some [0, 1, 3, 6, 10, 11])))))))) (.alt 11 false (.one 7 true (.tk 8 (.tk 9 (.tk 10 (.one 12 true (.tk 13 (.done (some [0, 1, 3, 6, 10, 11])))))))) (.nil))) (.alt 11 false (.one 5 true (.one 7 true (.tk 8 (.tk 9 (.tk 10 (.one 12 true (.tk 13 (.done (some [0, 1, 3, 6, 10, 11]))))))))) (.nil))) (.alt 11 false (.one 3 false (.one 5 true (.one 7 true (.tk 8 (.tk 9 (.tk 10 (.one 12 true (.tk 13 (.done (some [0, 1, 3, 6, 10, 11])))))))))) (.nil))) (.alt 11 false (.one 1 false (.one 3 false (.one 5 true (.one 7 true (.tk 8 (.tk 9 (.tk 10 (.one 12 true (.tk 13 (.done (some [0, 1, 3, 6, 10, 11]))))))))))) (.nil)))))))) (.seq (.reg [.s (.mv 48 (.t 0)), .s (.call (some 49) 9 [(.t 48)]), .s (.mv 12 (.t 49))]) (.seq (.reg [.s (.mv 50 (.t 1)), .s (.call (some 51) 9 [(.t 50)]), .s (.mv 13 (.t 51))]) (.seq (.reg [.s (.load 52 true 18 (.t 6)), .s (.call (some 53) 17 [(.t 52)]), .s (.alloc 14 [.nils .word, .nils .bool, .nils .word, .int .i64 0, .ff, .int .i64 0, .int .i64 0, .int .i64 0, .int .i64 0, .int .i64 0, .nils .word, .int .i64 0, .ff, .int .i64 0, .int .i64 0, .int .i64 0, .int .i64 0, .int .i64 0]), .s (.store 18 (.t 14) (.t 53))]) (.seq (.reg [.s (.mv 55 (.t 12)), .s (.mv 56 (.t 13)), .s (.load 57 true 18 (.t 14)), .s (.mv 58 (.t 3)), .s (.call (some 59) 18 [(.t 55), (.t 56), (.t 57), (.t 58)]), .s (.mv 54 (.t 59)), .s (.ext 60 (.t 54) 0), .s (.ext 61 (.t 54) 1), .s (.alloc 15 [.nils .word, .nils .bool, .nils .word, .int .i64 0, .ff, .int .i64 0, .int .i64 0, .int .i64 0, .int .i64 0, .int .i64 0, .nils .word, .int .i64 0, .ff, .int .i64 0, .int .i64 0, .int .i64 0, .int .i64 0, .int .i64 0]), .s (.store 18 (.t 15) (.t 60)), .s (.mv 16 (.t 61))]) (.seq (.seq (.reg [.s (.load 62 true 18 (.t 15)), .s (.load 63 true 18 (.t 10)), .s (.call (some 64) 19 [(.t 62), (.t 63)]), .s (.bnot 65 (.t 64)), .s (.mv 66 (.t 65)), .g 66 false (some 67) (.mv 67 (.t 16)), .g 66 false (some 68) (.mv 68 (.t 11)), .g 66 false (some 69) (.eqs 69 false [.b] true (.t 67) (.t 68)), .s (.pick 70 (.t 66) (.k (.v (.c .tt))) (.t 69))]) (.cond (.t 70) (.seq (.reg [.s (.mv 8 (.k (.v (.c .ff))))]) (.ret)) (.skip))) (.seq (.seq (.reg [.s (.mv 71 (.t 12)), .s (.mv 72 (.t 0)), .s (.call (some 73) 9 [(.t 72)]), .s (.call (some 74) 13 [(.t 71), (.t 73)]), .s (.bnot 75 (.t 74))]) (.cond (.t 75) (.seq (.reg [.s (.mv 8 (.k (.v (.c .ff))))]) (.ret)) (.skip))) (.seq (.seq (.reg [.s (.mv 76 (.t 13)), .s (.mv 77 (.t 1)), .s (.call (some 78) 9 [(.t 77)]), .s (.call (some 79) 13 [(.t 76), (.t 78)]), .s (.bnot 80 (.t 79))]) (.cond (.t 80) (.seq (.reg [.s (.mv 8 (.k (.v (.c .ff))))]) (.ret)) (.skip))) (.seq (.seq (.rgd [.s (.load 81 true 18 (.t 14)), .s (.load 82 true 18 (.t 6)), .s (.call (some 83) 17 [(.t 82)]), .s (.call (some 84) 19 [(.t 81), (.t 83)]), .s (.bnot 85 (.t 84))] (.tk 0 (.tk 1 (.one 2 false (.one 3 true (.tk 4 (.done none))))))) (.cond (.t 85) (.seq (.reg [.s (.mv 8 (.k (.v (.c .ff))))]) (.ret)) (.skip))) (.seq (.reg [.s (.mv 17 (.k (.v (.c (.int .i64 1)))))]) (.seq (.reg [.s (.mv 86 (.t 12)), .s (.mv 87 (.t 17)), .s (.call (some 88) 20 [(.t 86), (.t 87)]), .s (.mv 17 (.t 88))]) (.seq (.reg [.s (.mv 89 (.t 13)), .s (.mv 90 (.t 17)), .s (.call (some 91) 20 [(.t 89), (.t 90)]), .s (.mv 17 (.t 91))]) (.seq (.reg [.s (.load 92 true 18 (.t 14)), .s (.mv 93 (.t 17)), .s (.call (some 94) 21 [(.t 92), (.t 93)]), .s (.mv 17 (.t 94))]) (.seq (.seq (.reg [.s (.mv 95 (.t 17)), .s (.bin 96 .lss (.t 95) (.k (.v (.c (.int .i64 0))))), .s (.mv 97 (.t 96)), .g 97 false (some 98) (.load 98 true 18 (.t 15)), .g 97 false (some 99) (.load 99 true 18 (.t 10)), .g 97 false (some 100) (.call (some 100) 19 [(.t 98), (.t 99)]), .g 97 false (some 101) (.bnot 101 (.t 100)), .s (.pick 102 (.t 97) (.k (.v (.c .tt))) (.t 101)), .s (.mv 103 (.t 102)), .g 103 false (some 104) (.mv 104 (.t 16)), .g 103 false (some 105) (.mv 105 (.t 11)), .g 103 false (some 106) (.eqs 106 false [.b] true (.t 104) (.t 105)), .s (.pick 107 (.t 103) (.k (.v (.c .tt))) (.t 106))]) (.cond (.t 107) (.seq (.reg [.s (.mv 8 (.k (.v (.c .ff))))]) (.ret)) (.skip))) (.seq (.reg [.s (.mv 18 (.k (.v (.c (.int .i64 1)))))]) (.seq (.reg [.s (.load 108 true 18 (.t 15)), .s (.mv 109 (.t 18)), .s (.call (some 110) 21 [(.t 108), (.t 109)]), .s (.mv 18 (.t 110))]) (.seq (.reg [.s (.mv 19 (.k (.v (.c (.int .i64 1)))))]) (.seq (.reg [.s (.load 111 true 18 (.t 15)), .s (.mv 112 (.t 19)), .s (.call (some 113) 22 [(.t 111), (.t 112)]), .s (.mv 19 (.t 113))]) (.seq (.seq (.reg [.s (.mv 114 (.t 19)), .s (.bin 115 .lss (.t 114) (.k (.v (.c (.int .i64 0)))))]) (.cond (.t 115) (.seq (.reg [.s (.mv 8 (.k (.v (.c .ff))))]) (.ret)) (.skip))) (.seq (.seq (.reg [.s (.mv 116 (.t 19)), .s (.mv 117 (.t 18)), .s (.bin 118 .neq (.t 116) (.t 117))]) (.cond (.t 118) (.seq (.reg [.s (.mv 8 (.k (.v (.c .ff))))]) (.ret)) (.skip))) (.seq (.rgd [.s (.mv 120 (.t 0)), .s (.call (some 121) 9 [(.t 120)]), .s (.mv 122 (.t 1)), .s (.call (some 123) 9 [(.t 122)]), .s (.load 124 true 18 (.t 6)), .s (.call (some 125) 17 [(.t 124)]), .s (.mv 126 (.t 3)), .s (.call (some 127) 18 [(.t 121), (.t 123), (.t 125), (.t 126)]), .s (.mv 119 (.t 127)), .s (.ext 128 (.t 119) 0), .s (.ext 129 (.t 119) 1), .s (.alloc 20 [.nils .word, .nils .bool, .nils .word, .int .i64 0, .ff, .int .i64 0, .int .i64 0, .int .i64 0, .int .i64 0, .int .i64 0, .nils .word, .int .i64 0, .ff, .int .i64 0, .int .i64 0, .int .i64 0, .int .i64 0, .int .i64 0]), .s (.store 18 (.t 20) (.t 128)), .s (.mv 21 (.t 129))] (.tk 0 (.tk 2 (.tk 4 (.tk 6 (.alt 1 false (.alt 3 false (.alt 5 false (.alt 7 false (.tk 8 (.tk 9 (.tk 10 (.one 11 false (.one 12 true (.tk 13 (.done (some [10, 11, 15, 18, 20, 21])))))))) (.alt 11 false (.one 7 true (.tk 8 (.tk 9 (.tk 10 (.one 12 true (.tk 13 (.done (some [10, 11, 15, 18, 20, 21])))))))) (.nil))) (.alt 11 false (.one 5 true (.one 7 true (.tk 8 (.tk 9 (.tk 10 (.one 12 true (.tk 13 (.done (some [10, 11, 15, 18, 20, 21]))))))))) (.nil))) (.alt 11 false (.one 3 false (.one 5 true (.one 7 true (.tk 8 (.tk 9 (.tk 10 (.one 12 true (.tk 13 (.done (some [10, 11, 15, 18, 20, 21])))))))))) (.nil))) (.alt 11 false (.one 1 false (.one 3 false (.one 5 true (.one 7 true (.tk 8 (.tk 9 (.tk 10 (.one 12 true (.tk 13 (.done (some [10, 11, 15, 18, 20, 21]))))))))))) (.nil)))))))) (.seq (.seq (.reg [.s (.load 130 true 18 (.t 20)), .s (.load 131 true 18 (.t 10)), .s (.call (some 132) 19 [(.t 130), (.t 131)]), .s (.bnot 133 (.t 132)), .s (.mv 134 (.t 133)), .g 134 false (some 135) (.mv 135 (.t 21)), .g 134 false (some 136) (.mv 136 (.t 11)), .g 134 false (some 137) (.eqs 137 false [.b] true (.t 135) (.t 136)), .s (.pick 138 (.t 134) (.k (.v (.c .tt))) (.t 137))]) (.cond (.t 138) (.seq (.reg [.s (.mv 8 (.k (.v (.c .ff))))]) (.ret)) (.skip))) (.seq (.reg [.s (.mv 19 (.k (.v (.c (.int .i64 1)))))]) (.seq (.reg [.s (.load 139 true 18 (.t 15)), .s (.mv 140 (.t 19)), .s (.call (some 141) 22 [(.t 139), (.t 140)]), .s (.mv 19 (.t 141))]) (.seq (.seq (.reg [.s (.mv 142 (.t 19)), .s (.bin 143 .lss (.t 142) (.k (.v (.c (.int .i64 0)))))]) (.cond (.t 143) (.seq (.reg [.s (.mv 8 (.k (.v (.c .ff))))]) (.ret)) (.skip))) (.seq (.seq (.reg [.s (.mv 144 (.t 19)), .s (.mv 145 (.t 18)), .s (.bin 146 .neq (.t 144) (.t 145))]) (.cond (.t 146) (.seq (.reg [.s (.mv 8 (.k (.v (.c .ff))))]) (.ret)) (.skip))) (.seq (.reg [.s (.mv 8 (.k (.v (.c .tt))))]) (.ret)))))))))))))))))))))))))))))))))))⟩
def c_laws_FnExactTwoStep : Fun := ⟨4, [], fun ts K => as4 ts fun t0 t1 t2 t3 => arC (pL .inst) t0 fun a => arC (pL .inst) t1 fun b => arG pTwoT t2 fun t => arC (pI .i64) t3 fun who => chk (a.length ≤ 9223372036854775807 ∧ b.length ≤ 9223372036854775807 ∧ LTwo t 9223372036854775807) (K (tB true) [])⟩
theorem run_laws_FnExactTwoStep (a : List (FT.Ty .inst)) (b : List (FT.Ty .inst)) (t : Two) (who : Int) (hpre : a.length ≤ 9223372036854775807 ∧ b.length ≤ 9223372036854775807 ∧ LTwo t 9223372036854775807) : runK [c_laws_szInsS, c_laws_toInsS, c_laws_eqInsS, c_laws_szTwo, c_spec_TwoStep, c_laws_toTwo, c_impl_TwoStep, c_laws_eqTwo, c_laws_markInsS, c_laws_markTwo, c_laws_heldTwo] (0) [] pf_laws_FnExactTwoStep [tL false .inst a, tL false .inst b, tG (t.tc false []), tI .i64 who] fun r o => r = tB true ∧ o = [] := by
  obtain ⟨p1, p2, p3⟩ := hpre
  conv => whnf
  refine chk_i ⟨p1, by omega, by omega⟩ ?_
  conv => whnf
  refine sel_i (fun h => ?_) (fun h => ?_)
  · conv => whnf
    exact ⟨rfl, rfl⟩
  have k0 := szr_le (n := a.length) (show (0:Int) ≤ 1048576 by decide)
  have h : 0 ≤ szr 1048576 a.length := by simpa using h
  have hn := szr_n h
  conv => whnf
  refine chk_i ⟨p2, h, k0⟩ ?_
  conv => whnf
  refine sel_i (fun h => ?_) (fun h => ?_)
  · conv => whnf
    exact ⟨rfl, rfl⟩
  have k1 := szr_le (n := b.length) (show (0:Int) ≤ szr 1048576 a.length by assumption)
  have h : 0 ≤ szr (szr 1048576 a.length) b.length := by simpa using h
  have hn2 := szr_n h
  conv => whnf
  refine chk_i ⟨p3, h, show szr (szr 1048576 a.length) b.length ≤ 1048576 by omega⟩ ?_
  conv => whnf
  refine sel_i (fun h => ?_) (fun h => ?_)
  · conv => whnf
    exact ⟨rfl, rfl⟩
  simp only [etaWord, etaMemory, etaSide, etaTwo, decide_eq_false_iff_not, Int.not_lt] at h
  have hz : LTwo t 1048576 := szTwo_n (by omega) h
  clear h
  have l1 : a.length ≤ 2147483647 := by omega
  have l2 : b.length ≤ 2147483647 := by omega
  have l3 : LTwo t 2147483647 := hz.mono (by decide)
  have hl : LTwo (twoStep a b t who).1 2147483647 := twoStep_len l3
  have hz3 : SzTwo t := ⟨⟨l3.1.1, l3.1.2⟩, l3.2.1, l3.2.2⟩
  have hz4 : SzTwo (twoStep a b t who).1 := ⟨⟨hl.1.1, hl.1.2⟩, hl.2.1, hl.2.2⟩
  have he := (endTwo_le (twoStep a b t who).1 1 hz4)
  have he2 := (endTwo_le t (1 + 5 * a.length + 5 * b.length) hz3)
  have hm := sz_markTwo (twoStep a b t who).1 1 hz4
  clear p1 p2 p3 k0 k1 hn hn2 hz
  conv => whnf
  repeat' (first | (refine sel_i (fun h => ?_) (fun h => ?_) <;> conv => whnf) | (refine chk_c ?_ ?_ <;> conv => whnf) | (refine And.intro ?_ rfl) | (refine And.intro ?_ ?_ <;> conv => whnf))
  all_goals (try simp only [etaKey, etaWord, etaMemory, etaSide, etaTwo, etaMTwo] at *)
  all_goals (try simp only [etaKey, etaWord, etaInst, etaSpan, mkInsS_length, etaMemory, etaSide, etaTwo, etaState, etaHeap, etaMState, mkWordS_length, mkBoolS_length, mkSpanS_length, mkIntS_length, mark_markMemory, end_markMemory, mark_markHeap, end_markHeap, mark_markState, end_markState, mark_markTwo, end_markTwo, hres_true] at *)
  all_goals first
    | (refine ⟨?_⟩; assumption)
    | (refine ⟨?_⟩; exact ⟨by assumption, by assumption⟩)
    | (refine ⟨?_⟩; exact ⟨by assumption, by assumption, by assumption⟩)
    | (refine ⟨?_⟩; omega)
    | (refine ⟨?_⟩; exact ⟨by omega, by omega, by assumption⟩)
    | rfl
    | trivial
    | (refine ⟨?_⟩; simp [markMemory, markHeap, markSide, markTwo, markState, mkInsS_length, mkWordS_length, mkBoolS_length, mkSpanS_length, mkIntS_length]; done)
    | (exfalso; simp [hres_true] at *; done)
    | (exfalso; simp [hres_true] at *; omega)
    | trace_state
theorem ok_laws_FnExactTwoStep : FunOk Tryz.prog c_laws_FnExactTwoStep := funOk (E := [c_laws_szInsS, c_laws_toInsS, c_laws_eqInsS, c_laws_szTwo, c_spec_TwoStep, c_laws_toTwo, c_impl_TwoStep, c_laws_eqTwo, c_laws_markInsS, c_laws_markTwo, c_laws_heldTwo]) (envOk_cons ok_laws_szInsS (envOk_cons ok_laws_toInsS (envOk_cons ok_laws_eqInsS (envOk_cons ok_laws_szTwo (envOk_cons ok_spec_TwoStep (envOk_cons ok_laws_toTwo (envOk_cons ok_impl_TwoStep (envOk_cons ok_laws_eqTwo (envOk_cons ok_laws_markInsS (envOk_cons ok_laws_markTwo (envOk_cons ok_laws_heldTwo (envOk_nil)))))))))))) mixd Tryz.func4 (pf := pf_laws_FnExactTwoStep) (by kernel_rfl) fun ts K h => by
  obtain ⟨t0, t1, t2, t3, e0, h⟩ := as4_out h
  subst e0
  obtain ⟨a, e1, hq⟩ := arC_out (rd_l .inst) h
  clear h
  subst e1
  have h := hq
  clear hq
  obtain ⟨b, e1, hq⟩ := arC_out (rd_l .inst) h
  clear h
  subst e1
  have h := hq
  clear hq
  obtain ⟨t, e1, hq⟩ := arG_out rd_two h
  clear h
  subst e1
  have h := hq
  clear hq
  obtain ⟨who, e1, hq⟩ := arC_out (rd_int .i64) h
  clear h
  subst e1
  have h := hq
  clear hq
  obtain ⟨hpre, h⟩ := chk_o h
  exact ⟨_, _, h, Nat.le_of_ble_eq_true (show Nat.ble 4 Tryz.f4.ntmps = true by kernel_rfl), _, run_laws_FnExactTwoStep a b t who hpre⟩

end Go.Pi
namespace Go.Proofs.YtepkbkojgbcahaaGreat
open Go.Pi
theorem fnExactTwoStep_lifted (os : Os) (started : os.Started) (H : Type) (enc : TypeId × Value → H) :
    ReturnsInHanded {} Tryz.checked os 4 .any (Rows.fnExactTwoStepSpec.pre6 enc Tryz.prog Tryz.f4 Rows.fnExactTwoStepRow.domain false) (Rows.fnExactTwoStepSpec.post enc Tryz.prog Tryz.f4 false true false false) :=
  lifted (C := Tryz.checked) (E := [c_laws_szInsS, c_laws_toInsS, c_laws_eqInsS, c_laws_szTwo, c_spec_TwoStep, c_laws_toTwo, c_impl_TwoStep, c_laws_eqTwo, c_laws_markInsS, c_laws_markTwo, c_laws_heldTwo]) (fuel := _) (pf := pf_laws_FnExactTwoStep) (shs := [(false, [.sl .inst]), (false, [.sl .inst]), (true, ckTwo), (false, [.int .i64])]) (tb := 4) (by kernel_rfl) started (by kernel_rfl) Tryz.func4
    (ChangeSpec.witness6 (enc := enc) (C := Tryz.checked) false ⟨#[], #[.slice none 0 0, .slice none 0 0, .agg #[.slice none 0 0, .slice none 0 0, .slice none 0 0, .int .i64 0, .bool false, .int .i64 0, .int .i64 0, .int .i64 0, .int .i64 0, .int .i64 0, .slice none 0 0, .int .i64 0, .bool false, .int .i64 0, .int .i64 0, .int .i64 0, .int .i64 0, .int .i64 0], .int .i64 0], []⟩ 12 (by kernel_rfl) (by kernel_rfl) (by kernel_rfl) (by kernel_rfl))
    mixd (envOk_cons ok_laws_szInsS (envOk_cons ok_laws_toInsS (envOk_cons ok_laws_eqInsS (envOk_cons ok_laws_szTwo (envOk_cons ok_spec_TwoStep (envOk_cons ok_laws_toTwo (envOk_cons ok_impl_TwoStep (envOk_cons ok_laws_eqTwo (envOk_cons ok_laws_markInsS (envOk_cons ok_laws_markTwo (envOk_cons ok_laws_heldTwo (envOk_nil)))))))))))) (by kernel_rfl) (by kernel_rfl) (by kernel_rfl) rfl (by kernel_rfl) rfl
    (fun ds h => by
      obtain _ | ⟨d0, ds⟩ := ds
      · simp at h
      obtain _ | ⟨d1, ds⟩ := ds
      · simp at h
      obtain _ | ⟨d2, ds⟩ := ds
      · simp at h
      obtain _ | ⟨d3, ds⟩ := ds
      · simp at h
      obtain _ | ⟨x, ds⟩ := ds
      · rfl
      · simp at h)
    (fun ain h0 => by
      obtain ⟨T0, ain0, e, k0, h1⟩ := areCons h0
      subst e
      obtain ⟨T1, ain1, e, k1, h2⟩ := areCons h1
      subst e
      obtain ⟨T2, ain2, e, k2, h3⟩ := areCons h2
      subst e
      obtain ⟨T3, ain3, e, k3, h4⟩ := areCons h3
      subst e
      have e := areNil h4
      subst e
      obtain ⟨a, e, w0⟩ := isL k0
      subst e
      obtain ⟨b, e, w1⟩ := isL k1
      subst e
      obtain ⟨t, e, w2⟩ := areG ut_twoS k2
      subst e
      obtain ⟨who, e, w3⟩ := isN k3
      subst e
      exact run_laws_FnExactTwoStep a b t who (⟨w0.2, w1.2, lTwo_of w2⟩))
theorem fnExactTwoStep_over : Rows.fnExactTwoStepRow.holds Tryz.pinned (OpenSpec.ofChange Rows.fnExactTwoStepSpec) :=
  OpenClaim.holds_of_wide 4 Tryz.f4 rfl rfl rfl rfl rfl rfl rfl ⟨rfl, rfl, rfl, rfl, rfl⟩ rfl rfl rfl rfl rfl (by kernel_rfl) Tryz.func4 (by kernel_rfl)
    (of_decide_eq_true (by kernel_rfl)) (by unfold Func.isWrapper; first | (rw [if_pos (by decide +kernel)]; kernel_rfl) | (rw [if_neg (by decide +kernel)]; exact ⟨rfl, rfl⟩))
    (fun os started H enc _ => fnExactTwoStep_lifted os started H enc)
theorem fnExactTwoStep_holds : Rows.FnExactTwoStepSaid := fnExactTwoStep_over
#print axioms fnExactTwoStep_holds
end Go.Proofs.YtepkbkojgbcahaaGreat
