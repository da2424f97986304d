/- FnExactTwoRun: the given statement holds, out of the law's run by PI. No conditions. -/
import Derived.Test.YtepkbkojgbcahaaGreatC6
namespace Go.Pi
open Go.Proofs
set_option linter.unusedVariables false
set_option linter.unusedSimpArgs false
set_option maxRecDepth 100000
attribute [local irreducible] iterN
def pf_laws_FnExactTwoRun : PF := ⟨[.t 8], .seq (.reg [.s (.box 6 (.t 2)), .s (.mv 8 (.k (.v (.c .ff))))]) (.seq (.seq (.reg [.s (.mv 20 (.t 3)), .s (.len 21 false (.t 20)), .s (.bin 22 .gtr (.t 21) (.k (.v (.c (.int .i64 1048576)))))]) (.cond (.t 22) (.seq (.reg [.s (.mv 8 (.k (.v (.c .tt))))]) (.ret)) (.skip))) (.seq (.reg [.s (.mv 9 (.k (.v (.c (.int .i64 1048576)))))]) (.seq (.reg [.s (.mv 23 (.t 0)), .s (.mv 24 (.t 9)), .s (.call (some 25) 6 [(.t 23), (.t 24)]), .s (.mv 9 (.t 25))]) (.seq (.seq (.reg [.s (.mv 26 (.t 9)), .s (.bin 27 .lss (.t 26) (.k (.v (.c (.int .i64 0)))))]) (.cond (.t 27) (.seq (.reg [.s (.mv 8 (.k (.v (.c .tt))))]) (.ret)) (.skip))) (.seq (.reg [.s (.mv 28 (.t 1)), .s (.mv 29 (.t 9)), .s (.call (some 30) 6 [(.t 28), (.t 29)]), .s (.mv 9 (.t 30))]) (.seq (.seq (.reg [.s (.mv 31 (.t 9)), .s (.bin 32 .lss (.t 31) (.k (.v (.c (.int .i64 0)))))]) (.cond (.t 32) (.seq (.reg [.s (.mv 8 (.k (.v (.c .tt))))]) (.ret)) (.skip))) (.seq (.reg [.s (.load 33 true 18 (.t 6)), .s (.mv 34 (.t 9)), .s (.call (some 35) 15 [(.t 33), (.t 34)]), .s (.mv 9 (.t 35))]) (.seq (.seq (.reg [.s (.mv 36 (.t 9)), .s (.bin 37 .lss (.t 36) (.k (.v (.c (.int .i64 0)))))]) (.cond (.t 37) (.seq (.reg [.s (.mv 8 (.k (.v (.c .tt))))]) (.ret)) (.skip))) (.seq (.rgd [.s (.mv 38 (.t 0)), .s (.call (some 39) 9 [(.t 38)]), .s (.mv 40 (.t 1)), .s (.call (some 41) 9 [(.t 40)]), .s (.load 42 true 18 (.t 6)), .s (.call (some 43) 17 [(.t 42)]), .s (.mv 44 (.t 3)), .s (.call (some 45) 24 [(.t 44)]), .s (.call (some 46) 23 [(.t 39), (.t 41), (.t 43), (.t 45)]), .s (.alloc 10 [.nils .word, .nils .bool, .nils .word, .int .i64 0, .ff, .int .i64 0, .int .i64 0, .int .i64 0, .int .i64 0, .int .i64 0, .nils .word, .int .i64 0, .ff, .int .i64 0, .int .i64 0, .int .i64 0, .int .i64 0, .int .i64 0]), .s (.store 18 (.t 10) (.t 46))] (.tk 0 (.tk 2 (.tk 4 (.tk 6 (.alt 1 false (.alt 3 false (.alt 5 false (.alt 7 false (.alt 8 false (.one 9 false (.one 10 true (.done (some [0, 1, 3, 6, 10])))) (.alt 9 false (.one 8 true (.one 10 true (.done (some [0, 1, 3, 6, 10])))) (.nil))) (.alt 9 false (.one 7 true (.one 8 true (.one 10 true (.done (some [0, 1, 3, 6, 10]))))) (.nil))) (.alt 9 false (.one 5 true (.one 7 true (.one 8 true (.one 10 true (.done (some [0, 1, 3, 6, 10])))))) (.nil))) (.alt 9 false (.one 3 false (.one 5 true (.one 7 true (.one 8 true (.one 10 true (.done (some [0, 1, 3, 6, 10]))))))) (.nil))) (.alt 9 false (.one 1 false (.one 3 false (.one 5 true (.one 7 true (.one 8 true (.one 10 true (.done (some [0, 1, 3, 6, 10])))))))) (.nil)))))))) (.seq (.reg [.s (.mv 47 (.t 0)), .s (.call (some 48) 9 [(.t 47)]), .s (.mv 11 (.t 48))]) (.seq (.reg [.s (.mv 49 (.t 1)), .s (.call (some 50) 9 [(.t 49)]), .s (.mv 12 (.t 50))]) (.seq (.reg [.s (.load 51 true 18 (.t 6)), .s (.call (some 52) 17 [(.t 51)]), .s (.alloc 13 [.nils .word, .nils .bool, .nils .word, .int .i64 0, .ff, .int .i64 0, .int .i64 0, .int .i64 0, .int .i64 0, .int .i64 0, .nils .word, .int .i64 0, .ff, .int .i64 0, .int .i64 0, .int .i64 0, .int .i64 0, .int .i64 0]), .s (.store 18 (.t 13) (.t 52))]) (.seq (.reg [.s (.mv 53 (.t 3)), .s (.call (some 54) 24 [(.t 53)]), .s (.mv 14 (.t 54))]) (.seq (.reg [.s (.mv 55 (.t 11)), .s (.mv 56 (.t 12)), .s (.load 57 true 18 (.t 13)), .s (.mv 58 (.t 14)), .s (.call (some 59) 25 [(.t 55), (.t 56), (.t 57), (.t 58)]), .s (.alloc 15 [.nils .word, .nils .bool, .nils .word, .int .i64 0, .ff, .int .i64 0, .int .i64 0, .int .i64 0, .int .i64 0, .int .i64 0, .nils .word, .int .i64 0, .ff, .int .i64 0, .int .i64 0, .int .i64 0, .int .i64 0, .int .i64 0]), .s (.store 18 (.t 15) (.t 59))]) (.seq (.seq (.reg [.s (.load 60 true 18 (.t 15)), .s (.load 61 true 18 (.t 10)), .s (.call (some 62) 19 [(.t 60), (.t 61)]), .s (.bnot 63 (.t 62))]) (.cond (.t 63) (.seq (.reg [.s (.mv 8 (.k (.v (.c .ff))))]) (.ret)) (.skip))) (.seq (.seq (.reg [.s (.mv 64 (.t 11)), .s (.mv 65 (.t 0)), .s (.call (some 66) 9 [(.t 65)]), .s (.call (some 67) 13 [(.t 64), (.t 66)]), .s (.bnot 68 (.t 67))]) (.cond (.t 68) (.seq (.reg [.s (.mv 8 (.k (.v (.c .ff))))]) (.ret)) (.skip))) (.seq (.seq (.reg [.s (.mv 69 (.t 12)), .s (.mv 70 (.t 1)), .s (.call (some 71) 9 [(.t 70)]), .s (.call (some 72) 13 [(.t 69), (.t 71)]), .s (.bnot 73 (.t 72))]) (.cond (.t 73) (.seq (.reg [.s (.mv 8 (.k (.v (.c .ff))))]) (.ret)) (.skip))) (.seq (.seq (.rgd [.s (.load 74 true 18 (.t 13)), .s (.load 75 true 18 (.t 6)), .s (.call (some 76) 17 [(.t 75)]), .s (.call (some 77) 19 [(.t 74), (.t 76)]), .s (.bnot 78 (.t 77))] (.tk 0 (.tk 1 (.one 2 false (.one 3 true (.tk 4 (.done none))))))) (.cond (.t 78) (.seq (.reg [.s (.mv 8 (.k (.v (.c .ff))))]) (.ret)) (.skip))) (.seq (.seq (.reg [.s (.mv 79 (.t 14)), .s (.mv 80 (.t 3)), .s (.call (some 81) 24 [(.t 80)]), .s (.call (some 82) 26 [(.t 79), (.t 81)]), .s (.bnot 83 (.t 82))]) (.cond (.t 83) (.seq (.reg [.s (.mv 8 (.k (.v (.c .ff))))]) (.ret)) (.skip))) (.seq (.reg [.s (.mv 16 (.k (.v (.c (.int .i64 1)))))]) (.seq (.reg [.s (.mv 84 (.t 11)), .s (.mv 85 (.t 16)), .s (.call (some 86) 20 [(.t 84), (.t 85)]), .s (.mv 16 (.t 86))]) (.seq (.reg [.s (.mv 87 (.t 12)), .s (.mv 88 (.t 16)), .s (.call (some 89) 20 [(.t 87), (.t 88)]), .s (.mv 16 (.t 89))]) (.seq (.reg [.s (.load 90 true 18 (.t 13)), .s (.mv 91 (.t 16)), .s (.call (some 92) 21 [(.t 90), (.t 91)]), .s (.mv 16 (.t 92))]) (.seq (.reg [.s (.mv 93 (.t 14)), .s (.mv 94 (.t 16)), .s (.call (some 95) 27 [(.t 93), (.t 94)]), .s (.mv 16 (.t 95))]) (.seq (.seq (.reg [.s (.mv 96 (.t 16)), .s (.bin 97 .lss (.t 96) (.k (.v (.c (.int .i64 0))))), .s (.mv 98 (.t 97)), .g 98 false (some 99) (.load 99 true 18 (.t 15)), .g 98 false (some 100) (.load 100 true 18 (.t 10)), .g 98 false (some 101) (.call (some 101) 19 [(.t 99), (.t 100)]), .g 98 false (some 102) (.bnot 102 (.t 101)), .s (.pick 103 (.t 98) (.k (.v (.c .tt))) (.t 102))]) (.cond (.t 103) (.seq (.reg [.s (.mv 8 (.k (.v (.c .ff))))]) (.ret)) (.skip))) (.seq (.reg [.s (.mv 17 (.k (.v (.c (.int .i64 1)))))]) (.seq (.reg [.s (.load 104 true 18 (.t 15)), .s (.mv 105 (.t 17)), .s (.call (some 106) 21 [(.t 104), (.t 105)]), .s (.mv 17 (.t 106))]) (.seq (.reg [.s (.mv 18 (.k (.v (.c (.int .i64 1)))))]) (.seq (.reg [.s (.load 107 true 18 (.t 15)), .s (.mv 108 (.t 18)), .s (.call (some 109) 22 [(.t 107), (.t 108)]), .s (.mv 18 (.t 109))]) (.seq (.seq (.reg [.s (.mv 110 (.t 18)), .s (.bin 111 .lss (.t 110) (.k (.v (.c (.int .i64 0)))))]) (.cond (.t 111) (.seq (.reg [.s (.mv 8 (.k (.v (.c .ff))))]) (.ret)) (.skip))) (.seq (.seq (.reg [.s (.mv 112 (.t 18)), .s (.mv 113 (.t 17)), .s (.bin 114 .neq (.t 112) (.t 113))]) (.cond (.t 114) (.seq (.reg [.s (.mv 8 (.k (.v (.c .ff))))]) (.ret)) (.skip))) (.seq (.rgd [.s (.mv 115 (.t 0)), .s (.call (some 116) 9 [(.t 115)]), .s (.mv 117 (.t 1)), .s (.call (some 118) 9 [(.t 117)]), .s (.load 119 true 18 (.t 6)), .s (.call (some 120) 17 [(.t 119)]), .s (.mv 121 (.t 3)), .s (.call (some 122) 24 [(.t 121)]), .s (.call (some 123) 25 [(.t 116), (.t 118), (.t 120), (.t 122)]), .s (.alloc 19 [.nils .word, .nils .bool, .nils .word, .int .i64 0, .ff, .int .i64 0, .int .i64 0, .int .i64 0, .int .i64 0, .int .i64 0, .nils .word, .int .i64 0, .ff, .int .i64 0, .int .i64 0, .int .i64 0, .int .i64 0, .int .i64 0]), .s (.store 18 (.t 19) (.t 123))] (.tk 0 (.tk 2 (.tk 4 (.tk 6 (.alt 1 false (.alt 3 false (.alt 5 false (.alt 7 false (.alt 8 false (.one 9 false (.one 10 true (.done (some [10, 15, 17, 19])))) (.alt 9 false (.one 8 true (.one 10 true (.done (some [10, 15, 17, 19])))) (.nil))) (.alt 9 false (.one 7 true (.one 8 true (.one 10 true (.done (some [10, 15, 17, 19]))))) (.nil))) (.alt 9 false (.one 5 true (.one 7 true (.one 8 true (.one 10 true (.done (some [10, 15, 17, 19])))))) (.nil))) (.alt 9 false (.one 3 false (.one 5 true (.one 7 true (.one 8 true (.one 10 true (.done (some [10, 15, 17, 19]))))))) (.nil))) (.alt 9 false (.one 1 false (.one 3 false (.one 5 true (.one 7 true (.one 8 true (.one 10 true (.done (some [10, 15, 17, 19])))))))) (.nil)))))))) (.seq (.seq (.reg [.s (.load 124 true 18 (.t 19)), .s (.load 125 true 18 (.t 10)), .s (.call (some 126) 19 [(.t 124), (.t 125)]), .s (.bnot 127 (.t 126))]) (.cond (.t 127) (.seq (.reg [.s (.mv 8 (.k (.v (.c .ff))))]) (.ret)) (.skip))) (.seq (.reg [.s (.mv 18 (.k (.v (.c (.int .i64 1)))))]) (.seq (.reg [.s (.load 128 true 18 (.t 15)), .s (.mv 129 (.t 18)), .s (.call (some 130) 22 [(.t 128), (.t 129)]), .s (.mv 18 (.t 130))]) (.seq (.seq (.reg [.s (.mv 131 (.t 18)), .s (.bin 132 .lss (.t 131) (.k (.v (.c (.int .i64 0)))))]) (.cond (.t 132) (.seq (.reg [.s (.mv 8 (.k (.v (.c .ff))))]) (.ret)) (.skip))) (.seq (.seq (.reg [.s (.mv 133 (.t 18)), .s (.mv 134 (.t 17)), .s (.bin 135 .neq (.t 133) (.t 134))]) (.cond (.t 135) (.seq (.reg [.s (.mv 8 (.k (.v (.c .ff))))]) (.ret)) (.skip))) (.seq (.reg [.s (.mv 8 (.k (.v (.c .tt))))]) (.ret)))))))))))))))))))))))))))))))))))))))⟩
def c_laws_FnExactTwoRun : Fun := ⟨5, [], fun ts K => as4 ts fun t0 t1 t2 t3 => arC (pL .inst) t0 fun a => arC (pL .inst) t1 fun b => arG pTwoT t2 fun t => arC (pL (.int .i64)) t3 fun od => chk (a.length ≤ 9223372036854775807 ∧ b.length ≤ 9223372036854775807 ∧ LTwo t 9223372036854775807 ∧ od.length ≤ 9223372036854775807) (K (tB true) [])⟩
theorem run_laws_FnExactTwoRun (a : List (FT.Ty .inst)) (b : List (FT.Ty .inst)) (t : Two) (od : List (FT.Ty (.int .i64))) (hpre : a.length ≤ 9223372036854775807 ∧ b.length ≤ 9223372036854775807 ∧ LTwo t 9223372036854775807 ∧ od.length ≤ 9223372036854775807) : runK [c_laws_szInsS, c_laws_toInsS, c_laws_eqInsS, c_laws_szTwo, c_laws_toTwo, c_laws_eqTwo, c_laws_markInsS, c_laws_markTwo, c_laws_heldTwo, c_spec_TwoRun, c_laws_toIntS, c_impl_TwoRun, c_laws_eqIntS, c_laws_markIntS] (0) [] pf_laws_FnExactTwoRun [tL false .inst a, tL false .inst b, tG (t.tc false []), tL false (.int .i64) od] fun r o => r = tB true ∧ o = [] := by
  obtain ⟨p1, p2, p3, p4⟩ := hpre
  conv => whnf
  refine sel_i (fun h => ?_) (fun h => ?_)
  · conv => whnf
    exact ⟨rfl, rfl⟩
  have l4 : od.length ≤ 1048576 := by simp only [decide_eq_false_iff_not, gt_iff_lt] at h; omega
  conv => whnf
  refine chk_i ⟨p1, by omega, by omega⟩ ?_
  conv => whnf
  refine sel_i (fun h => ?_) (fun h => ?_)
  · conv => whnf
    exact ⟨rfl, rfl⟩
  have k0 := szr_le (n := a.length) (show (0:Int) ≤ 1048576 by decide)
  have h : 0 ≤ szr 1048576 a.length := by simpa using h
  have hn := szr_n h
  conv => whnf
  refine chk_i ⟨p2, h, k0⟩ ?_
  conv => whnf
  refine sel_i (fun h => ?_) (fun h => ?_)
  · conv => whnf
    exact ⟨rfl, rfl⟩
  have k1 := szr_le (n := b.length) (show (0:Int) ≤ szr 1048576 a.length by assumption)
  have h : 0 ≤ szr (szr 1048576 a.length) b.length := by simpa using h
  have hn2 := szr_n h
  conv => whnf
  refine chk_i ⟨p3, h, show szr (szr 1048576 a.length) b.length ≤ 1048576 by omega⟩ ?_
  conv => whnf
  refine sel_i (fun h => ?_) (fun h => ?_)
  · conv => whnf
    exact ⟨rfl, rfl⟩
  simp only [etaWord, etaMemory, etaSide, etaTwo, decide_eq_false_iff_not, Int.not_lt] at h
  have hz : LTwo t 1048576 := szTwo_n (by omega) h
  clear h
  have l1 : a.length ≤ 2147483647 := by omega
  have l2 : b.length ≤ 2147483647 := by omega
  have l3 : LTwo t 2147483647 := hz.mono (by decide)
  have l5 : od.length ≤ 2147483647 := by omega
  have hl : LTwo (twoRun a b t od) 2147483647 := twoRun_len l3
  have hz3 : SzTwo t := ⟨⟨l3.1.1, l3.1.2⟩, l3.2.1, l3.2.2⟩
  have hz4 : SzTwo (twoRun a b t od) := ⟨⟨hl.1.1, hl.1.2⟩, hl.2.1, hl.2.2⟩
  have he := (endTwo_le (twoRun a b t od) 1 hz4)
  have he2 := (endTwo_le t (1 + 5 * a.length + 5 * b.length) hz3)
  have hm := sz_markTwo (twoRun a b t od) 1 hz4
  have hc : a.length ≤ 2147483647 ∧ b.length ≤ 2147483647 ∧ LTwo t 2147483647 ∧ od.length ≤ 2147483647 := ⟨l1, l2, l3, l5⟩
  clear p1 p2 p3 k0 k1 hn hn2 hz
  conv => whnf
  repeat' (first | (refine sel_i (fun h => ?_) (fun h => ?_) <;> conv => whnf) | (refine chk_c ?_ ?_ <;> conv => whnf) | (refine And.intro ?_ rfl) | (refine And.intro ?_ ?_ <;> conv => whnf))
  all_goals (try simp only [etaKey, etaWord, etaMemory, etaSide, etaTwo, etaMTwo] at *)
  all_goals (try simp only [etaKey, etaWord, etaInst, etaSpan, mkInsS_length, etaMemory, etaSide, etaTwo, etaState, etaHeap, etaMState, mkWordS_length, mkBoolS_length, mkSpanS_length, mkIntS_length, mark_markMemory, end_markMemory, mark_markHeap, end_markHeap, mark_markState, end_markState, mark_markTwo, end_markTwo, hres_true] at *)
  all_goals first
    | (refine ⟨?_⟩; assumption)
    | (refine ⟨?_⟩; exact ⟨by assumption, by assumption⟩)
    | (refine ⟨?_⟩; exact ⟨by assumption, by assumption, by assumption⟩)
    | (refine ⟨?_⟩; omega)
    | (refine ⟨?_⟩; exact ⟨by omega, by omega, by assumption⟩)
    | rfl
    | trivial
    | (refine ⟨?_⟩; simp [markMemory, markHeap, markSide, markTwo, markState, mkInsS_length, mkWordS_length, mkBoolS_length, mkSpanS_length, mkIntS_length]; done)
    | (exfalso; simp [hres_true] at *; done)
    | (exfalso; simp [hres_true] at *; omega)
    | trace_state
theorem ok_laws_FnExactTwoRun : FunOk Tryz.prog c_laws_FnExactTwoRun := funOk (E := [c_laws_szInsS, c_laws_toInsS, c_laws_eqInsS, c_laws_szTwo, c_laws_toTwo, c_laws_eqTwo, c_laws_markInsS, c_laws_markTwo, c_laws_heldTwo, c_spec_TwoRun, c_laws_toIntS, c_impl_TwoRun, c_laws_eqIntS, c_laws_markIntS]) (envOk_cons ok_laws_szInsS (envOk_cons ok_laws_toInsS (envOk_cons ok_laws_eqInsS (envOk_cons ok_laws_szTwo (envOk_cons ok_laws_toTwo (envOk_cons ok_laws_eqTwo (envOk_cons ok_laws_markInsS (envOk_cons ok_laws_markTwo (envOk_cons ok_laws_heldTwo (envOk_cons ok_spec_TwoRun (envOk_cons ok_laws_toIntS (envOk_cons ok_impl_TwoRun (envOk_cons ok_laws_eqIntS (envOk_cons ok_laws_markIntS (envOk_nil))))))))))))))) mixd Tryz.func5 (pf := pf_laws_FnExactTwoRun) (by kernel_rfl) fun ts K h => by
  obtain ⟨t0, t1, t2, t3, e0, h⟩ := as4_out h
  subst e0
  obtain ⟨a, e1, hq⟩ := arC_out (rd_l .inst) h
  clear h
  subst e1
  have h := hq
  clear hq
  obtain ⟨b, e1, hq⟩ := arC_out (rd_l .inst) h
  clear h
  subst e1
  have h := hq
  clear hq
  obtain ⟨t, e1, hq⟩ := arG_out rd_two h
  clear h
  subst e1
  have h := hq
  clear hq
  obtain ⟨od, e1, hq⟩ := arC_out (rd_l (.int .i64)) h
  clear h
  subst e1
  have h := hq
  clear hq
  obtain ⟨hpre, h⟩ := chk_o h
  exact ⟨_, _, h, Nat.le_of_ble_eq_true (show Nat.ble 4 Tryz.f5.ntmps = true by kernel_rfl), _, run_laws_FnExactTwoRun a b t od hpre⟩

end Go.Pi
namespace Go.Proofs.YtepkbkojgbcahaaGreat
open Go.Pi
theorem fnExactTwoRun_lifted (os : Os) (started : os.Started) (H : Type) (enc : TypeId × Value → H) :
    ReturnsInHanded {} Tryz.checked os 5 .any (Rows.fnExactTwoRunSpec.pre6 enc Tryz.prog Tryz.f5 Rows.fnExactTwoRunRow.domain false) (Rows.fnExactTwoRunSpec.post enc Tryz.prog Tryz.f5 false true false false) :=
  lifted (C := Tryz.checked) (E := [c_laws_szInsS, c_laws_toInsS, c_laws_eqInsS, c_laws_szTwo, c_laws_toTwo, c_laws_eqTwo, c_laws_markInsS, c_laws_markTwo, c_laws_heldTwo, c_spec_TwoRun, c_laws_toIntS, c_impl_TwoRun, c_laws_eqIntS, c_laws_markIntS]) (fuel := _) (pf := pf_laws_FnExactTwoRun) (shs := [(false, [.sl .inst]), (false, [.sl .inst]), (true, ckTwo), (false, [.sl (.int .i64)])]) (tb := 4) (by kernel_rfl) started (by kernel_rfl) Tryz.func5
    (ChangeSpec.witness6 (enc := enc) (C := Tryz.checked) false ⟨#[], #[.slice none 0 0, .slice none 0 0, .agg #[.slice none 0 0, .slice none 0 0, .slice none 0 0, .int .i64 0, .bool false, .int .i64 0, .int .i64 0, .int .i64 0, .int .i64 0, .int .i64 0, .slice none 0 0, .int .i64 0, .bool false, .int .i64 0, .int .i64 0, .int .i64 0, .int .i64 0, .int .i64 0], .slice none 0 0], []⟩ 12 (by kernel_rfl) (by kernel_rfl) (by kernel_rfl) (by kernel_rfl))
    mixd (envOk_cons ok_laws_szInsS (envOk_cons ok_laws_toInsS (envOk_cons ok_laws_eqInsS (envOk_cons ok_laws_szTwo (envOk_cons ok_laws_toTwo (envOk_cons ok_laws_eqTwo (envOk_cons ok_laws_markInsS (envOk_cons ok_laws_markTwo (envOk_cons ok_laws_heldTwo (envOk_cons ok_spec_TwoRun (envOk_cons ok_laws_toIntS (envOk_cons ok_impl_TwoRun (envOk_cons ok_laws_eqIntS (envOk_cons ok_laws_markIntS (envOk_nil))))))))))))))) (by kernel_rfl) (by kernel_rfl) (by kernel_rfl) rfl (by kernel_rfl) rfl
    (fun ds h => by
      obtain _ | ⟨d0, ds⟩ := ds
      · simp at h
      obtain _ | ⟨d1, ds⟩ := ds
      · simp at h
      obtain _ | ⟨d2, ds⟩ := ds
      · simp at h
      obtain _ | ⟨d3, ds⟩ := ds
      · simp at h
      obtain _ | ⟨x, ds⟩ := ds
      · rfl
      · simp at h)
    (fun ain h0 => by
      obtain ⟨T0, ain0, e, k0, h1⟩ := areCons h0
      subst e
      obtain ⟨T1, ain1, e, k1, h2⟩ := areCons h1
      subst e
      obtain ⟨T2, ain2, e, k2, h3⟩ := areCons h2
      subst e
      obtain ⟨T3, ain3, e, k3, h4⟩ := areCons h3
      subst e
      have e := areNil h4
      subst e
      obtain ⟨a, e, w0⟩ := isL k0
      subst e
      obtain ⟨b, e, w1⟩ := isL k1
      subst e
      obtain ⟨t, e, w2⟩ := areG ut_twoS k2
      subst e
      obtain ⟨od, e, w3⟩ := isL k3
      subst e
      exact run_laws_FnExactTwoRun a b t od (⟨w0.2, w1.2, lTwo_of w2, w3.2⟩))
theorem fnExactTwoRun_over : Rows.fnExactTwoRunRow.holds Tryz.pinned (OpenSpec.ofChange Rows.fnExactTwoRunSpec) :=
  OpenClaim.holds_of_wide 5 Tryz.f5 rfl rfl rfl rfl rfl rfl rfl ⟨rfl, rfl, rfl, rfl, rfl⟩ rfl rfl rfl rfl rfl (by kernel_rfl) Tryz.func5 (by kernel_rfl)
    (of_decide_eq_true (by kernel_rfl)) (by unfold Func.isWrapper; first | (rw [if_pos (by decide +kernel)]; kernel_rfl) | (rw [if_neg (by decide +kernel)]; exact ⟨rfl, rfl⟩))
    (fun os started H enc _ => fnExactTwoRun_lifted os started H enc)
theorem fnExactTwoRun_holds : Rows.FnExactTwoRunSaid := fnExactTwoRun_over
#print axioms fnExactTwoRun_holds
end Go.Proofs.YtepkbkojgbcahaaGreat
