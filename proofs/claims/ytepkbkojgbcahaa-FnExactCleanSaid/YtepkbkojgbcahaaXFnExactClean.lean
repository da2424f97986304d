/- FnExactClean: the given statement holds, out of the law's run by PI. No conditions. -/
import Derived.Test.YtepkbkojgbcahaaCR
namespace Go.Pi
open Go.Proofs
set_option linter.unusedVariables false
set_option linter.unusedSimpArgs false
set_option maxRecDepth 100000
attribute [local irreducible] iterN
def pf_laws_FnExactClean : PF := ⟨[.t 4], .seq (.reg [.s (.box 2 (.t 0)), .s (.mv 4 (.k (.v (.c .ff))))]) (.seq (.reg [.s (.mv 5 (.k (.v (.c (.int .i64 1048576)))))]) (.seq (.reg [.s (.load 17 true 4 (.t 2)), .s (.mv 18 (.t 5)), .s (.call (some 19) 23 [(.t 17), (.t 18)]), .s (.mv 5 (.t 19))]) (.seq (.seq (.reg [.s (.mv 20 (.t 5)), .s (.bin 21 .lss (.t 20) (.k (.v (.c (.int .i64 0)))))]) (.cond (.t 21) (.seq (.reg [.s (.mv 4 (.k (.v (.c .tt))))]) (.ret)) (.skip))) (.seq (.reg [.s (.mv 22 (.t 1)), .s (.mv 23 (.t 5)), .s (.call (some 24) 13 [(.t 22), (.t 23)]), .s (.mv 5 (.t 24))]) (.seq (.seq (.reg [.s (.mv 25 (.t 5)), .s (.bin 26 .lss (.t 25) (.k (.v (.c (.int .i64 0)))))]) (.cond (.t 26) (.seq (.reg [.s (.mv 4 (.k (.v (.c .tt))))]) (.ret)) (.skip))) (.seq (.reg [.s (.load 28 true 4 (.t 2)), .s (.call (some 29) 25 [(.t 28)]), .s (.mv 30 (.t 1)), .s (.call (some 31) 16 [(.t 30)]), .s (.call (some 32) 42 [(.t 29), (.t 31)]), .s (.mv 27 (.t 32)), .s (.ext 33 (.t 27) 0), .s (.ext 34 (.t 27) 1), .s (.alloc 6 [.nils .word, .nils .bool, .nils .span, .nils .span]), .s (.store 4 (.t 6) (.t 33)), .s (.mv 7 (.t 34))]) (.seq (.reg [.s (.load 35 true 4 (.t 2)), .s (.call (some 36) 25 [(.t 35)]), .s (.alloc 8 [.nils .word, .nils .bool, .nils .span, .nils .span]), .s (.store 4 (.t 8) (.t 36))]) (.seq (.reg [.s (.mv 37 (.t 1)), .s (.call (some 38) 16 [(.t 37)]), .s (.mv 9 (.t 38))]) (.seq (.reg [.s (.load 40 true 4 (.t 8)), .s (.mv 41 (.t 9)), .s (.call (some 42) 43 [(.t 40), (.t 41)]), .s (.mv 39 (.t 42)), .s (.ext 43 (.t 39) 0), .s (.ext 44 (.t 39) 1), .s (.alloc 10 [.nils .word, .nils .bool, .nils .span, .nils .span]), .s (.store 4 (.t 10) (.t 43)), .s (.mv 11 (.t 44))]) (.seq (.seq (.reg [.s (.load 45 true 4 (.t 10)), .s (.load 46 true 4 (.t 6)), .s (.call (some 47) 27 [(.t 45), (.t 46)]), .s (.bnot 48 (.t 47)), .s (.mv 49 (.t 48)), .g 49 false (some 50) (.mv 50 (.t 11)), .g 49 false (some 51) (.mv 51 (.t 7)), .g 49 false (some 52) (.call (some 52) 18 [(.t 50), (.t 51)]), .g 49 false (some 53) (.bnot 53 (.t 52)), .s (.pick 54 (.t 49) (.k (.v (.c .tt))) (.t 53))]) (.cond (.t 54) (.seq (.reg [.s (.mv 4 (.k (.v (.c .ff))))]) (.ret)) (.skip))) (.seq (.seq (.rgd [.s (.load 55 true 4 (.t 8)), .s (.load 56 true 4 (.t 2)), .s (.call (some 57) 25 [(.t 56)]), .s (.call (some 58) 27 [(.t 55), (.t 57)]), .s (.bnot 59 (.t 58))] (.tk 0 (.tk 1 (.one 2 false (.one 3 true (.tk 4 (.done none))))))) (.cond (.t 59) (.seq (.reg [.s (.mv 4 (.k (.v (.c .ff))))]) (.ret)) (.skip))) (.seq (.seq (.reg [.s (.mv 60 (.t 9)), .s (.mv 61 (.t 1)), .s (.call (some 62) 16 [(.t 61)]), .s (.call (some 63) 18 [(.t 60), (.t 62)]), .s (.bnot 64 (.t 63))]) (.cond (.t 64) (.seq (.reg [.s (.mv 4 (.k (.v (.c .ff))))]) (.ret)) (.skip))) (.seq (.reg [.s (.mv 12 (.k (.v (.c (.int .i64 1)))))]) (.seq (.reg [.s (.load 65 true 4 (.t 8)), .s (.mv 66 (.t 12)), .s (.call (some 67) 44 [(.t 65), (.t 66)]), .s (.mv 12 (.t 67))]) (.seq (.reg [.s (.mv 68 (.t 9)), .s (.mv 69 (.t 12)), .s (.call (some 70) 21 [(.t 68), (.t 69)]), .s (.mv 12 (.t 70))]) (.seq (.seq (.reg [.s (.mv 71 (.t 12)), .s (.bin 72 .lss (.t 71) (.k (.v (.c (.int .i64 0))))), .s (.mv 73 (.t 72)), .g 73 false (some 74) (.load 74 true 4 (.t 10)), .g 73 false (some 75) (.load 75 true 4 (.t 6)), .g 73 false (some 76) (.call (some 76) 27 [(.t 74), (.t 75)]), .g 73 false (some 77) (.bnot 77 (.t 76)), .s (.pick 78 (.t 73) (.k (.v (.c .tt))) (.t 77)), .s (.mv 79 (.t 78)), .g 79 false (some 80) (.mv 80 (.t 11)), .g 79 false (some 81) (.mv 81 (.t 7)), .g 79 false (some 82) (.call (some 82) 18 [(.t 80), (.t 81)]), .g 79 false (some 83) (.bnot 83 (.t 82)), .s (.pick 84 (.t 79) (.k (.v (.c .tt))) (.t 83))]) (.cond (.t 84) (.seq (.reg [.s (.mv 4 (.k (.v (.c .ff))))]) (.ret)) (.skip))) (.seq (.reg [.s (.mv 13 (.k (.v (.c (.int .i64 1)))))]) (.seq (.reg [.s (.load 85 true 4 (.t 10)), .s (.mv 86 (.t 13)), .s (.call (some 87) 44 [(.t 85), (.t 86)]), .s (.mv 13 (.t 87))]) (.seq (.reg [.s (.mv 88 (.t 11)), .s (.mv 89 (.t 13)), .s (.call (some 90) 21 [(.t 88), (.t 89)]), .s (.mv 13 (.t 90))]) (.seq (.reg [.s (.mv 14 (.k (.v (.c (.int .i64 1)))))]) (.seq (.reg [.s (.load 91 true 4 (.t 10)), .s (.mv 92 (.t 14)), .s (.call (some 93) 45 [(.t 91), (.t 92)]), .s (.mv 14 (.t 93))]) (.seq (.seq (.reg [.s (.mv 94 (.t 14)), .s (.bin 95 .lss (.t 94) (.k (.v (.c (.int .i64 0)))))]) (.cond (.t 95) (.seq (.reg [.s (.mv 4 (.k (.v (.c .ff))))]) (.ret)) (.skip))) (.seq (.reg [.s (.mv 96 (.t 11)), .s (.mv 97 (.t 14)), .s (.call (some 98) 22 [(.t 96), (.t 97)]), .s (.mv 14 (.t 98))]) (.seq (.seq (.reg [.s (.mv 99 (.t 14)), .s (.bin 100 .lss (.t 99) (.k (.v (.c (.int .i64 0)))))]) (.cond (.t 100) (.seq (.reg [.s (.mv 4 (.k (.v (.c .ff))))]) (.ret)) (.skip))) (.seq (.seq (.reg [.s (.mv 101 (.t 14)), .s (.mv 102 (.t 13)), .s (.bin 103 .neq (.t 101) (.t 102))]) (.cond (.t 103) (.seq (.reg [.s (.mv 4 (.k (.v (.c .ff))))]) (.ret)) (.skip))) (.seq (.reg [.s (.load 105 true 4 (.t 2)), .s (.call (some 106) 25 [(.t 105)]), .s (.mv 107 (.t 1)), .s (.call (some 108) 16 [(.t 107)]), .s (.call (some 109) 43 [(.t 106), (.t 108)]), .s (.mv 104 (.t 109)), .s (.ext 110 (.t 104) 0), .s (.ext 111 (.t 104) 1), .s (.alloc 15 [.nils .word, .nils .bool, .nils .span, .nils .span]), .s (.store 4 (.t 15) (.t 110)), .s (.mv 16 (.t 111))]) (.seq (.seq (.reg [.s (.load 112 true 4 (.t 15)), .s (.load 113 true 4 (.t 6)), .s (.call (some 114) 27 [(.t 112), (.t 113)]), .s (.bnot 115 (.t 114)), .s (.mv 116 (.t 115)), .g 116 false (some 117) (.mv 117 (.t 16)), .g 116 false (some 118) (.mv 118 (.t 7)), .g 116 false (some 119) (.call (some 119) 18 [(.t 117), (.t 118)]), .g 116 false (some 120) (.bnot 120 (.t 119)), .s (.pick 121 (.t 116) (.k (.v (.c .tt))) (.t 120))]) (.cond (.t 121) (.seq (.reg [.s (.mv 4 (.k (.v (.c .ff))))]) (.ret)) (.skip))) (.seq (.reg [.s (.mv 14 (.k (.v (.c (.int .i64 1)))))]) (.seq (.reg [.s (.load 122 true 4 (.t 10)), .s (.mv 123 (.t 14)), .s (.call (some 124) 45 [(.t 122), (.t 123)]), .s (.mv 14 (.t 124))]) (.seq (.seq (.reg [.s (.mv 125 (.t 14)), .s (.bin 126 .lss (.t 125) (.k (.v (.c (.int .i64 0)))))]) (.cond (.t 126) (.seq (.reg [.s (.mv 4 (.k (.v (.c .ff))))]) (.ret)) (.skip))) (.seq (.reg [.s (.mv 127 (.t 11)), .s (.mv 128 (.t 14)), .s (.call (some 129) 22 [(.t 127), (.t 128)]), .s (.mv 14 (.t 129))]) (.seq (.seq (.reg [.s (.mv 130 (.t 14)), .s (.bin 131 .lss (.t 130) (.k (.v (.c (.int .i64 0)))))]) (.cond (.t 131) (.seq (.reg [.s (.mv 4 (.k (.v (.c .ff))))]) (.ret)) (.skip))) (.seq (.seq (.reg [.s (.mv 132 (.t 14)), .s (.mv 133 (.t 13)), .s (.bin 134 .neq (.t 132) (.t 133))]) (.cond (.t 134) (.seq (.reg [.s (.mv 4 (.k (.v (.c .ff))))]) (.ret)) (.skip))) (.seq (.reg [.s (.mv 4 (.k (.v (.c .tt))))]) (.ret)))))))))))))))))))))))))))))))))))⟩
def c_laws_FnExactClean : Fun := ⟨9, [], fun ts K => as2 ts fun t0 t1 => arG pHeapT t0 fun t => arC (pL .word) t1 fun rs => chk (LHeap t 9223372036854775807 ∧ rs.length ≤ 9223372036854775807) (K (tB true) [])⟩
theorem run_laws_FnExactClean (t : Heap) (rs : List (FT.Ty .word)) (hpre : LHeap t 9223372036854775807 ∧ rs.length ≤ 9223372036854775807) : runK [c_laws_szWordS, c_laws_toWordS, c_laws_eqWordS, c_laws_markWordS, c_laws_heldWordS, c_laws_szHeap, c_laws_toHeap, c_laws_eqHeap, c_spec_Clean, c_impl_Clean, c_laws_markHeap, c_laws_heldHeap] (0) [] pf_laws_FnExactClean [tG (t.tc false []), tL false .word rs] fun r o => r = tB true ∧ o = [] := by
  obtain ⟨l1, l2⟩ := hpre
  conv => whnf
  refine chk_i ⟨l1, by omega, by omega⟩ ?_
  conv => whnf
  refine sel_i (fun h => ?_) (fun h => ?_)
  · conv => whnf
    exact ⟨rfl, rfl⟩
  simp only [etaMemory, etaHeap, decide_eq_false_iff_not, Int.not_lt] at h
  obtain ⟨h1, h2⟩ := szHeap_n2 (k := 1048576) (by omega) h
  conv => whnf
  refine chk_i ⟨l2, h, h2⟩ ?_
  conv => whnf
  refine sel_i (fun h => ?_) (fun h => ?_)
  · conv => whnf
    exact ⟨rfl, rfl⟩
  simp only [etaMemory, etaHeap, decide_eq_false_iff_not, Int.not_lt] at h
  have h3 := szr_n h
  clear h
  have hl : rs.length ≤ 1048576 := by omega
  have hz2 : LHeap t 2147483647 := h1.mono (by decide)
  have hz3 : t.mem.words.length ≤ 2147483647 ∧ t.mem.gone.length ≤ 2147483647 ∧ t.live.length ≤ 2147483647 ∧ t.waits.length ≤ 2147483647 := ⟨hz2.1.1, hz2.1.2, hz2.2.1, hz2.2.2⟩
  obtain ⟨c1, c2⟩ := clean_len h1 hl
  have hz4 : (clean t rs).1.mem.words.length ≤ 2147483647 ∧ (clean t rs).1.mem.gone.length ≤ 2147483647 ∧ (clean t rs).1.live.length ≤ 2147483647 ∧ (clean t rs).1.waits.length ≤ 2147483647 := ⟨by have := c1.1.1; omega, by have := c1.1.2; omega, by have := c1.2.1; omega, by have := c1.2.2; omega⟩
  have z1 : SzHeap t := ⟨⟨hz3.1, hz3.2.1⟩, hz3.2.2.1, hz3.2.2.2⟩
  have z2 : SzHeap (clean t rs).1 := ⟨⟨hz4.1, hz4.2.1⟩, hz4.2.2.1, hz4.2.2.2⟩
  have z3 : (clean t rs).2.length ≤ 2147483647 := by omega
  have z4 := sz_markHeap (clean t rs).1 1 z2
  have e1 := endHeap_le t 1 z1
  have e2 := endHeap_le (clean t rs).1 1 z2
  have hl2 : LHeap t 1048576 ∧ rs.length ≤ 1048576 := ⟨h1, hl⟩
  have hl3 : rs.length ≤ 2147483647 := by omega
  clear l1 l2 h1 h2 h3 c1
  conv => whnf
  repeat' (first | (refine sel_i (fun h => ?_) (fun h => ?_) <;> conv => whnf) | (refine chk_c ?_ ?_ <;> conv => whnf) | (refine And.intro ?_ rfl) | (refine And.intro ?_ ?_ <;> conv => whnf))
  all_goals (try simp only [etaKey, etaWord, etaSpan, etaMemory, etaSide, etaTwo, etaState, etaHeap, etaMState, mkWordS_length, mkBoolS_length, mkSpanS_length, mkIntS_length, mark_markMemory, end_markMemory, mark_markHeap, end_markHeap, mark_markState, end_markState, mark_markTwo, end_markTwo, hres_true] at *)
  all_goals first
    | (refine ⟨?_⟩; assumption)
    | (refine ⟨?_⟩; exact ⟨by assumption, by assumption⟩)
    | (refine ⟨?_⟩; omega)
    | (refine ⟨?_⟩; exact ⟨by omega, by omega, by assumption⟩)
    | rfl
    | (refine ⟨?_⟩; simp [markMemory, markHeap, markSide, markTwo, markState, mkWordS_length, mkBoolS_length, mkSpanS_length, mkIntS_length]; done)
    | (exfalso; simp [hres_true] at *; done)
    | (exfalso; simp [hres_true] at *; omega)
    | trace_state
theorem ok_laws_FnExactClean : FunOk Try.prog c_laws_FnExactClean := funOk (E := [c_laws_szWordS, c_laws_toWordS, c_laws_eqWordS, c_laws_markWordS, c_laws_heldWordS, c_laws_szHeap, c_laws_toHeap, c_laws_eqHeap, c_spec_Clean, c_impl_Clean, c_laws_markHeap, c_laws_heldHeap]) (envOk_cons ok_laws_szWordS (envOk_cons ok_laws_toWordS (envOk_cons ok_laws_eqWordS (envOk_cons ok_laws_markWordS (envOk_cons ok_laws_heldWordS (envOk_cons ok_laws_szHeap (envOk_cons ok_laws_toHeap (envOk_cons ok_laws_eqHeap (envOk_cons ok_spec_Clean (envOk_cons ok_impl_Clean (envOk_cons ok_laws_markHeap (envOk_cons ok_laws_heldHeap (envOk_nil))))))))))))) mixd Try.func9 (pf := pf_laws_FnExactClean) (by kernel_rfl) fun ts K h => by
  obtain ⟨t0, t1, e0, h⟩ := as2_out h
  subst e0
  obtain ⟨t, e1, hq⟩ := arG_out rd_heap h
  clear h
  subst e1
  have h := hq
  clear hq
  obtain ⟨rs, e1, hq⟩ := arC_out (rd_l .word) h
  clear h
  subst e1
  have h := hq
  clear hq
  obtain ⟨hpre, h⟩ := chk_o h
  exact ⟨_, _, h, Nat.le_of_ble_eq_true (show Nat.ble 2 Try.f9.ntmps = true by kernel_rfl), _, run_laws_FnExactClean t rs hpre⟩

end Go.Pi
namespace Go.Proofs.Ytepkbkojgbcahaa
open Go.Pi
theorem fnExactClean_lifted (os : Os) (started : os.Started) (H : Type) (enc : TypeId × Value → H) :
    ReturnsInHanded {} Try.checked os 9 .any (Rows.fnExactCleanSpec.pre6 enc Try.prog Try.f9 Rows.fnExactCleanRow.domain false) (Rows.fnExactCleanSpec.post enc Try.prog Try.f9 false true false false) :=
  lifted (C := Try.checked) (E := [c_laws_szWordS, c_laws_toWordS, c_laws_eqWordS, c_laws_markWordS, c_laws_heldWordS, c_laws_szHeap, c_laws_toHeap, c_laws_eqHeap, c_spec_Clean, c_impl_Clean, c_laws_markHeap, c_laws_heldHeap]) (fuel := _) (pf := pf_laws_FnExactClean) (shs := [(true, ckHeap), (false, [.sl .word])]) (tb := 4) (by kernel_rfl) started (by kernel_rfl) Try.func9
    (ChangeSpec.witness6 (enc := enc) (C := Try.checked) false ⟨#[], #[.agg #[.slice none 0 0, .slice none 0 0, .slice none 0 0, .slice none 0 0], .slice none 0 0], []⟩ 12 (by kernel_rfl) (by kernel_rfl) (by kernel_rfl) (by kernel_rfl))
    mixd (envOk_cons ok_laws_szWordS (envOk_cons ok_laws_toWordS (envOk_cons ok_laws_eqWordS (envOk_cons ok_laws_markWordS (envOk_cons ok_laws_heldWordS (envOk_cons ok_laws_szHeap (envOk_cons ok_laws_toHeap (envOk_cons ok_laws_eqHeap (envOk_cons ok_spec_Clean (envOk_cons ok_impl_Clean (envOk_cons ok_laws_markHeap (envOk_cons ok_laws_heldHeap (envOk_nil))))))))))))) (by kernel_rfl) (by kernel_rfl) (by kernel_rfl) rfl (by kernel_rfl) rfl
    (fun ds h => by
      obtain _ | ⟨d0, ds⟩ := ds
      · simp at h
      obtain _ | ⟨d1, ds⟩ := ds
      · simp at h
      obtain _ | ⟨x, ds⟩ := ds
      · rfl
      · simp at h)
    (fun ain h0 => by
      obtain ⟨T0, ain0, e, k0, h1⟩ := areCons h0
      subst e
      obtain ⟨T1, ain1, e, k1, h2⟩ := areCons h1
      subst e
      have e := areNil h2
      subst e
      obtain ⟨t, e, w0⟩ := areG ut_heap k0
      subst e
      obtain ⟨rs, e, w1⟩ := isL k1
      subst e
      exact run_laws_FnExactClean t rs (⟨lHeap_of w0, w1.2⟩))
theorem fnExactClean_over : Rows.fnExactCleanRow.holds Try.pinned (OpenSpec.ofChange Rows.fnExactCleanSpec) :=
  OpenClaim.holds_of_wide 9 Try.f9 rfl rfl rfl rfl rfl rfl rfl ⟨rfl, rfl, rfl, rfl, rfl⟩ rfl rfl rfl rfl rfl (by kernel_rfl) Try.func9 (by kernel_rfl)
    (of_decide_eq_true (by kernel_rfl)) (by unfold Func.isWrapper; first | (rw [if_pos (by decide +kernel)]; kernel_rfl) | (rw [if_neg (by decide +kernel)]; exact ⟨rfl, rfl⟩))
    (fun os started H enc _ => fnExactClean_lifted os started H enc)
theorem fnExactClean_holds : Rows.FnExactCleanSaid := fnExactClean_over
#print axioms fnExactClean_holds
end Go.Proofs.Ytepkbkojgbcahaa
