/- FnExactGrant: the given statement holds, out of the law's run by PI. No conditions. -/
import Derived.Test.YthpjpaginggjaaaC4
namespace Go.Pi
open Go.Proofs
set_option linter.unusedVariables false
set_option linter.unusedSimpArgs false
set_option maxRecDepth 100000
attribute [local irreducible] iterN
def pf_laws_FnExactGrant : PF := ⟨[.t 4], .seq (.reg [.s (.box 2 (.t 0)), .s (.mv 4 (.k (.v (.c .ff))))]) (.seq (.reg [.s (.mv 5 (.k (.v (.c (.int .i64 1048576)))))]) (.seq (.reg [.s (.load 19 true 4 (.t 2)), .s (.mv 20 (.t 5)), .s (.call (some 21) 61 [(.t 19), (.t 20)]), .s (.mv 5 (.t 21))]) (.seq (.seq (.reg [.s (.mv 22 (.t 5)), .s (.bin 23 .lss (.t 22) (.k (.v (.c (.int .i64 0)))))]) (.cond (.t 23) (.seq (.reg [.s (.mv 4 (.k (.v (.c .tt))))]) (.ret)) (.skip))) (.seq (.reg [.s (.load 25 true 4 (.t 2)), .s (.call (some 26) 63 [(.t 25)]), .s (.mv 27 (.t 1)), .s (.call (some 28) 70 [(.t 26), (.t 27)]), .s (.mv 24 (.t 28)), .s (.ext 29 (.t 24) 0), .s (.ext 30 (.t 24) 1), .s (.ext 31 (.t 24) 2), .s (.alloc 6 [.nils .word, .nils .bool, .nils .span, .nils .span]), .s (.alloc 7 [.int .i64 0, .ff, .int .i64 0, .int .i64 0, .int .i64 0, .int .i64 0]), .s (.store 4 (.t 6) (.t 29)), .s (.store 6 (.t 7) (.t 30)), .s (.mv 8 (.t 31))]) (.seq (.reg [.s (.load 32 true 4 (.t 2)), .s (.call (some 33) 63 [(.t 32)]), .s (.alloc 9 [.nils .word, .nils .bool, .nils .span, .nils .span]), .s (.store 4 (.t 9) (.t 33))]) (.seq (.reg [.s (.load 35 true 4 (.t 9)), .s (.mv 36 (.t 1)), .s (.call (some 37) 71 [(.t 35), (.t 36)]), .s (.mv 34 (.t 37)), .s (.ext 38 (.t 34) 0), .s (.ext 39 (.t 34) 1), .s (.ext 40 (.t 34) 2), .s (.alloc 10 [.nils .word, .nils .bool, .nils .span, .nils .span]), .s (.alloc 11 [.int .i64 0, .ff, .int .i64 0, .int .i64 0, .int .i64 0, .int .i64 0]), .s (.store 4 (.t 10) (.t 38)), .s (.store 6 (.t 11) (.t 39)), .s (.mv 12 (.t 40))]) (.seq (.seq (.reg [.s (.load 41 true 4 (.t 10)), .s (.load 42 true 4 (.t 6)), .s (.call (some 43) 65 [(.t 41), (.t 42)]), .s (.bnot 44 (.t 43)), .s (.mv 45 (.t 44)), .g 45 false (some 46) (.load 46 true 6 (.t 11)), .g 45 false (some 47) (.load 47 true 6 (.t 7)), .g 45 false (some 48) (.call (some 48) 72 [(.t 46), (.t 47)]), .g 45 false (some 49) (.bnot 49 (.t 48)), .s (.pick 50 (.t 45) (.k (.v (.c .tt))) (.t 49)), .s (.mv 51 (.t 50)), .g 51 false (some 52) (.mv 52 (.t 12)), .g 51 false (some 53) (.mv 53 (.t 8)), .g 51 false (some 54) (.eqs 54 false [.b] true (.t 52) (.t 53)), .s (.pick 55 (.t 51) (.k (.v (.c .tt))) (.t 54))]) (.cond (.t 55) (.seq (.reg [.s (.mv 4 (.k (.v (.c .ff))))]) (.ret)) (.skip))) (.seq (.seq (.rgd [] [.s (.load 56 true 4 (.t 9)), .s (.load 57 true 4 (.t 2)), .s (.call (some 58) 63 [(.t 57)]), .s (.call (some 59) 65 [(.t 56), (.t 58)]), .s (.bnot 60 (.t 59))] (.tk 0 (.tk 1 (.one 2 false (.one 3 true (.tk 4 (.done none))))))) (.cond (.t 60) (.seq (.reg [.s (.mv 4 (.k (.v (.c .ff))))]) (.ret)) (.skip))) (.seq (.reg [.s (.mv 13 (.k (.v (.c (.int .i64 1)))))]) (.seq (.reg [.s (.load 61 true 4 (.t 9)), .s (.mv 62 (.t 13)), .s (.call (some 63) 68 [(.t 61), (.t 62)]), .s (.mv 13 (.t 63))]) (.seq (.seq (.reg [.s (.mv 64 (.t 13)), .s (.bin 65 .lss (.t 64) (.k (.v (.c (.int .i64 0))))), .s (.mv 66 (.t 65)), .g 66 false (some 67) (.load 67 true 4 (.t 10)), .g 66 false (some 68) (.load 68 true 4 (.t 6)), .g 66 false (some 69) (.call (some 69) 65 [(.t 67), (.t 68)]), .g 66 false (some 70) (.bnot 70 (.t 69)), .s (.pick 71 (.t 66) (.k (.v (.c .tt))) (.t 70)), .s (.mv 72 (.t 71)), .g 72 false (some 73) (.load 73 true 6 (.t 11)), .g 72 false (some 74) (.load 74 true 6 (.t 7)), .g 72 false (some 75) (.call (some 75) 72 [(.t 73), (.t 74)]), .g 72 false (some 76) (.bnot 76 (.t 75)), .s (.pick 77 (.t 72) (.k (.v (.c .tt))) (.t 76)), .s (.mv 78 (.t 77)), .g 78 false (some 79) (.mv 79 (.t 12)), .g 78 false (some 80) (.mv 80 (.t 8)), .g 78 false (some 81) (.eqs 81 false [.b] true (.t 79) (.t 80)), .s (.pick 82 (.t 78) (.k (.v (.c .tt))) (.t 81))]) (.cond (.t 82) (.seq (.reg [.s (.mv 4 (.k (.v (.c .ff))))]) (.ret)) (.skip))) (.seq (.reg [.s (.mv 14 (.k (.v (.c (.int .i64 1)))))]) (.seq (.reg [.s (.load 83 true 4 (.t 10)), .s (.mv 84 (.t 14)), .s (.call (some 85) 68 [(.t 83), (.t 84)]), .s (.mv 14 (.t 85))]) (.seq (.reg [.s (.mv 15 (.k (.v (.c (.int .i64 1)))))]) (.seq (.reg [.s (.load 86 true 4 (.t 10)), .s (.mv 87 (.t 15)), .s (.call (some 88) 69 [(.t 86), (.t 87)]), .s (.mv 15 (.t 88))]) (.seq (.seq (.reg [.s (.mv 89 (.t 15)), .s (.bin 90 .lss (.t 89) (.k (.v (.c (.int .i64 0)))))]) (.cond (.t 90) (.seq (.reg [.s (.mv 4 (.k (.v (.c .ff))))]) (.ret)) (.skip))) (.seq (.seq (.reg [.s (.mv 91 (.t 15)), .s (.mv 92 (.t 14)), .s (.bin 93 .neq (.t 91) (.t 92))]) (.cond (.t 93) (.seq (.reg [.s (.mv 4 (.k (.v (.c .ff))))]) (.ret)) (.skip))) (.seq (.reg [.s (.load 95 true 4 (.t 2)), .s (.call (some 96) 63 [(.t 95)]), .s (.mv 97 (.t 1)), .s (.call (some 98) 71 [(.t 96), (.t 97)]), .s (.mv 94 (.t 98)), .s (.ext 99 (.t 94) 0), .s (.ext 100 (.t 94) 1), .s (.ext 101 (.t 94) 2), .s (.alloc 16 [.nils .word, .nils .bool, .nils .span, .nils .span]), .s (.alloc 17 [.int .i64 0, .ff, .int .i64 0, .int .i64 0, .int .i64 0, .int .i64 0]), .s (.store 4 (.t 16) (.t 99)), .s (.store 6 (.t 17) (.t 100)), .s (.mv 18 (.t 101))]) (.seq (.seq (.reg [.s (.load 102 true 4 (.t 16)), .s (.load 103 true 4 (.t 6)), .s (.call (some 104) 65 [(.t 102), (.t 103)]), .s (.bnot 105 (.t 104)), .s (.mv 106 (.t 105)), .g 106 false (some 107) (.load 107 true 6 (.t 17)), .g 106 false (some 108) (.load 108 true 6 (.t 7)), .g 106 false (some 109) (.call (some 109) 72 [(.t 107), (.t 108)]), .g 106 false (some 110) (.bnot 110 (.t 109)), .s (.pick 111 (.t 106) (.k (.v (.c .tt))) (.t 110)), .s (.mv 112 (.t 111)), .g 112 false (some 113) (.mv 113 (.t 18)), .g 112 false (some 114) (.mv 114 (.t 8)), .g 112 false (some 115) (.eqs 115 false [.b] true (.t 113) (.t 114)), .s (.pick 116 (.t 112) (.k (.v (.c .tt))) (.t 115))]) (.cond (.t 116) (.seq (.reg [.s (.mv 4 (.k (.v (.c .ff))))]) (.ret)) (.skip))) (.seq (.reg [.s (.mv 15 (.k (.v (.c (.int .i64 1)))))]) (.seq (.reg [.s (.load 117 true 4 (.t 10)), .s (.mv 118 (.t 15)), .s (.call (some 119) 69 [(.t 117), (.t 118)]), .s (.mv 15 (.t 119))]) (.seq (.seq (.reg [.s (.mv 120 (.t 15)), .s (.bin 121 .lss (.t 120) (.k (.v (.c (.int .i64 0)))))]) (.cond (.t 121) (.seq (.reg [.s (.mv 4 (.k (.v (.c .ff))))]) (.ret)) (.skip))) (.seq (.seq (.reg [.s (.mv 122 (.t 15)), .s (.mv 123 (.t 14)), .s (.bin 124 .neq (.t 122) (.t 123))]) (.cond (.t 124) (.seq (.reg [.s (.mv 4 (.k (.v (.c .ff))))]) (.ret)) (.skip))) (.seq (.reg [.s (.mv 4 (.k (.v (.c .tt))))]) (.ret)))))))))))))))))))))))))⟩
def c_laws_FnExactGrant : Fun := ⟨9, [], fun ts K => as2 ts fun t0 t1 => arG pHeapT t0 fun t => arC (pI .i64) t1 fun n => chk (LHeap t 9223372036854775807) (K (tB true) [])⟩
theorem run_laws_FnExactGrant (t : Heap) (n : Int) (hpre : LHeap t 9223372036854775807) : runK [c_laws_szHeap, c_laws_toHeap, c_laws_eqHeap, c_laws_markHeap, c_laws_heldHeap, c_spec_Grant, c_impl_Grant, c_laws_eqWord] (0) [] pf_laws_FnExactGrant [tG (t.tc false []), tI .i64 n] fun r o => r = tB true ∧ o = [] := by
  have l1 := hpre
  conv => whnf
  refine chk_i ⟨l1, by omega, by omega⟩ ?_
  conv => whnf
  refine sel_i (fun h => ?_) (fun h => ?_)
  · conv => whnf
    exact ⟨rfl, rfl⟩
  simp only [etaMemory, etaHeap, decide_eq_false_iff_not, Int.not_lt] at h
  obtain ⟨h1, h2⟩ := szHeap_n2 (k := 1048576) (by omega) h
  clear h
  have hz2 : LHeap t 2147483647 := h1.mono (by decide)
  have hz3 : t.mem.words.length ≤ 2147483647 ∧ t.mem.gone.length ≤ 2147483647 ∧ t.live.length ≤ 2147483647 ∧ t.waits.length ≤ 2147483647 := ⟨hz2.1.1, hz2.1.2, hz2.2.1, hz2.2.2⟩
  have c1 := grant_len (n := n) h1 (by decide)
  have hz4 : (grant t n).1.mem.words.length ≤ 2147483647 ∧ (grant t n).1.mem.gone.length ≤ 2147483647 ∧ (grant t n).1.live.length ≤ 2147483647 ∧ (grant t n).1.waits.length ≤ 2147483647 := ⟨by have := c1.1.1; omega, by have := c1.1.2; omega, by have := c1.2.1; omega, by have := c1.2.2; omega⟩
  have z1 : SzHeap t := ⟨⟨hz3.1, hz3.2.1⟩, hz3.2.2.1, hz3.2.2.2⟩
  have z2 : SzHeap (grant t n).1 := ⟨⟨hz4.1, hz4.2.1⟩, hz4.2.2.1, hz4.2.2.2⟩
  have z4 := sz_markHeap (grant t n).1 1 z2
  have e1 := endHeap_le t 1 z1
  have e2 := endHeap_le (grant t n).1 1 z2
  clear l1 h2 c1 hpre
  conv => whnf
  repeat' (first | (refine sel_i (fun h => ?_) (fun h => ?_) <;> conv => whnf) | (refine chk_c ?_ ?_ <;> conv => whnf) | (refine And.intro ?_ rfl) | (refine And.intro ?_ ?_ <;> conv => whnf))
  all_goals (try simp only [etaKey, etaWord, etaInst, etaSpan, mkInsS_length, mkByteS_length, etaMemory, etaSide, etaTwo, etaState, etaHeap, etaMState, mkWordS_length, mkBoolS_length, mkSpanS_length, mkIntS_length, mark_markMemory, end_markMemory, mark_markHeap, end_markHeap, mark_markState, end_markState, mark_markTwo, end_markTwo, hres_true] at *)
  all_goals first
    | (refine ⟨?_⟩; assumption)
    | (refine ⟨?_⟩; exact ⟨by assumption, by assumption⟩)
    | (refine ⟨?_⟩; exact ⟨by assumption, by assumption, by assumption⟩)
    | (refine ⟨?_⟩; omega)
    | (refine ⟨?_⟩; exact ⟨by omega, by omega, by assumption⟩)
    | rfl
    | trivial
    | (refine ⟨?_⟩; simp [markMemory, markHeap, markSide, markTwo, markState, mkInsS_length, mkByteS_length, mkWordS_length, mkBoolS_length, mkSpanS_length, mkIntS_length]; done)
    | (exfalso; simp [hres_true] at *; done)
    | (exfalso; simp [hres_true] at *; omega)
    | trace_state
theorem ok_laws_FnExactGrant : FunOk Try.prog c_laws_FnExactGrant := funOk (E := [c_laws_szHeap, c_laws_toHeap, c_laws_eqHeap, c_laws_markHeap, c_laws_heldHeap, c_spec_Grant, c_impl_Grant, c_laws_eqWord]) (envOk_cons ok_laws_szHeap (envOk_cons ok_laws_toHeap (envOk_cons ok_laws_eqHeap (envOk_cons ok_laws_markHeap (envOk_cons ok_laws_heldHeap (envOk_cons ok_spec_Grant (envOk_cons ok_impl_Grant (envOk_cons ok_laws_eqWord (envOk_nil))))))))) mixd Try.func9 (pf := pf_laws_FnExactGrant) (by kernel_rfl) fun ts K h => by
  obtain ⟨t0, t1, e0, h⟩ := as2_out h
  subst e0
  obtain ⟨t, e1, hq⟩ := arG_out rd_heap h
  clear h
  subst e1
  have h := hq
  clear hq
  obtain ⟨n, e1, hq⟩ := arC_out (rd_int .i64) h
  clear h
  subst e1
  have h := hq
  clear hq
  obtain ⟨hpre, h⟩ := chk_o h
  exact ⟨_, _, h, Nat.le_of_ble_eq_true (show Nat.ble 2 Try.f9.ntmps = true by kernel_rfl), _, run_laws_FnExactGrant t n hpre⟩

end Go.Pi
namespace Go.Proofs.Ythpjpaginggjaaa
open Go.Pi
theorem fnExactGrant_lifted (os : Os) (started : os.Started) (H : Type) (enc : TypeId × Value → H) :
    ReturnsInHanded {} Try.checked os 9 .any (Rows.fnExactGrantSpec.pre6 enc Try.prog Try.f9 Rows.fnExactGrantRow.domain false) (Rows.fnExactGrantSpec.post enc Try.prog Try.f9 false true false false) :=
  lifted (C := Try.checked) (E := [c_laws_szHeap, c_laws_toHeap, c_laws_eqHeap, c_laws_markHeap, c_laws_heldHeap, c_spec_Grant, c_impl_Grant, c_laws_eqWord]) (fuel := _) (pf := pf_laws_FnExactGrant) (shs := [(true, ckHeap), (false, [.int .i64])]) (tb := 4) (by kernel_rfl) started (by kernel_rfl) Try.func9
    (ChangeSpec.witness6 (enc := enc) (C := Try.checked) false ⟨#[], #[.agg #[.slice none 0 0, .slice none 0 0, .slice none 0 0, .slice none 0 0], .int .i64 0], []⟩ 12 (by kernel_rfl) (by kernel_rfl) (by kernel_rfl) (by kernel_rfl))
    mixd (envOk_cons ok_laws_szHeap (envOk_cons ok_laws_toHeap (envOk_cons ok_laws_eqHeap (envOk_cons ok_laws_markHeap (envOk_cons ok_laws_heldHeap (envOk_cons ok_spec_Grant (envOk_cons ok_impl_Grant (envOk_cons ok_laws_eqWord (envOk_nil))))))))) (by kernel_rfl) (by kernel_rfl) (by kernel_rfl) rfl (by kernel_rfl) rfl
    (fun ds h => by
      obtain _ | ⟨d0, ds⟩ := ds
      · simp at h
      obtain _ | ⟨d1, ds⟩ := ds
      · simp at h
      obtain _ | ⟨x, ds⟩ := ds
      · rfl
      · simp at h)
    (fun ain h0 => by
      obtain ⟨T0, ain0, e, k0, h1⟩ := areCons h0
      subst e
      obtain ⟨T1, ain1, e, k1, h2⟩ := areCons h1
      subst e
      have e := areNil h2
      subst e
      obtain ⟨t, e, w0⟩ := areG ut_heap k0
      subst e
      obtain ⟨n, e, w1⟩ := isN k1
      subst e
      exact run_laws_FnExactGrant t n (lHeap_of w0))
theorem fnExactGrant_over : Rows.fnExactGrantRow.holds Try.pinned (OpenSpec.ofChange Rows.fnExactGrantSpec) :=
  OpenClaim.holds_of_wide 9 Try.f9 rfl rfl rfl rfl rfl rfl rfl ⟨rfl, rfl, rfl, rfl, rfl⟩ rfl rfl rfl rfl rfl (by kernel_rfl) Try.func9 (by kernel_rfl)
    (of_decide_eq_true (by kernel_rfl)) (by unfold Func.isWrapper; first | (rw [if_pos (by decide +kernel)]; kernel_rfl) | (rw [if_neg (by decide +kernel)]; exact ⟨rfl, rfl⟩))
    (fun os started H enc _ => fnExactGrant_lifted os started H enc)
theorem fnExactGrant_holds : Rows.FnExactGrantSaid := fnExactGrant_over
#print axioms fnExactGrant_holds
end Go.Proofs.Ythpjpaginggjaaa
