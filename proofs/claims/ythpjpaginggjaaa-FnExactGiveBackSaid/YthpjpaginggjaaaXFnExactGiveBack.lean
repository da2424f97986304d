/- FnExactGiveBack: the given statement holds, out of the law's run by PI. No conditions. -/
import Derived.Test.YthpjpaginggjaaaC4
namespace Go.Pi
open Go.Proofs
set_option linter.unusedVariables false
set_option linter.unusedSimpArgs false
set_option maxRecDepth 100000
attribute [local irreducible] iterN
def pf_laws_FnExactGiveBack : PF := ⟨[.t 4], .seq (.reg [.s (.box 2 (.t 0)), .s (.mv 4 (.k (.v (.c .ff))))]) (.seq (.reg [.s (.mv 5 (.k (.v (.c (.int .i64 1048576)))))]) (.seq (.reg [.s (.load 16 true 4 (.t 2)), .s (.mv 17 (.t 5)), .s (.call (some 18) 61 [(.t 16), (.t 17)]), .s (.mv 5 (.t 18))]) (.seq (.seq (.reg [.s (.mv 19 (.t 5)), .s (.bin 20 .lss (.t 19) (.k (.v (.c (.int .i64 0)))))]) (.cond (.t 20) (.seq (.reg [.s (.mv 4 (.k (.v (.c .tt))))]) (.ret)) (.skip))) (.seq (.reg [.s (.load 22 true 4 (.t 2)), .s (.call (some 23) 63 [(.t 22)]), .s (.mv 24 (.t 1)), .s (.call (some 25) 66 [(.t 23), (.t 24)]), .s (.mv 21 (.t 25)), .s (.ext 26 (.t 21) 0), .s (.ext 27 (.t 21) 1), .s (.alloc 6 [.nils .word, .nils .bool, .nils .span, .nils .span]), .s (.store 4 (.t 6) (.t 26)), .s (.mv 7 (.t 27))]) (.seq (.reg [.s (.load 28 true 4 (.t 2)), .s (.call (some 29) 63 [(.t 28)]), .s (.alloc 8 [.nils .word, .nils .bool, .nils .span, .nils .span]), .s (.store 4 (.t 8) (.t 29))]) (.seq (.reg [.s (.load 31 true 4 (.t 8)), .s (.mv 32 (.t 1)), .s (.call (some 33) 67 [(.t 31), (.t 32)]), .s (.mv 30 (.t 33)), .s (.ext 34 (.t 30) 0), .s (.ext 35 (.t 30) 1), .s (.alloc 9 [.nils .word, .nils .bool, .nils .span, .nils .span]), .s (.store 4 (.t 9) (.t 34)), .s (.mv 10 (.t 35))]) (.seq (.seq (.reg [.s (.load 36 true 4 (.t 9)), .s (.load 37 true 4 (.t 6)), .s (.call (some 38) 65 [(.t 36), (.t 37)]), .s (.bnot 39 (.t 38)), .s (.mv 40 (.t 39)), .g 40 false (some 41) (.mv 41 (.t 10)), .g 40 false (some 42) (.mv 42 (.t 7)), .g 40 false (some 43) (.eqs 43 false [.b] true (.t 41) (.t 42)), .s (.pick 44 (.t 40) (.k (.v (.c .tt))) (.t 43))]) (.cond (.t 44) (.seq (.reg [.s (.mv 4 (.k (.v (.c .ff))))]) (.ret)) (.skip))) (.seq (.seq (.rgd [] [.s (.load 45 true 4 (.t 8)), .s (.load 46 true 4 (.t 2)), .s (.call (some 47) 63 [(.t 46)]), .s (.call (some 48) 65 [(.t 45), (.t 47)]), .s (.bnot 49 (.t 48))] (.tk 0 (.tk 1 (.one 2 false (.one 3 true (.tk 4 (.done none))))))) (.cond (.t 49) (.seq (.reg [.s (.mv 4 (.k (.v (.c .ff))))]) (.ret)) (.skip))) (.seq (.reg [.s (.mv 11 (.k (.v (.c (.int .i64 1)))))]) (.seq (.reg [.s (.load 50 true 4 (.t 8)), .s (.mv 51 (.t 11)), .s (.call (some 52) 68 [(.t 50), (.t 51)]), .s (.mv 11 (.t 52))]) (.seq (.seq (.reg [.s (.mv 53 (.t 11)), .s (.bin 54 .lss (.t 53) (.k (.v (.c (.int .i64 0))))), .s (.mv 55 (.t 54)), .g 55 false (some 56) (.load 56 true 4 (.t 9)), .g 55 false (some 57) (.load 57 true 4 (.t 6)), .g 55 false (some 58) (.call (some 58) 65 [(.t 56), (.t 57)]), .g 55 false (some 59) (.bnot 59 (.t 58)), .s (.pick 60 (.t 55) (.k (.v (.c .tt))) (.t 59)), .s (.mv 61 (.t 60)), .g 61 false (some 62) (.mv 62 (.t 10)), .g 61 false (some 63) (.mv 63 (.t 7)), .g 61 false (some 64) (.eqs 64 false [.b] true (.t 62) (.t 63)), .s (.pick 65 (.t 61) (.k (.v (.c .tt))) (.t 64))]) (.cond (.t 65) (.seq (.reg [.s (.mv 4 (.k (.v (.c .ff))))]) (.ret)) (.skip))) (.seq (.reg [.s (.mv 12 (.k (.v (.c (.int .i64 1)))))]) (.seq (.reg [.s (.load 66 true 4 (.t 9)), .s (.mv 67 (.t 12)), .s (.call (some 68) 68 [(.t 66), (.t 67)]), .s (.mv 12 (.t 68))]) (.seq (.reg [.s (.mv 13 (.k (.v (.c (.int .i64 1)))))]) (.seq (.reg [.s (.load 69 true 4 (.t 9)), .s (.mv 70 (.t 13)), .s (.call (some 71) 69 [(.t 69), (.t 70)]), .s (.mv 13 (.t 71))]) (.seq (.seq (.reg [.s (.mv 72 (.t 13)), .s (.bin 73 .lss (.t 72) (.k (.v (.c (.int .i64 0)))))]) (.cond (.t 73) (.seq (.reg [.s (.mv 4 (.k (.v (.c .ff))))]) (.ret)) (.skip))) (.seq (.seq (.reg [.s (.mv 74 (.t 13)), .s (.mv 75 (.t 12)), .s (.bin 76 .neq (.t 74) (.t 75))]) (.cond (.t 76) (.seq (.reg [.s (.mv 4 (.k (.v (.c .ff))))]) (.ret)) (.skip))) (.seq (.reg [.s (.load 78 true 4 (.t 2)), .s (.call (some 79) 63 [(.t 78)]), .s (.mv 80 (.t 1)), .s (.call (some 81) 67 [(.t 79), (.t 80)]), .s (.mv 77 (.t 81)), .s (.ext 82 (.t 77) 0), .s (.ext 83 (.t 77) 1), .s (.alloc 14 [.nils .word, .nils .bool, .nils .span, .nils .span]), .s (.store 4 (.t 14) (.t 82)), .s (.mv 15 (.t 83))]) (.seq (.seq (.reg [.s (.load 84 true 4 (.t 14)), .s (.load 85 true 4 (.t 6)), .s (.call (some 86) 65 [(.t 84), (.t 85)]), .s (.bnot 87 (.t 86)), .s (.mv 88 (.t 87)), .g 88 false (some 89) (.mv 89 (.t 15)), .g 88 false (some 90) (.mv 90 (.t 7)), .g 88 false (some 91) (.eqs 91 false [.b] true (.t 89) (.t 90)), .s (.pick 92 (.t 88) (.k (.v (.c .tt))) (.t 91))]) (.cond (.t 92) (.seq (.reg [.s (.mv 4 (.k (.v (.c .ff))))]) (.ret)) (.skip))) (.seq (.reg [.s (.mv 13 (.k (.v (.c (.int .i64 1)))))]) (.seq (.reg [.s (.load 93 true 4 (.t 9)), .s (.mv 94 (.t 13)), .s (.call (some 95) 69 [(.t 93), (.t 94)]), .s (.mv 13 (.t 95))]) (.seq (.seq (.reg [.s (.mv 96 (.t 13)), .s (.bin 97 .lss (.t 96) (.k (.v (.c (.int .i64 0)))))]) (.cond (.t 97) (.seq (.reg [.s (.mv 4 (.k (.v (.c .ff))))]) (.ret)) (.skip))) (.seq (.seq (.reg [.s (.mv 98 (.t 13)), .s (.mv 99 (.t 12)), .s (.bin 100 .neq (.t 98) (.t 99))]) (.cond (.t 100) (.seq (.reg [.s (.mv 4 (.k (.v (.c .ff))))]) (.ret)) (.skip))) (.seq (.reg [.s (.mv 4 (.k (.v (.c .tt))))]) (.ret)))))))))))))))))))))))))⟩
def c_laws_FnExactGiveBack : Fun := ⟨8, [], fun ts K => as2 ts fun t0 t1 => arG pHeapT t0 fun t => arC (pI .i64) t1 fun a => chk (LHeap t 9223372036854775807) (K (tB true) [])⟩
theorem run_laws_FnExactGiveBack (t : Heap) (a : Int) (hpre : LHeap t 9223372036854775807) : runK [c_laws_szHeap, c_laws_toHeap, c_laws_eqHeap, c_spec_GiveBack, c_impl_GiveBack, c_laws_markHeap, c_laws_heldHeap] (0) [] pf_laws_FnExactGiveBack [tG (t.tc false []), tI .i64 a] fun r o => r = tB true ∧ o = [] := by
  have l1 := hpre
  conv => whnf
  refine chk_i ⟨l1, by omega, by omega⟩ ?_
  conv => whnf
  refine sel_i (fun h => ?_) (fun h => ?_)
  · conv => whnf
    exact ⟨rfl, rfl⟩
  simp only [etaMemory, etaHeap, decide_eq_false_iff_not, Int.not_lt] at h
  obtain ⟨h1, h2⟩ := szHeap_n2 (k := 1048576) (by omega) h
  clear h
  have hz2 : LHeap t 2147483647 := h1.mono (by decide)
  have hz3 : t.mem.words.length ≤ 2147483647 ∧ t.mem.gone.length ≤ 2147483647 ∧ t.live.length ≤ 2147483647 ∧ t.waits.length ≤ 2147483647 := ⟨hz2.1.1, hz2.1.2, hz2.2.1, hz2.2.2⟩
  have c1 := give_len (a := a) h1 (by decide)
  have hz4 : (giveBack t a).1.mem.words.length ≤ 2147483647 ∧ (giveBack t a).1.mem.gone.length ≤ 2147483647 ∧ (giveBack t a).1.live.length ≤ 2147483647 ∧ (giveBack t a).1.waits.length ≤ 2147483647 := ⟨by have := c1.1.1; omega, by have := c1.1.2; omega, by have := c1.2.1; omega, by have := c1.2.2; omega⟩
  have z1 : SzHeap t := ⟨⟨hz3.1, hz3.2.1⟩, hz3.2.2.1, hz3.2.2.2⟩
  have z2 : SzHeap (giveBack t a).1 := ⟨⟨hz4.1, hz4.2.1⟩, hz4.2.2.1, hz4.2.2.2⟩
  have z4 := sz_markHeap (giveBack t a).1 1 z2
  have e1 := endHeap_le t 1 z1
  have e2 := endHeap_le (giveBack t a).1 1 z2
  clear l1 h2 c1 hpre
  conv => whnf
  repeat' (first | (refine sel_i (fun h => ?_) (fun h => ?_) <;> conv => whnf) | (refine chk_c ?_ ?_ <;> conv => whnf) | (refine And.intro ?_ rfl) | (refine And.intro ?_ ?_ <;> conv => whnf))
  all_goals (try simp only [etaKey, etaWord, etaInst, etaSpan, mkInsS_length, mkByteS_length, etaMemory, etaSide, etaTwo, etaState, etaHeap, etaMState, mkWordS_length, mkBoolS_length, mkSpanS_length, mkIntS_length, mark_markMemory, end_markMemory, mark_markHeap, end_markHeap, mark_markState, end_markState, mark_markTwo, end_markTwo, hres_true] at *)
  all_goals first
    | (refine ⟨?_⟩; assumption)
    | (refine ⟨?_⟩; exact ⟨by assumption, by assumption⟩)
    | (refine ⟨?_⟩; exact ⟨by assumption, by assumption, by assumption⟩)
    | (refine ⟨?_⟩; omega)
    | (refine ⟨?_⟩; exact ⟨by omega, by omega, by assumption⟩)
    | rfl
    | trivial
    | (refine ⟨?_⟩; simp [markMemory, markHeap, markSide, markTwo, markState, mkInsS_length, mkByteS_length, mkWordS_length, mkBoolS_length, mkSpanS_length, mkIntS_length]; done)
    | (exfalso; simp [hres_true] at *; done)
    | (exfalso; simp [hres_true] at *; omega)
    | trace_state
theorem ok_laws_FnExactGiveBack : FunOk Try.prog c_laws_FnExactGiveBack := funOk (E := [c_laws_szHeap, c_laws_toHeap, c_laws_eqHeap, c_spec_GiveBack, c_impl_GiveBack, c_laws_markHeap, c_laws_heldHeap]) (envOk_cons ok_laws_szHeap (envOk_cons ok_laws_toHeap (envOk_cons ok_laws_eqHeap (envOk_cons ok_spec_GiveBack (envOk_cons ok_impl_GiveBack (envOk_cons ok_laws_markHeap (envOk_cons ok_laws_heldHeap (envOk_nil)))))))) mixd Try.func8 (pf := pf_laws_FnExactGiveBack) (by kernel_rfl) fun ts K h => by
  obtain ⟨t0, t1, e0, h⟩ := as2_out h
  subst e0
  obtain ⟨t, e1, hq⟩ := arG_out rd_heap h
  clear h
  subst e1
  have h := hq
  clear hq
  obtain ⟨a, e1, hq⟩ := arC_out (rd_int .i64) h
  clear h
  subst e1
  have h := hq
  clear hq
  obtain ⟨hpre, h⟩ := chk_o h
  exact ⟨_, _, h, Nat.le_of_ble_eq_true (show Nat.ble 2 Try.f8.ntmps = true by kernel_rfl), _, run_laws_FnExactGiveBack t a hpre⟩

end Go.Pi
namespace Go.Proofs.Ythpjpaginggjaaa
open Go.Pi
theorem fnExactGiveBack_lifted (os : Os) (started : os.Started) (H : Type) (enc : TypeId × Value → H) :
    ReturnsInHanded {} Try.checked os 8 .any (Rows.fnExactGiveBackSpec.pre6 enc Try.prog Try.f8 Rows.fnExactGiveBackRow.domain false) (Rows.fnExactGiveBackSpec.post enc Try.prog Try.f8 false true false false) :=
  lifted (C := Try.checked) (E := [c_laws_szHeap, c_laws_toHeap, c_laws_eqHeap, c_spec_GiveBack, c_impl_GiveBack, c_laws_markHeap, c_laws_heldHeap]) (fuel := _) (pf := pf_laws_FnExactGiveBack) (shs := [(true, ckHeap), (false, [.int .i64])]) (tb := 4) (by kernel_rfl) started (by kernel_rfl) Try.func8
    (ChangeSpec.witness6 (enc := enc) (C := Try.checked) false ⟨#[], #[.agg #[.slice none 0 0, .slice none 0 0, .slice none 0 0, .slice none 0 0], .int .i64 0], []⟩ 12 (by kernel_rfl) (by kernel_rfl) (by kernel_rfl) (by kernel_rfl))
    mixd (envOk_cons ok_laws_szHeap (envOk_cons ok_laws_toHeap (envOk_cons ok_laws_eqHeap (envOk_cons ok_spec_GiveBack (envOk_cons ok_impl_GiveBack (envOk_cons ok_laws_markHeap (envOk_cons ok_laws_heldHeap (envOk_nil)))))))) (by kernel_rfl) (by kernel_rfl) (by kernel_rfl) rfl (by kernel_rfl) rfl
    (fun ds h => by
      obtain _ | ⟨d0, ds⟩ := ds
      · simp at h
      obtain _ | ⟨d1, ds⟩ := ds
      · simp at h
      obtain _ | ⟨x, ds⟩ := ds
      · rfl
      · simp at h)
    (fun ain h0 => by
      obtain ⟨T0, ain0, e, k0, h1⟩ := areCons h0
      subst e
      obtain ⟨T1, ain1, e, k1, h2⟩ := areCons h1
      subst e
      have e := areNil h2
      subst e
      obtain ⟨t, e, w0⟩ := areG ut_heap k0
      subst e
      obtain ⟨a, e, w1⟩ := isN k1
      subst e
      exact run_laws_FnExactGiveBack t a (lHeap_of w0))
theorem fnExactGiveBack_over : Rows.fnExactGiveBackRow.holds Try.pinned (OpenSpec.ofChange Rows.fnExactGiveBackSpec) :=
  OpenClaim.holds_of_wide 8 Try.f8 rfl rfl rfl rfl rfl rfl rfl ⟨rfl, rfl, rfl, rfl, rfl⟩ rfl rfl rfl rfl rfl (by kernel_rfl) Try.func8 (by kernel_rfl)
    (of_decide_eq_true (by kernel_rfl)) (by unfold Func.isWrapper; first | (rw [if_pos (by decide +kernel)]; kernel_rfl) | (rw [if_neg (by decide +kernel)]; exact ⟨rfl, rfl⟩))
    (fun os started H enc _ => fnExactGiveBack_lifted os started H enc)
theorem fnExactGiveBack_holds : Rows.FnExactGiveBackSaid := fnExactGiveBack_over
#print axioms fnExactGiveBack_holds
end Go.Proofs.Ythpjpaginggjaaa
