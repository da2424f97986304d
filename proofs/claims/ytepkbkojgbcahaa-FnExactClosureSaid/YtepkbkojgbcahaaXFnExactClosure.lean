/- FnExactClosure: the given statement holds, out of the law's run by PI. No conditions. -/
import Derived.Test.YtepkbkojgbcahaaCN
namespace Go.Pi
open Go.Proofs
set_option linter.unusedVariables false
set_option linter.unusedSimpArgs false
set_option maxRecDepth 100000
attribute [local irreducible] iterN
def pf_laws_FnExactClosure : PF := ⟨[.t 4], .seq (.reg [.s (.box 2 (.t 0)), .s (.mv 4 (.k (.v (.c .ff))))]) (.seq (.reg [.s (.mv 5 (.k (.v (.c (.int .i64 1048576)))))]) (.seq (.reg [.s (.load 14 true 2 (.t 2)), .s (.mv 15 (.t 5)), .s (.call (some 16) 12 [(.t 14), (.t 15)]), .s (.mv 5 (.t 16))]) (.seq (.seq (.reg [.s (.mv 17 (.t 5)), .s (.bin 18 .lss (.t 17) (.k (.v (.c (.int .i64 0)))))]) (.cond (.t 18) (.seq (.reg [.s (.mv 4 (.k (.v (.c .tt))))]) (.ret)) (.skip))) (.seq (.reg [.s (.mv 19 (.t 1)), .s (.mv 20 (.t 5)), .s (.call (some 21) 13 [(.t 19), (.t 20)]), .s (.mv 5 (.t 21))]) (.seq (.seq (.reg [.s (.mv 22 (.t 5)), .s (.bin 23 .lss (.t 22) (.k (.v (.c (.int .i64 0)))))]) (.cond (.t 23) (.seq (.reg [.s (.mv 4 (.k (.v (.c .tt))))]) (.ret)) (.skip))) (.seq (.reg [.s (.load 24 true 2 (.t 2)), .s (.call (some 25) 15 [(.t 24)]), .s (.mv 26 (.t 1)), .s (.call (some 27) 16 [(.t 26)]), .s (.call (some 28) 14 [(.t 25), (.t 27)]), .s (.mv 6 (.t 28))]) (.seq (.reg [.s (.load 29 true 2 (.t 2)), .s (.call (some 30) 15 [(.t 29)]), .s (.alloc 7 [.nils .word, .nils .bool]), .s (.store 2 (.t 7) (.t 30))]) (.seq (.reg [.s (.mv 31 (.t 1)), .s (.call (some 32) 16 [(.t 31)]), .s (.mv 8 (.t 32))]) (.seq (.reg [.s (.load 33 true 2 (.t 7)), .s (.mv 34 (.t 8)), .s (.call (some 35) 17 [(.t 33), (.t 34)]), .s (.mv 9 (.t 35))]) (.seq (.seq (.reg [.s (.mv 36 (.t 9)), .s (.mv 37 (.t 6)), .s (.call (some 38) 18 [(.t 36), (.t 37)]), .s (.bnot 39 (.t 38))]) (.cond (.t 39) (.seq (.reg [.s (.mv 4 (.k (.v (.c .ff))))]) (.ret)) (.skip))) (.seq (.seq (.rgd [.s (.load 40 true 2 (.t 7)), .s (.load 41 true 2 (.t 2)), .s (.call (some 42) 15 [(.t 41)]), .s (.call (some 43) 19 [(.t 40), (.t 42)]), .s (.bnot 44 (.t 43))] (.tk 0 (.tk 1 (.one 2 false (.one 3 true (.tk 4 (.done none))))))) (.cond (.t 44) (.seq (.reg [.s (.mv 4 (.k (.v (.c .ff))))]) (.ret)) (.skip))) (.seq (.seq (.reg [.s (.mv 45 (.t 8)), .s (.mv 46 (.t 1)), .s (.call (some 47) 16 [(.t 46)]), .s (.call (some 48) 18 [(.t 45), (.t 47)]), .s (.bnot 49 (.t 48))]) (.cond (.t 49) (.seq (.reg [.s (.mv 4 (.k (.v (.c .ff))))]) (.ret)) (.skip))) (.seq (.reg [.s (.mv 10 (.k (.v (.c (.int .i64 1)))))]) (.seq (.reg [.s (.load 50 true 2 (.t 7)), .s (.mv 51 (.t 10)), .s (.call (some 52) 20 [(.t 50), (.t 51)]), .s (.mv 10 (.t 52))]) (.seq (.reg [.s (.mv 53 (.t 8)), .s (.mv 54 (.t 10)), .s (.call (some 55) 21 [(.t 53), (.t 54)]), .s (.mv 10 (.t 55))]) (.seq (.seq (.reg [.s (.mv 56 (.t 10)), .s (.bin 57 .lss (.t 56) (.k (.v (.c (.int .i64 0))))), .s (.mv 58 (.t 57)), .g 58 false (some 59) (.mv 59 (.t 9)), .g 58 false (some 60) (.mv 60 (.t 6)), .g 58 false (some 61) (.call (some 61) 18 [(.t 59), (.t 60)]), .g 58 false (some 62) (.bnot 62 (.t 61)), .s (.pick 63 (.t 58) (.k (.v (.c .tt))) (.t 62))]) (.cond (.t 63) (.seq (.reg [.s (.mv 4 (.k (.v (.c .ff))))]) (.ret)) (.skip))) (.seq (.reg [.s (.mv 11 (.k (.v (.c (.int .i64 1)))))]) (.seq (.reg [.s (.mv 64 (.t 9)), .s (.mv 65 (.t 11)), .s (.call (some 66) 21 [(.t 64), (.t 65)]), .s (.mv 11 (.t 66))]) (.seq (.reg [.s (.mv 12 (.k (.v (.c (.int .i64 1)))))]) (.seq (.reg [.s (.mv 67 (.t 9)), .s (.mv 68 (.t 12)), .s (.call (some 69) 22 [(.t 67), (.t 68)]), .s (.mv 12 (.t 69))]) (.seq (.seq (.reg [.s (.mv 70 (.t 12)), .s (.bin 71 .lss (.t 70) (.k (.v (.c (.int .i64 0)))))]) (.cond (.t 71) (.seq (.reg [.s (.mv 4 (.k (.v (.c .ff))))]) (.ret)) (.skip))) (.seq (.seq (.reg [.s (.mv 72 (.t 12)), .s (.mv 73 (.t 11)), .s (.bin 74 .neq (.t 72) (.t 73))]) (.cond (.t 74) (.seq (.reg [.s (.mv 4 (.k (.v (.c .ff))))]) (.ret)) (.skip))) (.seq (.reg [.s (.load 75 true 2 (.t 2)), .s (.call (some 76) 15 [(.t 75)]), .s (.mv 77 (.t 1)), .s (.call (some 78) 16 [(.t 77)]), .s (.call (some 79) 17 [(.t 76), (.t 78)]), .s (.mv 13 (.t 79))]) (.seq (.seq (.reg [.s (.mv 80 (.t 13)), .s (.mv 81 (.t 6)), .s (.call (some 82) 18 [(.t 80), (.t 81)]), .s (.bnot 83 (.t 82))]) (.cond (.t 83) (.seq (.reg [.s (.mv 4 (.k (.v (.c .ff))))]) (.ret)) (.skip))) (.seq (.reg [.s (.mv 12 (.k (.v (.c (.int .i64 1)))))]) (.seq (.reg [.s (.mv 84 (.t 9)), .s (.mv 85 (.t 12)), .s (.call (some 86) 22 [(.t 84), (.t 85)]), .s (.mv 12 (.t 86))]) (.seq (.seq (.reg [.s (.mv 87 (.t 12)), .s (.bin 88 .lss (.t 87) (.k (.v (.c (.int .i64 0)))))]) (.cond (.t 88) (.seq (.reg [.s (.mv 4 (.k (.v (.c .ff))))]) (.ret)) (.skip))) (.seq (.seq (.reg [.s (.mv 89 (.t 12)), .s (.mv 90 (.t 11)), .s (.bin 91 .neq (.t 89) (.t 90))]) (.cond (.t 91) (.seq (.reg [.s (.mv 4 (.k (.v (.c .ff))))]) (.ret)) (.skip))) (.seq (.reg [.s (.mv 4 (.k (.v (.c .tt))))]) (.ret))))))))))))))))))))))))))))))⟩
def c_laws_FnExactClosure : Fun := ⟨3, [], fun ts K => as2 ts fun t0 t1 => arG pMemT t0 fun m => arC (pL .word) t1 fun l => chk (LMem m 9223372036854775807 ∧ l.length ≤ 9223372036854775807) (K (tB true) [])⟩
theorem run_laws_FnExactClosure (m : Mem) (l : List (FT.Ty .word)) (hpre : LMem m 9223372036854775807 ∧ l.length ≤ 9223372036854775807) : runK [c_laws_szMemory, c_laws_szWordS, c_spec_Closure, c_laws_toMemory, c_laws_toWordS, c_impl_Closure, c_laws_eqWordS, c_laws_eqMemory, c_laws_markMemory, c_laws_markWordS, c_laws_heldWordS] (0) [] pf_laws_FnExactClosure [tG (m.tc false []), tL false .word l] fun r o => r = tB true ∧ o = [] := by
  obtain ⟨l1, l2⟩ := hpre
  conv => whnf
  refine chk_i ⟨l1, by omega, by omega⟩ ?_
  conv => whnf
  refine sel_i (fun h => ?_) (fun h => ?_)
  · conv => whnf
    exact ⟨rfl, rfl⟩
  simp only [etaMemory, decide_eq_false_iff_not, Int.not_lt] at h
  obtain ⟨h1, h2⟩ := szMem_n (k := 1048576) (by omega) h
  conv => whnf
  refine chk_i ⟨l2, h, h2⟩ ?_
  conv => whnf
  refine sel_i (fun h => ?_) (fun h => ?_)
  · conv => whnf
    exact ⟨rfl, rfl⟩
  simp only [etaMemory, decide_eq_false_iff_not, Int.not_lt] at h
  have h3 := szr_n h
  clear h
  have hm : LMem m 2147483647 := ⟨by have := h1.1; omega, by have := h1.2; omega⟩
  have hl : l.length ≤ 1048576 := by omega
  have hz : SzMemory m := ⟨hm.1, hm.2⟩
  have hc := closure_len m l
  have he := endMemory_le m 1 hz
  have hc2 : (closure m l).length ≤ 2147483647 := by omega
  have hm2 : m.words.length ≤ 2147483647 ∧ m.gone.length ≤ 2147483647 := hm
  clear l1 l2 h1 h2 h3
  conv => whnf
  repeat' (first | (refine sel_i (fun h => ?_) (fun h => ?_) <;> conv => whnf) | (refine chk_c ?_ ?_ <;> conv => whnf) | (refine And.intro ?_ rfl) | (refine And.intro ?_ ?_ <;> conv => whnf))
  all_goals (try simp only [etaKey, etaWord, etaSpan, etaMemory, etaSide, etaTwo, etaState, etaHeap, etaMState, mkWordS_length, mkBoolS_length, mkSpanS_length, mkIntS_length, mark_markMemory, end_markMemory, mark_markHeap, end_markHeap, mark_markState, end_markState, mark_markTwo, end_markTwo, hres_true] at *)
  all_goals first
    | (refine ⟨?_⟩; assumption)
    | (refine ⟨?_⟩; exact ⟨by assumption, by assumption⟩)
    | (refine ⟨?_⟩; omega)
    | (refine ⟨?_⟩; exact ⟨by omega, by omega, by assumption⟩)
    | rfl
    | (refine ⟨?_⟩; simp [markMemory, markHeap, markSide, markTwo, markState, mkWordS_length, mkBoolS_length, mkSpanS_length, mkIntS_length]; done)
    | (exfalso; simp [hres_true] at *; done)
    | (exfalso; simp [hres_true] at *; omega)
    | trace_state
theorem ok_laws_FnExactClosure : FunOk Try.prog c_laws_FnExactClosure := funOk (E := [c_laws_szMemory, c_laws_szWordS, c_spec_Closure, c_laws_toMemory, c_laws_toWordS, c_impl_Closure, c_laws_eqWordS, c_laws_eqMemory, c_laws_markMemory, c_laws_markWordS, c_laws_heldWordS]) (envOk_cons ok_laws_szMemory (envOk_cons ok_laws_szWordS (envOk_cons ok_spec_Closure (envOk_cons ok_laws_toMemory (envOk_cons ok_laws_toWordS (envOk_cons ok_impl_Closure (envOk_cons ok_laws_eqWordS (envOk_cons ok_laws_eqMemory (envOk_cons ok_laws_markMemory (envOk_cons ok_laws_markWordS (envOk_cons ok_laws_heldWordS (envOk_nil)))))))))))) mixd Try.func3 (pf := pf_laws_FnExactClosure) (by kernel_rfl) fun ts K h => by
  obtain ⟨t0, t1, e0, h⟩ := as2_out h
  subst e0
  obtain ⟨m, e1, hq⟩ := arG_out rd_mem h
  clear h
  subst e1
  have h := hq
  clear hq
  obtain ⟨l, e1, hq⟩ := arC_out (rd_l .word) h
  clear h
  subst e1
  have h := hq
  clear hq
  obtain ⟨hpre, h⟩ := chk_o h
  exact ⟨_, _, h, Nat.le_of_ble_eq_true (show Nat.ble 2 Try.f3.ntmps = true by kernel_rfl), _, run_laws_FnExactClosure m l hpre⟩

end Go.Pi
namespace Go.Proofs.Ytepkbkojgbcahaa
open Go.Pi
theorem fnExactClosure_lifted (os : Os) (started : os.Started) (H : Type) (enc : TypeId × Value → H) :
    ReturnsInHanded {} Try.checked os 3 .any (Rows.fnExactClosureSpec.pre6 enc Try.prog Try.f3 Rows.fnExactClosureRow.domain false) (Rows.fnExactClosureSpec.post enc Try.prog Try.f3 false true false false) :=
  lifted (C := Try.checked) (E := [c_laws_szMemory, c_laws_szWordS, c_spec_Closure, c_laws_toMemory, c_laws_toWordS, c_impl_Closure, c_laws_eqWordS, c_laws_eqMemory, c_laws_markMemory, c_laws_markWordS, c_laws_heldWordS]) (fuel := _) (pf := pf_laws_FnExactClosure) (shs := [(true, ckMem), (false, [.sl .word])]) (tb := 4) (by kernel_rfl) started (by kernel_rfl) Try.func3
    (ChangeSpec.witness6 (enc := enc) (C := Try.checked) false ⟨#[], #[.agg #[.slice none 0 0, .slice none 0 0], .slice none 0 0], []⟩ 12 (by kernel_rfl) (by kernel_rfl) (by kernel_rfl) (by kernel_rfl))
    mixd (envOk_cons ok_laws_szMemory (envOk_cons ok_laws_szWordS (envOk_cons ok_spec_Closure (envOk_cons ok_laws_toMemory (envOk_cons ok_laws_toWordS (envOk_cons ok_impl_Closure (envOk_cons ok_laws_eqWordS (envOk_cons ok_laws_eqMemory (envOk_cons ok_laws_markMemory (envOk_cons ok_laws_markWordS (envOk_cons ok_laws_heldWordS (envOk_nil)))))))))))) (by kernel_rfl) (by kernel_rfl) (by kernel_rfl) rfl (by kernel_rfl) rfl
    (fun ds h => by
      obtain _ | ⟨d0, ds⟩ := ds
      · simp at h
      obtain _ | ⟨d1, ds⟩ := ds
      · simp at h
      obtain _ | ⟨x, ds⟩ := ds
      · rfl
      · simp at h)
    (fun ain h0 => by
      obtain ⟨T0, ain0, e, k0, h1⟩ := areCons h0
      subst e
      obtain ⟨T1, ain1, e, k1, h2⟩ := areCons h1
      subst e
      have e := areNil h2
      subst e
      obtain ⟨m, e, w0⟩ := areG ut_mem k0
      subst e
      obtain ⟨l, e, w1⟩ := isL k1
      subst e
      exact run_laws_FnExactClosure m l (⟨⟨w0.1.2, w0.2.2⟩, w1.2⟩))
theorem fnExactClosure_over : Rows.fnExactClosureRow.holds Try.pinned (OpenSpec.ofChange Rows.fnExactClosureSpec) :=
  OpenClaim.holds_of_wide 3 Try.f3 rfl rfl rfl rfl rfl rfl rfl ⟨rfl, rfl, rfl, rfl, rfl⟩ rfl rfl rfl rfl rfl (by kernel_rfl) Try.func3 (by kernel_rfl)
    (of_decide_eq_true (by kernel_rfl)) (by unfold Func.isWrapper; first | (rw [if_pos (by decide +kernel)]; kernel_rfl) | (rw [if_neg (by decide +kernel)]; exact ⟨rfl, rfl⟩))
    (fun os started H enc _ => fnExactClosure_lifted os started H enc)
theorem fnExactClosure_holds : Rows.FnExactClosureSaid := fnExactClosure_over
#print axioms fnExactClosure_holds
end Go.Proofs.Ytepkbkojgbcahaa
