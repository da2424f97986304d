/- FnExactFreeCells: the given statement holds, out of the law's run by PI. No conditions. -/
import Derived.Test.YthpjpaginggjaaaC3
namespace Go.Pi
open Go.Proofs
set_option linter.unusedVariables false
set_option linter.unusedSimpArgs false
set_option maxRecDepth 100000
attribute [local irreducible] iterN
def pf_laws_FnExactFreeCells : PF := ⟨[.t 2], .seq (.reg [.s (.box 1 (.t 0)), .s (.mv 2 (.k (.v (.c .ff))))]) (.seq (.reg [.s (.mv 3 (.k (.v (.c (.int .i64 1048576)))))]) (.seq (.reg [.s (.load 7 true 4 (.t 1)), .s (.mv 8 (.t 3)), .s (.call (some 9) 61 [(.t 7), (.t 8)]), .s (.mv 3 (.t 9))]) (.seq (.seq (.reg [.s (.mv 10 (.t 3)), .s (.bin 11 .lss (.t 10) (.k (.v (.c (.int .i64 0)))))]) (.cond (.t 11) (.seq (.reg [.s (.mv 2 (.k (.v (.c .tt))))]) (.ret)) (.skip))) (.seq (.reg [.s (.load 12 true 4 (.t 1)), .s (.call (some 13) 63 [(.t 12)]), .s (.call (some 14) 62 [(.t 13)]), .s (.mv 4 (.t 14))]) (.seq (.reg [.s (.load 15 true 4 (.t 1)), .s (.call (some 16) 63 [(.t 15)]), .s (.alloc 5 [.nils .word, .nils .bool, .nils .span, .nils .span]), .s (.store 4 (.t 5) (.t 16))]) (.seq (.reg [.s (.load 17 true 4 (.t 5)), .s (.call (some 18) 64 [(.t 17)]), .s (.mv 6 (.t 18))]) (.seq (.seq (.reg [.s (.mv 19 (.t 6)), .s (.mv 20 (.t 4)), .s (.bin 21 .neq (.t 19) (.t 20))]) (.cond (.t 21) (.seq (.reg [.s (.mv 2 (.k (.v (.c .ff))))]) (.ret)) (.skip))) (.seq (.seq (.rgd [] [.s (.load 22 true 4 (.t 5)), .s (.load 23 true 4 (.t 1)), .s (.call (some 24) 63 [(.t 23)]), .s (.call (some 25) 65 [(.t 22), (.t 24)]), .s (.bnot 26 (.t 25))] (.tk 0 (.tk 1 (.one 2 false (.one 3 true (.tk 4 (.done none))))))) (.cond (.t 26) (.seq (.reg [.s (.mv 2 (.k (.v (.c .ff))))]) (.ret)) (.skip))) (.seq (.reg [.s (.mv 2 (.k (.v (.c .tt))))]) (.ret))))))))))⟩
def c_laws_FnExactFreeCells : Fun := ⟨7, [], fun ts K => as1 ts fun t0 => arG pHeapT t0 fun t => chk (LHeap t 9223372036854775807) (K (tB true) [])⟩
theorem run_laws_FnExactFreeCells (t : Heap) (hpre : LHeap t 9223372036854775807) : runK [c_laws_szHeap, c_spec_FreeCells, c_laws_toHeap, c_impl_FreeCells, c_laws_eqHeap] (0) [] pf_laws_FnExactFreeCells [tG (t.tc false [])] fun r o => r = tB true ∧ o = [] := by
  conv => whnf
  refine chk_i ⟨hpre, by omega, by omega⟩ ?_
  conv => whnf
  refine sel_i (fun h => ?_) (fun h => ?_)
  · conv => whnf
    exact ⟨rfl, rfl⟩
  have hz : LHeap t 1048576 := szHeap_n (k := 1048576) (by omega) (by simpa using h)
  clear h
  have hz2 : LHeap t 2147483647 := hz.mono (by decide)
  have hz3 : t.mem.words.length ≤ 2147483647 ∧ t.mem.gone.length ≤ 2147483647 ∧ t.live.length ≤ 2147483647 ∧ t.waits.length ≤ 2147483647 := ⟨hz2.1.1, hz2.1.2, hz2.2.1, hz2.2.2⟩
  conv => whnf
  repeat' (first | (refine sel_i (fun h => ?_) (fun h => ?_) <;> conv => whnf) | (refine chk_c ?_ ?_ <;> conv => whnf) | (refine And.intro ?_ rfl) | (refine And.intro ?_ ?_ <;> conv => whnf))
  all_goals (try simp only [etaKey, etaWord, etaInst, etaSpan, mkInsS_length, mkByteS_length, etaMemory, etaSide, etaTwo, etaState, etaHeap, etaMState, mkWordS_length, mkBoolS_length, mkSpanS_length, mkIntS_length, mark_markMemory, end_markMemory, mark_markHeap, end_markHeap, mark_markState, end_markState, mark_markTwo, end_markTwo, hres_true] at *)
  all_goals first
    | (refine ⟨?_⟩; assumption)
    | (refine ⟨?_⟩; exact ⟨by assumption, by assumption⟩)
    | (refine ⟨?_⟩; exact ⟨by assumption, by assumption, by assumption⟩)
    | (refine ⟨?_⟩; omega)
    | (refine ⟨?_⟩; exact ⟨by omega, by omega, by assumption⟩)
    | rfl
    | trivial
    | (refine ⟨?_⟩; simp [markMemory, markHeap, markSide, markTwo, markState, mkInsS_length, mkByteS_length, mkWordS_length, mkBoolS_length, mkSpanS_length, mkIntS_length]; done)
    | (exfalso; simp [hres_true] at *; done)
    | (exfalso; simp [hres_true] at *; omega)
    | trace_state
theorem ok_laws_FnExactFreeCells : FunOk Try.prog c_laws_FnExactFreeCells := funOk (E := [c_laws_szHeap, c_spec_FreeCells, c_laws_toHeap, c_impl_FreeCells, c_laws_eqHeap]) (envOk_cons ok_laws_szHeap (envOk_cons ok_spec_FreeCells (envOk_cons ok_laws_toHeap (envOk_cons ok_impl_FreeCells (envOk_cons ok_laws_eqHeap (envOk_nil)))))) mixd Try.func7 (pf := pf_laws_FnExactFreeCells) (by kernel_rfl) fun ts K h => by
  obtain ⟨t0, e0, h⟩ := as1_out h
  subst e0
  obtain ⟨t, e1, hq⟩ := arG_out rd_heap h
  clear h
  subst e1
  have h := hq
  clear hq
  obtain ⟨hpre, h⟩ := chk_o h
  exact ⟨_, _, h, Nat.le_of_ble_eq_true (show Nat.ble 1 Try.f7.ntmps = true by kernel_rfl), _, run_laws_FnExactFreeCells t hpre⟩

end Go.Pi
namespace Go.Proofs.Ythpjpaginggjaaa
open Go.Pi
theorem fnExactFreeCells_lifted (os : Os) (started : os.Started) (H : Type) (enc : TypeId × Value → H) :
    ReturnsInHanded {} Try.checked os 7 .any (Rows.fnExactFreeCellsSpec.pre6 enc Try.prog Try.f7 Rows.fnExactFreeCellsRow.domain false) (Rows.fnExactFreeCellsSpec.post enc Try.prog Try.f7 false true false false) :=
  lifted (C := Try.checked) (E := [c_laws_szHeap, c_spec_FreeCells, c_laws_toHeap, c_impl_FreeCells, c_laws_eqHeap]) (fuel := _) (pf := pf_laws_FnExactFreeCells) (shs := [(true, ckHeap)]) (tb := 4) (by kernel_rfl) started (by kernel_rfl) Try.func7
    (ChangeSpec.witness6 (enc := enc) (C := Try.checked) false ⟨#[], #[.agg #[.slice none 0 0, .slice none 0 0, .slice none 0 0, .slice none 0 0]], []⟩ 12 (by kernel_rfl) (by kernel_rfl) (by kernel_rfl) (by kernel_rfl))
    mixd (envOk_cons ok_laws_szHeap (envOk_cons ok_spec_FreeCells (envOk_cons ok_laws_toHeap (envOk_cons ok_impl_FreeCells (envOk_cons ok_laws_eqHeap (envOk_nil)))))) (by kernel_rfl) (by kernel_rfl) (by kernel_rfl) rfl (by kernel_rfl) rfl
    (fun ds h => by
      obtain _ | ⟨d0, ds⟩ := ds
      · simp at h
      obtain _ | ⟨x, ds⟩ := ds
      · rfl
      · simp at h)
    (fun ain h0 => by
      obtain ⟨T0, ain0, e, k0, h1⟩ := areCons h0
      subst e
      have e := areNil h1
      subst e
      obtain ⟨t, e, w0⟩ := areG ut_heap k0
      subst e
      exact run_laws_FnExactFreeCells t (lHeap_of w0))
theorem fnExactFreeCells_over : Rows.fnExactFreeCellsRow.holds Try.pinned (OpenSpec.ofChange Rows.fnExactFreeCellsSpec) :=
  OpenClaim.holds_of_wide 7 Try.f7 rfl rfl rfl rfl rfl rfl rfl ⟨rfl, rfl, rfl, rfl, rfl⟩ rfl rfl rfl rfl rfl (by kernel_rfl) Try.func7 (by kernel_rfl)
    (of_decide_eq_true (by kernel_rfl)) (by unfold Func.isWrapper; first | (rw [if_pos (by decide +kernel)]; kernel_rfl) | (rw [if_neg (by decide +kernel)]; exact ⟨rfl, rfl⟩))
    (fun os started H enc _ => fnExactFreeCells_lifted os started H enc)
theorem fnExactFreeCells_holds : Rows.FnExactFreeCellsSaid := fnExactFreeCells_over
#print axioms fnExactFreeCells_holds
end Go.Proofs.Ythpjpaginggjaaa
