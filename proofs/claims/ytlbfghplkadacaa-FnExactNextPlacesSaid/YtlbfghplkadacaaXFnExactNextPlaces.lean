/- FnExactNextPlaces: the given statement holds, out of the law's run by PI. No conditions. -/
import Derived.Test.YtlbfghplkadacaaC2
namespace Go.Pi
open Go.Proofs
set_option linter.unusedVariables false
set_option linter.unusedSimpArgs false
set_option maxRecDepth 100000
attribute [local irreducible] iterN
def pf_laws_FnExactNextPlaces : PF := ⟨[.t 4], .seq (.reg [.s (.mv 4 (.k (.v (.c .ff))))]) (.seq (.reg [.s (.mv 5 (.k (.v (.c (.int .i64 1048576)))))]) (.seq (.reg [.s (.mv 13 (.t 0)), .s (.mv 14 (.t 5)), .s (.call (some 15) 14 [(.t 13), (.t 14)]), .s (.mv 5 (.t 15))]) (.seq (.seq (.reg [.s (.mv 16 (.t 5)), .s (.bin 17 .lss (.t 16) (.k (.v (.c (.int .i64 0)))))]) (.cond (.t 17) (.seq (.reg [.s (.mv 4 (.k (.v (.c .tt))))]) (.ret)) (.skip))) (.seq (.reg [.s (.mv 18 (.t 0)), .s (.call (some 19) 16 [(.t 18)]), .s (.mv 20 (.t 1)), .s (.call (some 21) 15 [(.t 19), (.t 20)]), .s (.mv 6 (.t 21))]) (.seq (.reg [.s (.mv 22 (.t 0)), .s (.call (some 23) 16 [(.t 22)]), .s (.mv 7 (.t 23))]) (.seq (.reg [.s (.mv 24 (.t 7)), .s (.mv 25 (.t 1)), .s (.call (some 26) 17 [(.t 24), (.t 25)]), .s (.mv 8 (.t 26))]) (.seq (.seq (.reg [.s (.mv 27 (.t 8)), .s (.mv 28 (.t 6)), .s (.call (some 29) 9 [(.t 27), (.t 28)]), .s (.bnot 30 (.t 29))]) (.cond (.t 30) (.seq (.reg [.s (.mv 4 (.k (.v (.c .ff))))]) (.ret)) (.skip))) (.seq (.seq (.reg [.s (.mv 31 (.t 7)), .s (.mv 32 (.t 0)), .s (.call (some 33) 16 [(.t 32)]), .s (.call (some 34) 18 [(.t 31), (.t 33)]), .s (.bnot 35 (.t 34))]) (.cond (.t 35) (.seq (.reg [.s (.mv 4 (.k (.v (.c .ff))))]) (.ret)) (.skip))) (.seq (.reg [.s (.mv 9 (.k (.v (.c (.int .i64 1)))))]) (.seq (.reg [.s (.mv 36 (.t 7)), .s (.mv 37 (.t 9)), .s (.call (some 38) 19 [(.t 36), (.t 37)]), .s (.mv 9 (.t 38))]) (.seq (.seq (.reg [.s (.mv 39 (.t 9)), .s (.bin 40 .lss (.t 39) (.k (.v (.c (.int .i64 0))))), .s (.mv 41 (.t 40)), .g 41 false (some 42) (.mv 42 (.t 8)), .g 41 false (some 43) (.mv 43 (.t 6)), .g 41 false (some 44) (.call (some 44) 9 [(.t 42), (.t 43)]), .g 41 false (some 45) (.bnot 45 (.t 44)), .s (.pick 46 (.t 41) (.k (.v (.c .tt))) (.t 45))]) (.cond (.t 46) (.seq (.reg [.s (.mv 4 (.k (.v (.c .ff))))]) (.ret)) (.skip))) (.seq (.reg [.s (.mv 10 (.k (.v (.c (.int .i64 1)))))]) (.seq (.reg [.s (.mv 47 (.t 8)), .s (.mv 48 (.t 10)), .s (.call (some 49) 12 [(.t 47), (.t 48)]), .s (.mv 10 (.t 49))]) (.seq (.reg [.s (.mv 11 (.k (.v (.c (.int .i64 1)))))]) (.seq (.reg [.s (.mv 50 (.t 8)), .s (.mv 51 (.t 11)), .s (.call (some 52) 13 [(.t 50), (.t 51)]), .s (.mv 11 (.t 52))]) (.seq (.seq (.reg [.s (.mv 53 (.t 11)), .s (.bin 54 .lss (.t 53) (.k (.v (.c (.int .i64 0)))))]) (.cond (.t 54) (.seq (.reg [.s (.mv 4 (.k (.v (.c .ff))))]) (.ret)) (.skip))) (.seq (.seq (.reg [.s (.mv 55 (.t 11)), .s (.mv 56 (.t 10)), .s (.bin 57 .neq (.t 55) (.t 56))]) (.cond (.t 57) (.seq (.reg [.s (.mv 4 (.k (.v (.c .ff))))]) (.ret)) (.skip))) (.seq (.reg [.s (.mv 58 (.t 0)), .s (.call (some 59) 16 [(.t 58)]), .s (.mv 60 (.t 1)), .s (.call (some 61) 17 [(.t 59), (.t 60)]), .s (.mv 12 (.t 61))]) (.seq (.seq (.reg [.s (.mv 62 (.t 12)), .s (.mv 63 (.t 6)), .s (.call (some 64) 9 [(.t 62), (.t 63)]), .s (.bnot 65 (.t 64))]) (.cond (.t 65) (.seq (.reg [.s (.mv 4 (.k (.v (.c .ff))))]) (.ret)) (.skip))) (.seq (.reg [.s (.mv 11 (.k (.v (.c (.int .i64 1)))))]) (.seq (.reg [.s (.mv 66 (.t 8)), .s (.mv 67 (.t 11)), .s (.call (some 68) 13 [(.t 66), (.t 67)]), .s (.mv 11 (.t 68))]) (.seq (.seq (.reg [.s (.mv 69 (.t 11)), .s (.bin 70 .lss (.t 69) (.k (.v (.c (.int .i64 0)))))]) (.cond (.t 70) (.seq (.reg [.s (.mv 4 (.k (.v (.c .ff))))]) (.ret)) (.skip))) (.seq (.seq (.reg [.s (.mv 71 (.t 11)), .s (.mv 72 (.t 10)), .s (.bin 73 .neq (.t 71) (.t 72))]) (.cond (.t 73) (.seq (.reg [.s (.mv 4 (.k (.v (.c .ff))))]) (.ret)) (.skip))) (.seq (.reg [.s (.mv 4 (.k (.v (.c .tt))))]) (.ret)))))))))))))))))))))))))⟩
def c_laws_FnExactNextPlaces : Fun := ⟨4, [], fun ts K => as2 ts fun t0 t1 => arC (pL .inst) t0 fun l => arC (pI .i64) t1 fun a => chk (l.length ≤ 9223372036854775807) (K (tB true) [])⟩
theorem run_laws_FnExactNextPlaces (l : List (FT.Ty .inst)) (a : Int) (hpre : l.length ≤ 9223372036854775807) : runK [c_laws_eqIntS, c_laws_markIntS, c_laws_heldIntS, c_laws_szInsS, c_spec_NextPlaces, c_laws_toInsS, c_impl_NextPlaces, c_laws_eqInsS, c_laws_markInsS] (0) [] pf_laws_FnExactNextPlaces [tL false .inst l, tI .i64 a] fun r o => r = tB true ∧ o = [] := by
  conv => whnf
  refine chk_i ⟨hpre, by omega, by omega⟩ ?_
  conv => whnf
  refine sel_i (fun h => ?_) (fun h => ?_)
  · conv => whnf
    exact ⟨rfl, rfl⟩
  have h : 0 ≤ szr 1048576 l.length := by simpa using h
  have hn := szr_n h
  have l1 : l.length ≤ 2147483647 := by omega
  have hl := nextP_len l a
  have l3 : (nextP l a).length ≤ 2147483647 := by omega
  clear h
  conv => whnf
  repeat' (first | (refine sel_i (fun h => ?_) (fun h => ?_) <;> conv => whnf) | (refine chk_c ?_ ?_ <;> conv => whnf) | (refine And.intro ?_ rfl) | (refine And.intro ?_ ?_ <;> conv => whnf))
  all_goals (try simp only [etaKey, etaWord, etaInst, etaSpan, mkInsS_length, mkByteS_length, etaMemory, etaSide, etaTwo, etaState, etaHeap, etaMState, mkWordS_length, mkBoolS_length, mkSpanS_length, mkIntS_length, mark_markMemory, end_markMemory, mark_markHeap, end_markHeap, mark_markState, end_markState, mark_markTwo, end_markTwo, hres_true] at *)
  all_goals first
    | (refine ⟨?_⟩; assumption)
    | (refine ⟨?_⟩; exact ⟨by assumption, by assumption⟩)
    | (refine ⟨?_⟩; exact ⟨by assumption, by assumption, by assumption⟩)
    | (refine ⟨?_⟩; omega)
    | (refine ⟨?_⟩; exact ⟨by omega, by omega, by assumption⟩)
    | rfl
    | trivial
    | (refine ⟨?_⟩; simp [markMemory, markHeap, markSide, markTwo, markState, mkInsS_length, mkByteS_length, mkWordS_length, mkBoolS_length, mkSpanS_length, mkIntS_length]; done)
    | (exfalso; simp [hres_true] at *; done)
    | (exfalso; simp [hres_true] at *; omega)
    | trace_state
theorem ok_laws_FnExactNextPlaces : FunOk Try.prog c_laws_FnExactNextPlaces := funOk (E := [c_laws_eqIntS, c_laws_markIntS, c_laws_heldIntS, c_laws_szInsS, c_spec_NextPlaces, c_laws_toInsS, c_impl_NextPlaces, c_laws_eqInsS, c_laws_markInsS]) (envOk_cons ok_laws_eqIntS (envOk_cons ok_laws_markIntS (envOk_cons ok_laws_heldIntS (envOk_cons ok_laws_szInsS (envOk_cons ok_spec_NextPlaces (envOk_cons ok_laws_toInsS (envOk_cons ok_impl_NextPlaces (envOk_cons ok_laws_eqInsS (envOk_cons ok_laws_markInsS (envOk_nil)))))))))) mixd Try.func4 (pf := pf_laws_FnExactNextPlaces) (by kernel_rfl) fun ts K h => by
  obtain ⟨t0, t1, e0, h⟩ := as2_out h
  subst e0
  obtain ⟨l, e1, hq⟩ := arC_out (rd_l .inst) h
  clear h
  subst e1
  have h := hq
  clear hq
  obtain ⟨a, e1, hq⟩ := arC_out (rd_int .i64) h
  clear h
  subst e1
  have h := hq
  clear hq
  obtain ⟨hpre, h⟩ := chk_o h
  exact ⟨_, _, h, Nat.le_of_ble_eq_true (show Nat.ble 2 Try.f4.ntmps = true by kernel_rfl), _, run_laws_FnExactNextPlaces l a hpre⟩

end Go.Pi
namespace Go.Proofs.Ytlbfghplkadacaa
open Go.Pi
theorem fnExactNextPlaces_lifted (os : Os) (started : os.Started) (H : Type) (enc : TypeId × Value → H) :
    ReturnsInHanded {} Try.checked os 4 .any (Rows.fnExactNextPlacesSpec.pre6 enc Try.prog Try.f4 Rows.fnExactNextPlacesRow.domain false) (Rows.fnExactNextPlacesSpec.post enc Try.prog Try.f4 false true false false) :=
  lifted (C := Try.checked) (E := [c_laws_eqIntS, c_laws_markIntS, c_laws_heldIntS, c_laws_szInsS, c_spec_NextPlaces, c_laws_toInsS, c_impl_NextPlaces, c_laws_eqInsS, c_laws_markInsS]) (fuel := _) (pf := pf_laws_FnExactNextPlaces) (shs := [(false, [.sl .inst]), (false, [.int .i64])]) (tb := 4) (by kernel_rfl) started (by kernel_rfl) Try.func4
    (ChangeSpec.witness6 (enc := enc) (C := Try.checked) false ⟨#[], #[.slice none 0 0, .int .i64 0], []⟩ 12 (by kernel_rfl) (by kernel_rfl) (by kernel_rfl) (by kernel_rfl))
    mixd (envOk_cons ok_laws_eqIntS (envOk_cons ok_laws_markIntS (envOk_cons ok_laws_heldIntS (envOk_cons ok_laws_szInsS (envOk_cons ok_spec_NextPlaces (envOk_cons ok_laws_toInsS (envOk_cons ok_impl_NextPlaces (envOk_cons ok_laws_eqInsS (envOk_cons ok_laws_markInsS (envOk_nil)))))))))) (by kernel_rfl) (by kernel_rfl) (by kernel_rfl) rfl (by kernel_rfl) rfl (by kernel_rfl)
    (fun ds h => by
      obtain _ | ⟨d0, ds⟩ := ds
      · simp at h
      obtain _ | ⟨d1, ds⟩ := ds
      · simp at h
      obtain _ | ⟨x, ds⟩ := ds
      · rfl
      · simp at h)
    (fun ain h0 => by
      obtain ⟨T0, ain0, e, k0, h1⟩ := areCons h0
      subst e
      obtain ⟨T1, ain1, e, k1, h2⟩ := areCons h1
      subst e
      have e := areNil h2
      subst e
      obtain ⟨l, e, w0⟩ := isL k0
      subst e
      obtain ⟨a, e, w1⟩ := isN k1
      subst e
      exact run_laws_FnExactNextPlaces l a (w0.2))
theorem fnExactNextPlaces_over : Rows.fnExactNextPlacesRow.holds Try.pinned (OpenSpec.ofChange Rows.fnExactNextPlacesSpec) :=
  OpenClaim.holds_of_wide 4 Try.f4 rfl rfl rfl rfl rfl rfl rfl ⟨rfl, rfl, rfl, rfl, rfl⟩ rfl rfl rfl rfl rfl (by kernel_rfl) Try.func4 (by kernel_rfl)
    (of_decide_eq_true (by kernel_rfl)) (by unfold Func.isWrapper; first | (rw [if_pos (by decide +kernel)]; kernel_rfl) | (rw [if_neg (by decide +kernel)]; exact ⟨rfl, rfl⟩))
    (fun os started H enc _ => fnExactNextPlaces_lifted os started H enc)
theorem fnExactNextPlaces_holds : Rows.FnExactNextPlacesSaid := fnExactNextPlaces_over
#print axioms fnExactNextPlaces_holds
end Go.Proofs.Ytlbfghplkadacaa
