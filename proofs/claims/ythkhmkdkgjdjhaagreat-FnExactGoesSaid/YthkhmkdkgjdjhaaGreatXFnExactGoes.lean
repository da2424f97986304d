/- FnExactGoes: the given statement holds, out of the law's run by PI. No conditions. -/
import Derived.Test.YthkhmkdkgjdjhaaGreatC6
namespace Go.Pi
open Go.Proofs
set_option linter.unusedVariables false
set_option linter.unusedSimpArgs false
set_option maxRecDepth 100000
attribute [local irreducible] iterN
def pf_laws_FnExactGoes : PF := ⟨[.t 6], .seq (.reg [.s (.mv 6 (.k (.v (.c .ff))))]) (.seq (.seq (.reg [.s (.mv 19 (.t 1)), .s (.len 20 false (.t 19)), .s (.bin 21 .gtr (.t 20) (.k (.v (.c (.int .i64 1048576)))))]) (.cond (.t 21) (.seq (.reg [.s (.mv 6 (.k (.v (.c .tt))))]) (.ret)) (.skip))) (.seq (.reg [.s (.mv 7 (.k (.v (.c (.int .i64 1048576)))))]) (.seq (.reg [.s (.mv 22 (.t 0)), .s (.mv 23 (.t 7)), .s (.call (some 24) 5 [(.t 22), (.t 23)]), .s (.mv 7 (.t 24))]) (.seq (.seq (.reg [.s (.mv 25 (.t 7)), .s (.bin 26 .lss (.t 25) (.k (.v (.c (.int .i64 0)))))]) (.cond (.t 26) (.seq (.reg [.s (.mv 6 (.k (.v (.c .tt))))]) (.ret)) (.skip))) (.seq (.reg [.s (.mv 28 (.t 0)), .s (.call (some 29) 8 [(.t 28)]), .s (.mv 30 (.t 1)), .s (.call (some 31) 19 [(.t 30)]), .s (.mv 32 (.t 2)), .s (.call (some 33) 18 [(.t 29), (.t 31), (.t 32)]), .s (.mv 27 (.t 33)), .s (.ext 34 (.t 27) 0), .s (.ext 35 (.t 27) 1), .s (.mv 8 (.t 34)), .s (.mv 9 (.t 35))]) (.seq (.reg [.s (.mv 36 (.t 0)), .s (.call (some 37) 8 [(.t 36)]), .s (.mv 10 (.t 37))]) (.seq (.reg [.s (.mv 38 (.t 1)), .s (.call (some 39) 19 [(.t 38)]), .s (.mv 11 (.t 39))]) (.seq (.reg [.s (.mv 41 (.t 10)), .s (.mv 42 (.t 11)), .s (.mv 43 (.t 2)), .s (.call (some 44) 20 [(.t 41), (.t 42), (.t 43)]), .s (.mv 40 (.t 44)), .s (.ext 45 (.t 40) 0), .s (.ext 46 (.t 40) 1), .s (.mv 12 (.t 45)), .s (.mv 13 (.t 46))]) (.seq (.seq (.reg [.s (.mv 47 (.t 12)), .s (.mv 48 (.t 8)), .s (.call (some 49) 21 [(.t 47), (.t 48)]), .s (.bnot 50 (.t 49)), .s (.mv 51 (.t 50)), .g 51 false (some 52) (.mv 52 (.t 13)), .g 51 false (some 53) (.mv 53 (.t 9)), .g 51 false (some 54) (.eqs 54 false [.b] true (.t 52) (.t 53)), .s (.pick 55 (.t 51) (.k (.v (.c .tt))) (.t 54))]) (.cond (.t 55) (.seq (.reg [.s (.mv 6 (.k (.v (.c .ff))))]) (.ret)) (.skip))) (.seq (.seq (.reg [.s (.mv 56 (.t 10)), .s (.mv 57 (.t 0)), .s (.call (some 58) 8 [(.t 57)]), .s (.call (some 59) 12 [(.t 56), (.t 58)]), .s (.bnot 60 (.t 59))]) (.cond (.t 60) (.seq (.reg [.s (.mv 6 (.k (.v (.c .ff))))]) (.ret)) (.skip))) (.seq (.seq (.reg [.s (.mv 61 (.t 11)), .s (.mv 62 (.t 1)), .s (.call (some 63) 19 [(.t 62)]), .s (.call (some 64) 21 [(.t 61), (.t 63)]), .s (.bnot 65 (.t 64))]) (.cond (.t 65) (.seq (.reg [.s (.mv 6 (.k (.v (.c .ff))))]) (.ret)) (.skip))) (.seq (.reg [.s (.mv 14 (.k (.v (.c (.int .i64 1)))))]) (.seq (.reg [.s (.mv 66 (.t 10)), .s (.mv 67 (.t 14)), .s (.call (some 68) 14 [(.t 66), (.t 67)]), .s (.mv 14 (.t 68))]) (.seq (.reg [.s (.mv 69 (.t 11)), .s (.mv 70 (.t 14)), .s (.call (some 71) 22 [(.t 69), (.t 70)]), .s (.mv 14 (.t 71))]) (.seq (.seq (.reg [.s (.mv 72 (.t 14)), .s (.bin 73 .lss (.t 72) (.k (.v (.c (.int .i64 0))))), .s (.mv 74 (.t 73)), .g 74 false (some 75) (.mv 75 (.t 12)), .g 74 false (some 76) (.mv 76 (.t 8)), .g 74 false (some 77) (.call (some 77) 21 [(.t 75), (.t 76)]), .g 74 false (some 78) (.bnot 78 (.t 77)), .s (.pick 79 (.t 74) (.k (.v (.c .tt))) (.t 78)), .s (.mv 80 (.t 79)), .g 80 false (some 81) (.mv 81 (.t 13)), .g 80 false (some 82) (.mv 82 (.t 9)), .g 80 false (some 83) (.eqs 83 false [.b] true (.t 81) (.t 82)), .s (.pick 84 (.t 80) (.k (.v (.c .tt))) (.t 83))]) (.cond (.t 84) (.seq (.reg [.s (.mv 6 (.k (.v (.c .ff))))]) (.ret)) (.skip))) (.seq (.reg [.s (.mv 15 (.k (.v (.c (.int .i64 1)))))]) (.seq (.reg [.s (.mv 85 (.t 12)), .s (.mv 86 (.t 15)), .s (.call (some 87) 22 [(.t 85), (.t 86)]), .s (.mv 15 (.t 87))]) (.seq (.reg [.s (.mv 16 (.k (.v (.c (.int .i64 1)))))]) (.seq (.reg [.s (.mv 88 (.t 12)), .s (.mv 89 (.t 16)), .s (.call (some 90) 23 [(.t 88), (.t 89)]), .s (.mv 16 (.t 90))]) (.seq (.seq (.reg [.s (.mv 91 (.t 16)), .s (.bin 92 .lss (.t 91) (.k (.v (.c (.int .i64 0)))))]) (.cond (.t 92) (.seq (.reg [.s (.mv 6 (.k (.v (.c .ff))))]) (.ret)) (.skip))) (.seq (.seq (.reg [.s (.mv 93 (.t 16)), .s (.mv 94 (.t 15)), .s (.bin 95 .neq (.t 93) (.t 94))]) (.cond (.t 95) (.seq (.reg [.s (.mv 6 (.k (.v (.c .ff))))]) (.ret)) (.skip))) (.seq (.reg [.s (.mv 97 (.t 0)), .s (.call (some 98) 8 [(.t 97)]), .s (.mv 99 (.t 1)), .s (.call (some 100) 19 [(.t 99)]), .s (.mv 101 (.t 2)), .s (.call (some 102) 20 [(.t 98), (.t 100), (.t 101)]), .s (.mv 96 (.t 102)), .s (.ext 103 (.t 96) 0), .s (.ext 104 (.t 96) 1), .s (.mv 17 (.t 103)), .s (.mv 18 (.t 104))]) (.seq (.seq (.reg [.s (.mv 105 (.t 17)), .s (.mv 106 (.t 8)), .s (.call (some 107) 21 [(.t 105), (.t 106)]), .s (.bnot 108 (.t 107)), .s (.mv 109 (.t 108)), .g 109 false (some 110) (.mv 110 (.t 18)), .g 109 false (some 111) (.mv 111 (.t 9)), .g 109 false (some 112) (.eqs 112 false [.b] true (.t 110) (.t 111)), .s (.pick 113 (.t 109) (.k (.v (.c .tt))) (.t 112))]) (.cond (.t 113) (.seq (.reg [.s (.mv 6 (.k (.v (.c .ff))))]) (.ret)) (.skip))) (.seq (.reg [.s (.mv 16 (.k (.v (.c (.int .i64 1)))))]) (.seq (.reg [.s (.mv 114 (.t 12)), .s (.mv 115 (.t 16)), .s (.call (some 116) 23 [(.t 114), (.t 115)]), .s (.mv 16 (.t 116))]) (.seq (.seq (.reg [.s (.mv 117 (.t 16)), .s (.bin 118 .lss (.t 117) (.k (.v (.c (.int .i64 0)))))]) (.cond (.t 118) (.seq (.reg [.s (.mv 6 (.k (.v (.c .ff))))]) (.ret)) (.skip))) (.seq (.seq (.reg [.s (.mv 119 (.t 16)), .s (.mv 120 (.t 15)), .s (.bin 121 .neq (.t 119) (.t 120))]) (.cond (.t 121) (.seq (.reg [.s (.mv 6 (.k (.v (.c .ff))))]) (.ret)) (.skip))) (.seq (.reg [.s (.mv 6 (.k (.v (.c .tt))))]) (.ret)))))))))))))))))))))))))))))⟩
def c_laws_FnExactGoes : Fun := ⟨4, [], fun ts K => as3 ts fun t0 t1 t2 => arC (pL .inst) t0 fun l => arC (pL (.int .u8)) t1 fun b => arC (pI .i64) t2 fun n => chk (l.length ≤ 9223372036854775807 ∧ b.length ≤ 9223372036854775807 ∧ U8s b) (K (tB true) [])⟩
theorem run_laws_FnExactGoes (l : List (FT.Ty .inst)) (b : List (FT.Ty (.int .u8))) (n : Int) (hpre : l.length ≤ 9223372036854775807 ∧ b.length ≤ 9223372036854775807 ∧ U8s b) : runK [c_laws_szInsS, c_laws_toInsS, c_laws_eqInsS, c_laws_markInsS, c_spec_Goes, c_laws_toByteS, c_impl_Goes, c_laws_eqByteS, c_laws_markByteS, c_laws_heldByteS] (0) [] pf_laws_FnExactGoes [tL false .inst l, tL false (.int .u8) b, tI .i64 n] fun r o => r = tB true ∧ o = [] := by
  obtain ⟨p1, p2, l2⟩ := hpre
  conv => whnf
  refine sel_i (fun h => ?_) (fun h => ?_)
  · conv => whnf
    repeat' (first | (refine sel_i (fun h => ?_) (fun h => ?_) <;> conv => whnf) | (refine chk_c ?_ ?_ <;> conv => whnf) | (refine And.intro ?_ rfl) | (refine And.intro ?_ ?_ <;> conv => whnf))
    rfl
  have hb : b.length ≤ 1048576 := by simp at h; omega
  clear h
  conv => whnf
  refine chk_i ⟨p1, by omega, by omega⟩ ?_
  conv => whnf
  refine sel_i (fun h => ?_) (fun h => ?_)
  · conv => whnf
    exact ⟨rfl, rfl⟩
  have h0 := szr_le (n := l.length) (show (0:Int) ≤ 1048576 by decide)
  have h : 0 ≤ szr 1048576 l.length := by simpa using h
  have hn := szr_n h
  have hp : l.length ≤ 2147483647 ∧ b.length ≤ 1048576 ∧ U8s b := ⟨by omega, hb, l2⟩
  have hb2 : b.length ≤ 2147483647 := by omega
  have hg := goes_len l b n
  have hg2 : (goes l b n).1.length ≤ 2147483647 := by omega
  conv => whnf
  repeat' (first | (refine sel_i (fun h => ?_) (fun h => ?_) <;> conv => whnf) | (refine chk_c ?_ ?_ <;> conv => whnf) | (refine And.intro ?_ rfl) | (refine And.intro ?_ ?_ <;> conv => whnf))
  all_goals (try simp only [etaKey, etaWord, etaInst, etaSpan, mkInsS_length, mkByteS_length, etaMemory, etaSide, etaTwo, etaState, etaHeap, etaMState, mkWordS_length, mkBoolS_length, mkSpanS_length, mkIntS_length, mark_markMemory, end_markMemory, mark_markHeap, end_markHeap, mark_markState, end_markState, mark_markTwo, end_markTwo, hres_true] at *)
  all_goals first
    | (refine ⟨?_⟩; assumption)
    | (refine ⟨?_⟩; exact ⟨by assumption, by assumption⟩)
    | (refine ⟨?_⟩; exact ⟨by assumption, by assumption, by assumption⟩)
    | (refine ⟨?_⟩; omega)
    | (refine ⟨?_⟩; exact ⟨by omega, by omega, by assumption⟩)
    | rfl
    | trivial
    | (refine ⟨?_⟩; simp [markMemory, markHeap, markSide, markTwo, markState, mkInsS_length, mkByteS_length, mkWordS_length, mkBoolS_length, mkSpanS_length, mkIntS_length]; done)
    | (exfalso; simp [hres_true] at *; done)
    | (exfalso; simp [hres_true] at *; omega)
    | trace_state
theorem ok_laws_FnExactGoes : FunOk Tryz.prog c_laws_FnExactGoes := funOk (E := [c_laws_szInsS, c_laws_toInsS, c_laws_eqInsS, c_laws_markInsS, c_spec_Goes, c_laws_toByteS, c_impl_Goes, c_laws_eqByteS, c_laws_markByteS, c_laws_heldByteS]) (envOk_cons ok_laws_szInsS (envOk_cons ok_laws_toInsS (envOk_cons ok_laws_eqInsS (envOk_cons ok_laws_markInsS (envOk_cons ok_spec_Goes (envOk_cons ok_laws_toByteS (envOk_cons ok_impl_Goes (envOk_cons ok_laws_eqByteS (envOk_cons ok_laws_markByteS (envOk_cons ok_laws_heldByteS (envOk_nil))))))))))) mixd Tryz.func4 (pf := pf_laws_FnExactGoes) (by kernel_rfl) fun ts K h => by
  obtain ⟨t0, t1, t2, e0, h⟩ := as3_out h
  subst e0
  obtain ⟨l, e1, hq⟩ := arC_out (rd_l .inst) h
  clear h
  subst e1
  have h := hq
  clear hq
  obtain ⟨b, e1, hq⟩ := arC_out (rd_l (.int .u8)) h
  clear h
  subst e1
  have h := hq
  clear hq
  obtain ⟨n, e1, hq⟩ := arC_out (rd_int .i64) h
  clear h
  subst e1
  have h := hq
  clear hq
  obtain ⟨hpre, h⟩ := chk_o h
  exact ⟨_, _, h, Nat.le_of_ble_eq_true (show Nat.ble 3 Tryz.f4.ntmps = true by kernel_rfl), _, run_laws_FnExactGoes l b n hpre⟩

end Go.Pi
namespace Go.Proofs.YthkhmkdkgjdjhaaGreat
open Go.Pi
theorem fnExactGoes_lifted (os : Os) (started : os.Started) (H : Type) (enc : TypeId × Value → H) :
    ReturnsInHanded {} Tryz.checked os 4 .any (Rows.fnExactGoesSpec.pre6 enc Tryz.prog Tryz.f4 Rows.fnExactGoesRow.domain false) (Rows.fnExactGoesSpec.post enc Tryz.prog Tryz.f4 false true false false) :=
  lifted (C := Tryz.checked) (E := [c_laws_szInsS, c_laws_toInsS, c_laws_eqInsS, c_laws_markInsS, c_spec_Goes, c_laws_toByteS, c_impl_Goes, c_laws_eqByteS, c_laws_markByteS, c_laws_heldByteS]) (fuel := _) (pf := pf_laws_FnExactGoes) (shs := [(false, [.sl .inst]), (false, [.sl (.int .u8)]), (false, [.int .i64])]) (tb := 4) (by kernel_rfl) started (by kernel_rfl) Tryz.func4
    (ChangeSpec.witness6 (enc := enc) (C := Tryz.checked) false ⟨#[], #[.slice none 0 0, .slice none 0 0, .int .i64 0], []⟩ 12 (by kernel_rfl) (by kernel_rfl) (by kernel_rfl) (by kernel_rfl))
    mixd (envOk_cons ok_laws_szInsS (envOk_cons ok_laws_toInsS (envOk_cons ok_laws_eqInsS (envOk_cons ok_laws_markInsS (envOk_cons ok_spec_Goes (envOk_cons ok_laws_toByteS (envOk_cons ok_impl_Goes (envOk_cons ok_laws_eqByteS (envOk_cons ok_laws_markByteS (envOk_cons ok_laws_heldByteS (envOk_nil))))))))))) (by kernel_rfl) (by kernel_rfl) (by kernel_rfl) rfl (by kernel_rfl) rfl
    (fun ds h => by
      obtain _ | ⟨d0, ds⟩ := ds
      · simp at h
      obtain _ | ⟨d1, ds⟩ := ds
      · simp at h
      obtain _ | ⟨d2, ds⟩ := ds
      · simp at h
      obtain _ | ⟨x, ds⟩ := ds
      · rfl
      · simp at h)
    (fun ain h0 => by
      obtain ⟨T0, ain0, e, k0, h1⟩ := areCons h0
      subst e
      obtain ⟨T1, ain1, e, k1, h2⟩ := areCons h1
      subst e
      obtain ⟨T2, ain2, e, k2, h3⟩ := areCons h2
      subst e
      have e := areNil h3
      subst e
      obtain ⟨l, e, w0⟩ := isL k0
      subst e
      obtain ⟨b, e, w1⟩ := isL k1
      subst e
      obtain ⟨n, e, w2⟩ := isN k2
      subst e
      exact run_laws_FnExactGoes l b n (⟨w0.2, w1.2, fun x hx => wfU8 (w1.1 x hx)⟩))
theorem fnExactGoes_over : Rows.fnExactGoesRow.holds Tryz.pinned (OpenSpec.ofChange Rows.fnExactGoesSpec) :=
  OpenClaim.holds_of_wide 4 Tryz.f4 rfl rfl rfl rfl rfl rfl rfl ⟨rfl, rfl, rfl, rfl, rfl⟩ rfl rfl rfl rfl rfl (by kernel_rfl) Tryz.func4 (by kernel_rfl)
    (of_decide_eq_true (by kernel_rfl)) (by unfold Func.isWrapper; first | (rw [if_pos (by decide +kernel)]; kernel_rfl) | (rw [if_neg (by decide +kernel)]; exact ⟨rfl, rfl⟩))
    (fun os started H enc _ => fnExactGoes_lifted os started H enc)
theorem fnExactGoes_holds : Rows.FnExactGoesSaid := fnExactGoes_over
#print axioms fnExactGoes_holds
end Go.Proofs.YthkhmkdkgjdjhaaGreat
