/- FnCostGrows: the given statement holds, out of the law's run by PI. No conditions. -/
import Derived.Test.YtojoiikibimomaaGreatC9
namespace Go.Pi
open Go.Proofs
set_option linter.unusedVariables false
set_option linter.unusedSimpArgs false
set_option maxRecDepth 100000
attribute [local irreducible] iterN
def pf_laws_FnCostGrows : PF := ⟨[.t 2], .seq (.reg [.s (.mv 2 (.k (.v (.c .ff))))]) (.seq (.seq (.reg [.s (.mv 11 (.t 0)), .s (.call (some 12) 8 [(.t 11)])]) (.cond (.t 12) (.seq (.reg [.s (.mv 2 (.k (.v (.c .tt))))]) (.ret)) (.skip))) (.seq (.seq (.reg [.s (.call (some 13) 14 []), .s (.call (some 14) 18 [(.t 13)]), .s (.bnot 15 (.t 14))]) (.cond (.t 15) (.seq (.reg [.s (.mv 2 (.k (.v (.c .ff))))]) (.ret)) (.skip))) (.seq (.reg [.s (.mv 17 (.t 0)), .s (.call (some 18) 19 [(.t 17)]), .s (.mv 16 (.t 18)), .s (.ext 19 (.t 16) 0), .s (.ext 20 (.t 16) 1), .s (.ext 21 (.t 16) 2), .s (.alloc 4 [.nils .word, .int .i64 0, .ff, .int .i64 0, .int .i64 0, .int .i64 0, .int .i64 0, .nils .word, .nils .bool, .int .i64 0]), .s (.mv 3 (.t 19)), .s (.store 10 (.t 4) (.t 20)), .s (.mv 5 (.t 21))]) (.seq (.reg [.s (.mv 22 (.t 0)), .s (.call (some 23) 20 [(.t 22), (.k (.v (.c (.int .i64 1))))]), .s (.mv 24 (.t 5)), .s (.len 25 false (.t 24)), .s (.bin 26 .add (.t 25) (.k (.v (.c (.int .i64 1))))), .s (.bin 27 .rem (.t 23) (.t 26)), .s (.mv 6 (.t 27))]) (.seq (.rgd [] [.s (.mv 29 (.t 3)), .s (.load 30 true 10 (.t 4)), .s (.mv 31 (.t 5)), .s (.mv 32 (.t 6)), .s (.slc 33 .pick (.t 31) none (some (.t 32))), .s (.call (some 34) 21 [(.t 29), (.t 30), (.t 33)]), .s (.mv 28 (.t 34)), .s (.ext 35 (.t 28) 0), .s (.ext 36 (.t 28) 1), .s (.alloc 7 [.int .i64 0, .int .i64 0, .int .i64 0, .int .i64 0, .int .i64 0]), .s (.store 5 (.t 7) (.t 35)), .s (.mv 8 (.t 36))] (.tk 0 (.tk 1 (.tk 2 (.tk 3 (.alt 4 false (.alt 5 false (.tk 6 (.tk 7 (.tk 8 (.one 9 false (.one 10 true (.tk 11 (.done (some [3, 4, 5, 7, 8])))))))) (.alt 9 false (.one 5 true (.tk 6 (.tk 7 (.tk 8 (.one 10 true (.tk 11 (.done (some [3, 4, 5, 7, 8])))))))) (.nil))) (.alt 9 false (.one 4 false (.one 5 true (.tk 6 (.tk 7 (.tk 8 (.one 10 true (.tk 11 (.done (some [3, 4, 5, 7, 8]))))))))) (.nil)))))))) (.seq (.reg [.s (.mv 38 (.t 3)), .s (.load 39 true 10 (.t 4)), .s (.mv 40 (.t 5)), .s (.call (some 41) 21 [(.t 38), (.t 39), (.t 40)]), .s (.mv 37 (.t 41)), .s (.ext 42 (.t 37) 0), .s (.ext 43 (.t 37) 1), .s (.alloc 9 [.int .i64 0, .int .i64 0, .int .i64 0, .int .i64 0, .int .i64 0]), .s (.store 5 (.t 9) (.t 42)), .s (.mv 10 (.t 43))]) (.seq (.seq (.reg [.s (.mv 44 (.t 8)), .s (.bnot 45 (.t 44)), .s (.mv 46 (.t 45)), .g 46 false (some 47) (.mv 47 (.t 10)), .g 46 false (some 48) (.bnot 48 (.t 47)), .s (.pick 49 (.t 46) (.k (.v (.c .tt))) (.t 48))]) (.cond (.t 49) (.seq (.reg [.s (.load 50 true 10 (.t 4)), .s (.call (some 51) 18 [(.t 50)]), .s (.bnot 52 (.t 51)), .s (.mv 53 (.t 52)), .g 53 false (some 54) (.mv 54 (.t 5)), .g 53 false (some 55) (.len 55 false (.t 54)), .g 53 false (some 56) (.bin 56 .gtr (.t 55) (.k (.v (.c (.int .i64 600))))), .s (.pick 57 (.t 53) (.k (.v (.c .tt))) (.t 56)), .s (.mv 2 (.t 57))]) (.ret)) (.skip))) (.seq (.reg [.s (.fa 58 (.t 7) 0), .s (.load 59 false 1 (.t 58)), .s (.fa 60 (.t 9) 0), .s (.load 61 false 1 (.t 60)), .s (.bin 62 .leq (.t 59) (.t 61)), .s (.mv 63 (.t 62)), .g 63 true (some 64) (.fa 64 (.t 7) 1), .g 63 true (some 65) (.load 65 false 1 (.t 64)), .g 63 true (some 66) (.fa 66 (.t 9) 1), .g 63 true (some 67) (.load 67 false 1 (.t 66)), .g 63 true (some 68) (.bin 68 .leq (.t 65) (.t 67)), .s (.pick 69 (.t 63) (.t 68) (.k (.v (.c .ff)))), .s (.mv 70 (.t 69)), .g 70 true (some 71) (.fa 71 (.t 7) 2), .g 70 true (some 72) (.load 72 false 1 (.t 71)), .g 70 true (some 73) (.fa 73 (.t 9) 2), .g 70 true (some 74) (.load 74 false 1 (.t 73)), .g 70 true (some 75) (.bin 75 .leq (.t 72) (.t 74)), .s (.pick 76 (.t 70) (.t 75) (.k (.v (.c .ff)))), .s (.mv 77 (.t 76)), .g 77 true (some 78) (.fa 78 (.t 7) 3), .g 77 true (some 79) (.load 79 false 1 (.t 78)), .g 77 true (some 80) (.fa 80 (.t 9) 3), .g 77 true (some 81) (.load 81 false 1 (.t 80)), .g 77 true (some 82) (.bin 82 .leq (.t 79) (.t 81)), .s (.pick 83 (.t 77) (.t 82) (.k (.v (.c .ff)))), .s (.mv 84 (.t 83)), .g 84 true (some 85) (.fa 85 (.t 7) 4), .g 84 true (some 86) (.load 86 false 1 (.t 85)), .g 84 true (some 87) (.fa 87 (.t 9) 4), .g 84 true (some 88) (.load 88 false 1 (.t 87)), .g 84 true (some 89) (.bin 89 .leq (.t 86) (.t 88)), .s (.pick 90 (.t 84) (.t 89) (.k (.v (.c .ff)))), .s (.mv 91 (.t 90)), .g 91 true (some 92) (.fa 92 (.t 9) 0), .g 91 true (some 93) (.load 93 false 1 (.t 92)), .g 91 true (some 94) (.fa 94 (.t 9) 1), .g 91 true (some 95) (.load 95 false 1 (.t 94)), .g 91 true (some 96) (.bin 96 .add (.t 93) (.t 95)), .g 91 true (some 97) (.fa 97 (.t 9) 2), .g 91 true (some 98) (.load 98 false 1 (.t 97)), .g 91 true (some 99) (.bin 99 .add (.t 96) (.t 98)), .g 91 true (some 100) (.fa 100 (.t 9) 4), .g 91 true (some 101) (.load 101 false 1 (.t 100)), .g 91 true (some 102) (.bin 102 .add (.t 99) (.t 101)), .g 91 true (some 103) (.mv 103 (.t 5)), .g 91 true (some 104) (.len 104 false (.t 103)), .g 91 true (some 105) (.bin 105 .leq (.t 102) (.t 104)), .s (.pick 106 (.t 91) (.t 105) (.k (.v (.c .ff)))), .s (.mv 2 (.t 106))]) (.ret)))))))))⟩
def c_laws_FnCostGrows : Fun := ⟨4, [], fun ts K => as1 ts fun t0 => arC (pL (.int .u8)) t0 fun code => chk (code.length ≤ 9223372036854775807 ∧ U8s code) (K (tB true) [])⟩
theorem run_laws_FnCostGrows (FU : Nat) (code : List (FT.Ty (.int .u8))) (hpre : code.length ≤ 9223372036854775807 ∧ U8s code) : runK [c_laws_big, c_impl_StateNew, c_impl_StateOk, c_spec_DrawCostOf, c_laws_at, c_impl_CostOf] (100 + FU) [] pf_laws_FnCostGrows [tL false (.int .u8) code] fun r o => r = tB true ∧ o = [] := by
  obtain ⟨hp, hu⟩ := hpre
  conv => whnf
  refine sel_i (fun h => ?_) (fun h => ?_) <;> conv => whnf
  · exact ⟨rfl, rfl⟩
  have hc : code.length ≤ 1048576 := by simp at h; omega
  clear h
  have hsn : stateOk stateNew = true := by decide
  refine chk_i (stateOk_len hsn).l ?_
  conv => whnf
  refine sel_i (fun h => ?_) (fun h => ?_)
  · exfalso
    have h : (!stateOk stateNew) = true := h
    rw [hsn] at h; cases h
  clear h
  conv => whnf
  refine chk_i hc ?_
  conv => whnf
  intro l s ps hd
  obtain ⟨g1, g2, g3⟩ := hd
  conv => whnf
  refine chk_i ⟨hc, by decide, by decide, hu⟩ ?_
  conv => whnf
  intro x hx
  have w1 : IntKind.i64.wrap ((ps.length : Int) + 1) = (ps.length : Int) + 1 := wrap_id (by omega) (by omega)
  have ht := tmod_in (n := (ps.length : Int) + 1) hx.1 (by omega)
  conv => whnf
  rw [w1]
  refine chk_i (by omega) ?_
  generalize x.tmod ((ps.length : Int) + 1) = k at ht ⊢
  obtain ⟨n, rfl⟩ : ∃ n : Nat, k = n := ⟨k.toNat, by omega⟩
  have hw : win ps 0 n = ps.take n := by unfold win; rw [List.drop_zero]
  have hwl : (ps.take n).length ≤ 601 := by rw [List.length_take]; omega
  have gr := @costOf_grows l s ps n
  have gf := @costOf_f l s (ps.take n)
  have gf2 := @costOf_f l s ps
  have gb := costOf_bnd l s g3
  have hln : LState s 2147483647 := g2.mono (by decide)
  conv => whnf
  repeat' (first | (refine sel_i (fun h => ?_) (fun h => ?_) <;> conv => whnf) | (refine chk_c ?_ ?_ <;> conv => whnf) | (refine And.intro ?_ rfl) | (refine And.intro ?_ ?_ <;> conv => whnf))
  all_goals (try simp only [etaKey, etaWord, etaMemory, etaState, etaCost, Int.toNat_natCast, hw] at *)
  all_goals generalize costOf l s (ps.take n) = A at *
  all_goals generalize costOf l s ps = B at *
  all_goals (try simp only [Bool.not_eq_true', Bool.not_eq_false', decide_eq_true_eq, decide_eq_false_iff_not] at *)
  all_goals first
    | rfl
    | (refine ⟨?_⟩; first | omega | assumption | exact ⟨by omega, hln, by omega⟩)
    | (have q := gf (by assumption)
       rcases q with q | q
       · exact absurd (q.symm.trans (show stateOk s = true by assumption)) (by decide)
       · rw [List.length_take] at q; rw [decide_eq_true (by omega)]; done)
    | (have q := gf2 (by assumption)
       rcases q with q | q
       · exact absurd (q.symm.trans (show stateOk s = true by assumption)) (by decide)
       · rw [decide_eq_true (by omega)]; done)
    | (obtain ⟨q1, q2⟩ := gr (by assumption) (by assumption)
       unfold LeC sumC at *
       unfold BndC at gb
       rw [wrap_id (n := B.1.pulled + B.1.done) (by omega) (by omega), wrap_id (n := B.1.pulled + B.1.done + B.1.kept) (by omega) (by omega), wrap_id (n := B.1.pulled + B.1.done + B.1.kept + B.1.swept) (by omega) (by omega), decide_eq_true (by omega)]; done)
    | (exfalso; obtain ⟨q1, q2⟩ := gr (by assumption) (by assumption); unfold LeC at q1; omega)
    | trace_state
theorem ok_laws_FnCostGrows : FunOk Tryz.prog c_laws_FnCostGrows := funOk (E := [c_laws_big, c_impl_StateNew, c_impl_StateOk, c_spec_DrawCostOf, c_laws_at, c_impl_CostOf]) (envOk_cons ok_laws_big (envOk_cons ok_impl_StateNew (envOk_cons ok_impl_StateOk (envOk_cons ok_spec_DrawCostOf (envOk_cons ok_laws_at (envOk_cons ok_impl_CostOf (envOk_nil))))))) mixd Tryz.func4 (pf := pf_laws_FnCostGrows) (by kernel_rfl) fun ts K h => by
  obtain ⟨t0, e0, h⟩ := as1_out h
  subst e0
  obtain ⟨code, e1, hq⟩ := arC_out (rd_l (.int .u8)) h
  clear h
  subst e1
  have h := hq
  clear hq
  obtain ⟨hpre, h⟩ := chk_o h
  exact ⟨_, _, h, Nat.le_of_ble_eq_true (show Nat.ble 1 Tryz.f4.ntmps = true by kernel_rfl), _, run_laws_FnCostGrows 0 code hpre⟩

end Go.Pi
namespace Go.Proofs.YtojoiikibimomaaGreat
open Go.Pi
theorem fnCostGrows_lifted (os : Os) (started : os.Started) (H : Type) (enc : TypeId × Value → H) :
    ReturnsInHanded {} Tryz.checked os 4 .any (Rows.fnCostGrowsSpec.pre6 enc Tryz.prog Tryz.f4 Rows.fnCostGrowsRow.domain false) (Rows.fnCostGrowsSpec.post enc Tryz.prog Tryz.f4 false true false false) :=
  lifted (C := Tryz.checked) (E := [c_laws_big, c_impl_StateNew, c_impl_StateOk, c_spec_DrawCostOf, c_laws_at, c_impl_CostOf]) (fuel := _) (pf := pf_laws_FnCostGrows) (shs := [(false, [.sl (.int .u8)])]) (tb := 4) (by kernel_rfl) started (by kernel_rfl) Tryz.func4
    (ChangeSpec.witness6 (enc := enc) (C := Tryz.checked) false ⟨#[], #[.slice none 0 0], []⟩ 12 (by kernel_rfl) (by kernel_rfl) (by kernel_rfl) (by kernel_rfl))
    mixd (envOk_cons ok_laws_big (envOk_cons ok_impl_StateNew (envOk_cons ok_impl_StateOk (envOk_cons ok_spec_DrawCostOf (envOk_cons ok_laws_at (envOk_cons ok_impl_CostOf (envOk_nil))))))) (by kernel_rfl) (by kernel_rfl) (by kernel_rfl) rfl (by kernel_rfl) rfl (by kernel_rfl)
    (fun ds h => by
      obtain _ | ⟨d0, ds⟩ := ds
      · simp at h
      obtain _ | ⟨x, ds⟩ := ds
      · rfl
      · simp at h)
    (fun ain h0 => by
      obtain ⟨T0, ain0, e, k0, h1⟩ := areCons h0
      subst e
      have e := areNil h1
      subst e
      obtain ⟨code, e, w0⟩ := isL k0
      subst e
      exact run_laws_FnCostGrows 0 code (⟨w0.2, fun x hx => wfU8 (w0.1 x hx)⟩))
theorem fnCostGrows_over : Rows.fnCostGrowsRow.holds Tryz.pinned (OpenSpec.ofChange Rows.fnCostGrowsSpec) :=
  OpenClaim.holds_of_wide 4 Tryz.f4 rfl rfl rfl rfl rfl rfl rfl ⟨rfl, rfl, rfl, rfl, rfl⟩ rfl rfl rfl rfl rfl (by kernel_rfl) Tryz.func4 (by kernel_rfl)
    (of_decide_eq_true (by kernel_rfl)) (by unfold Func.isWrapper; first | (rw [if_pos (by decide +kernel)]; kernel_rfl) | (rw [if_neg (by decide +kernel)]; exact ⟨rfl, rfl⟩))
    (fun os started H enc _ => fnCostGrows_lifted os started H enc)
theorem fnCostGrows_holds : Rows.FnCostGrowsSaid := fnCostGrows_over
#print axioms fnCostGrows_holds
end Go.Proofs.YtojoiikibimomaaGreat
