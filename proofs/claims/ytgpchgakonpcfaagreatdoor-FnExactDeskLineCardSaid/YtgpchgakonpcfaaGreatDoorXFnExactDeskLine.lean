/- FnExactDeskLine: the given statement holds, out of the law's run by PI. No conditions. -/
import Derived.Test.YtgpchgakonpcfaaGreatDoorC7
import Derived.Test.YtgpchgakonpcfaaGreatDoorCards
import Derived.Test.YtgpchgakonpcfaaGreatDoorTie
import Derived.SevenTiedAt
import Derived.OpenShut
import Derived.Stop.Joined
namespace Go.Pi
open Go.Proofs
set_option linter.unusedVariables false
set_option linter.unusedSimpArgs false
set_option maxRecDepth 100000
attribute [local irreducible] iterN
def pf_w_FnExactDeskLine : PF := ⟨[.t 4], .r [.box 2 0, .mv 4 .F] (.seq (.r [.m 16 1, .len 17 true 16, .bin 18 .gtr 17 (.i 1048576)] (.cond 18 (.r [.mv 4 .T] .ret) .skip)) (.r [.mv 5 (.i 1048576)] (.r [.L 19 21 2, .m 20 5, .c 21 4 [19, 20], .m 5 21] (.seq (.r [.m 22 5, .bin 23 .lss 22 (.i 0)] (.cond 23 (.r [.mv 4 .T] .ret) .skip)) (.r [.L 25 21 2, .c 26 6 [25], .m 27 1, .c 28 5 [26, 27], .m 24 28, .ext 29 24 0, .ext 30 24 1, .alloc 6 zcD, .o 21 6 29, .m 7 30] (.r [.L 31 21 2, .c 32 6 [31], .alloc 8 zcD, .o 21 8 32] (.r [.L 34 21 8, .m 35 1, .c 36 7 [34, 35], .m 33 36, .ext 37 33 0, .ext 38 33 1, .alloc 9 zcD, .o 21 9 37, .m 10 38] (.seq (.r [.L 39 21 9, .L 40 21 6, .c 41 8 [39, 40], .bnot 42 41, .m 43 42, .n 43 44 (.mv 44 10), .n 43 45 (.mv 45 7), .n 43 46 (.eqs 46 false [.s] true 44 45), .pick 47 43 .T 46] (.cond 47 (.r [.mv 4 .F] .ret) .skip)) (.seq (.seq (.rgd [] [.L 48 21 8, .L 49 21 2, .c 50 6 [49], .c 51 8 [48, 50], .bnot 52 51] (.ts [0, 1] (.one 2 false (.one 3 true (.tk 4 .d))))) (.cond 52 (.r [.mv 4 .F] .ret) .skip)) (.r [.mv 11 (.i 1)] (.r [.L 53 21 8, .m 54 11, .c 55 9 [53, 54], .m 11 55] (.seq (.r [.m 56 11, .bin 57 .lss 56 (.i 0), .m 58 57, .n 58 59 (.load 59 true 21 9), .n 58 60 (.load 60 true 21 6), .n 58 61 (.call (some 61) 8 [59, 60]), .n 58 62 (.bnot 62 61), .pick 63 58 .T 62, .m 64 63, .n 64 65 (.mv 65 10), .n 64 66 (.mv 66 7), .n 64 67 (.eqs 67 false [.s] true 65 66), .pick 68 64 .T 67] (.cond 68 (.r [.mv 4 .F] .ret) .skip)) (.r [.mv 12 (.i 1)] (.r [.L 69 21 9, .m 70 12, .c 71 9 [69, 70], .m 12 71] (.r [.mv 13 (.i 1)] (.r [.L 72 21 9, .m 73 13, .c 74 10 [72, 73], .m 13 74] (.seq (.r [.m 75 13, .bin 76 .lss 75 (.i 0)] (.cond 76 (.r [.mv 4 .F] .ret) .skip)) (.seq (.r [.m 77 13, .m 78 12, .bin 79 .neq 77 78] (.cond 79 (.r [.mv 4 .F] .ret) .skip)) (.r [.L 81 21 2, .c 82 6 [81], .m 83 1, .c 84 7 [82, 83], .m 80 84, .ext 85 80 0, .ext 86 80 1, .alloc 14 zcD, .o 21 14 85, .m 15 86] (.seq (.r [.L 87 21 14, .L 88 21 6, .c 89 8 [87, 88], .bnot 90 89, .m 91 90, .n 91 92 (.mv 92 15), .n 91 93 (.mv 93 7), .n 91 94 (.eqs 94 false [.s] true 92 93), .pick 95 91 .T 94] (.cond 95 (.r [.mv 4 .F] .ret) .skip)) (.r [.mv 13 (.i 1)] (.r [.L 96 21 9, .m 97 13, .c 98 10 [96, 97], .m 13 98] (.seq (.r [.m 99 13, .bin 100 .lss 99 (.i 0)] (.cond 100 (.r [.mv 4 .F] .ret) .skip)) (.seq (.r [.m 101 13, .m 102 12, .bin 103 .neq 101 102] (.cond 103 (.r [.mv 4 .F] .ret) .skip)) (.r [.mv 4 .T] .ret)))))))))))))))))))))))))⟩
def c_w_FnExactDeskLine : Fun := ⟨3, [], fun ts K => as2 ts fun t0 t1 => arG pDeskT t0 fun d => arC pS t1 fun s => chk (LDesk d 9223372036854775807) (K (tB true) [])⟩
attribute [local irreducible] lineF markDesk endDesk
set_option maxHeartbeats 4000000 in
theorem run_w_FnExactDeskLine (d : Desk) (s : ByteArray) (hpre : LDesk d 9223372036854775807) : runK [c_w_szDesk, c_s_DeskLine, c_w_toDesk, c_i_DeskLine, c_w_eqDesk, c_w_markDesk, c_w_heldDesk] (0) [] pf_w_FnExactDeskLine [tG (d.tc false []), .v (.c (.str s))] fun r o => r = tB true ∧ o = [] := by
  conv => whnf
  refine sel_i (fun h => ?_) (fun h => ?_)
  · conv => whnf
    exact ⟨rfl, rfl⟩
  have hs : s.size ≤ 1048576 := by simp at h; omega
  have hs2 : s.size ≤ 1000000000 := by omega
  clear h
  conv => whnf
  refine chk_i ⟨hpre, by omega, by omega⟩ ?_
  conv => whnf
  refine sel_i (fun h => ?_) (fun h => ?_)
  · conv => whnf
    exact ⟨rfl, rfl⟩
  simp only [etaKey, etaWord, etaMemory, etaState, etaCore, etaDesk, decide_eq_false_iff_not, Int.not_lt] at h ⊢
  have l1 : LDesk d 1048576 := szDesk_n (by decide) (by decide) h
  clear h hpre hs
  have l2 : LDesk d 2147483647 := l1.mono (by decide)
  have hE : LDesk (lineF d s).1 2147483647 := lineF_len l1 l2
  have z1 : SzDesk d := l2.sz
  have z2 : SzDesk (lineF d s).1 := hE.sz
  have e1 := endDesk_le d 1 z1
  have e2 := endDesk_le (lineF d s).1 1 z2
  have z4 : SzDesk (markDesk d 1) := sz_markDesk d 1 z1
  have z5 : SzDesk (markDesk (lineF d s).1 1) := sz_markDesk (lineF d s).1 1 z2
  have z6 := z4.l
  have z7 := z5.l
  have hl2 : LDesk d 1048576 ∧ s.size ≤ 1000000000 := ⟨l1, hs2⟩
  have n1 := markDesk_len d 1
  have n2 := markDesk_len (lineF d s).1 1
  clear l1 hs2
  conv => whnf
  repeat' (first | ((first | refine sel_i (fun h => ?_) (fun h => ?_) | refine chk_c ?_ ?_) <;> conv => whnf) | refine And.intro ?_ rfl | (refine And.intro ?_ ?_ <;> conv => whnf))
  all_goals (try simp only [etaKey, etaWord, etaMemory, etaState, etaCore, etaDesk] at *)
  all_goals first
    | (refine ⟨?_⟩; assumption)
    | (refine ⟨?_⟩; exact ⟨by assumption, by assumption⟩)
    | (refine ⟨?_⟩; exact ⟨by omega, by omega, by assumption⟩)
    | (refine ⟨?_⟩; first | exact n1.1 | exact n1.2.1 | exact n1.2.2.1 | exact n1.2.2.2.1 | exact n1.2.2.2.2.1 | exact n1.2.2.2.2.2.1 | exact n1.2.2.2.2.2.2)
    | (refine ⟨?_⟩; first | exact n2.1 | exact n2.2.1 | exact n2.2.2.1 | exact n2.2.2.2.1 | exact n2.2.2.2.2.1 | exact n2.2.2.2.2.2.1 | exact n2.2.2.2.2.2.2)
    | (exfalso; exact decTrueN (by assumption))
    | (exfalso; exact absurd rfl (beqB_nyes.1 (by assumption)))
    | (exfalso; have q := of_decide_eq_true (show decide (endDesk d 1 < 0) = true by assumption); omega)
    | rfl
    | (exfalso
       simp only [etaKey, etaWord, etaMemory, etaState, etaCore, etaDesk, etaMDesk, mark_markDesk, end_markDesk, hres_true, bne_self_eq_false, decide_eq_true_eq, Bool.false_eq_true] at *
       first | done | contradiction | omega)
    | trace_state
theorem ok_w_FnExactDeskLine : FunOk Tryz.prog c_w_FnExactDeskLine := funOk (eK ok_w_szDesk (eK ok_s_DeskLine (eK ok_w_toDesk (eK ok_i_DeskLine (eK ok_w_eqDesk (eK ok_w_markDesk (eK ok_w_heldDesk eN))))))) mixd Tryz.func3 (pf := pf_w_FnExactDeskLine) (by kernel_rfl) fun ts K h => by
  obtain ⟨t0, t1, rfl, q0⟩ := as2_out h
  obtain ⟨d, rfl, q1⟩ := arG_out rd_desk q0
  obtain ⟨s, rfl, q2⟩ := arC_out rd_s q1
  obtain ⟨hpre, hk⟩ := chk_o q2
  exact ⟨_, _, hk, nb 2 Tryz.f3 (by kernel_rfl), _, run_w_FnExactDeskLine d s hpre⟩

end Go.Pi
namespace Go.Proofs.YtgpchgakonpcfaaGreatDoor
open Go.Pi
set_option maxRecDepth 100000
def fnExactDeskLine_laid : List (String × DataW Unit) := [("math/bits.deBruijn32tab", Rows.laid_math_bits_deBruijn32tab), ("math/bits.deBruijn64tab", Rows.laid_math_bits_deBruijn64tab), ("internal/strconv.uint64pow10", Rows.laid_internal_strconv_uint64pow10), ("strconv.ErrRange", Rows.laid_strconv_ErrRange), ("strconv.ErrSyntax", Rows.laid_strconv_ErrSyntax)]
theorem fnExactDeskLine_met (os : Os) (args : Array Value) : laidMetH Tryz.prog fnExactDeskLine_laid ((World.doorLaid Tryz.prog 400 os).forCall (fun _ _ => 0) ⟨#[], args, []⟩).memory :=
  laidMetH_of_parts3 (fuel := 8) (laidMet_of_run' 8 (by kernel_rfl) (by kernel_rfl)) (by kernel_rfl) (by kernel_rfl)
theorem fnExactDeskLine_tab : (Rows.laid_internal_strconv_uint64pow10 : DataW Unit) = Lib.tabData .u64 Lib.pow10Tab := by kernel_rfl
theorem fnExactDeskLine_star : "*" ++ "errors.errorString" = "*errors.errorString" := by decide
theorem fnExactDeskLine_erow (u : TypeId) (h : Tryz.prog.typeName? 3 u = some "*errors.errorString") : u = 265 :=
  typeName_ptr_named (nm := "errors.errorString") (by rw [fnExactDeskLine_star]; kernel_rfl) (by kernel_rfl) (by decide) u (by rw [fnExactDeskLine_star]; exact h)
theorem fnExactDeskLine_low (W : World) (h : laidMetH Tryz.prog fnExactDeskLine_laid W) : Low Tryz.prog W [] := by
  rw [MakeChecks.laidMetH_plain _ _ _ (by kernel_rfl)] at h
  have h := laidMet_rest h
  have h := laidMet_rest h
  have h : laidMet Tryz.prog ((tabName, Rows.laid_internal_strconv_uint64pow10) :: [("strconv.ErrRange", Rows.laid_strconv_ErrRange), ("strconv.ErrSyntax", Rows.laid_strconv_ErrSyntax)]) W := h
  rw [fnExactDeskLine_tab] at h
  have hE := h.tail
  obtain ⟨_, _, v3, _⟩ := laid_sentinel (g := 3) hE (by kernel_rfl) (by kernel_rfl) Tryz.underlying168 fnExactDeskLine_erow Tryz.underlying265 Tryz.underlying267 rfl rfl Tryz.underlying9 (by kernel_rfl) (by kernel_rfl)
  have hE := hE.tail
  obtain ⟨_, _, v4, _⟩ := laid_sentinel (g := 2) hE (by kernel_rfl) (by kernel_rfl) Tryz.underlying168 fnExactDeskLine_erow Tryz.underlying265 Tryz.underlying267 rfl rfl Tryz.underlying9 (by kernel_rfl) (by kernel_rfl)
  have hE := hE.tail
  refine ⟨LowT.of_tab (Lib.tabIs_of_head (g := 1) (t := 250) (show Tryz.prog.globalNamed tabName = some 1 by kernel_rfl) (by kernel_rfl) Tryz.underlying250 (by kernel_rfl) (by kernel_rfl) (by kernel_rfl) h) (by kernel_rfl), LowE.of_vars fun nm hn => ?_⟩
  rcases List.mem_cons.1 hn with rfl | hn
  · exact ⟨_, _, v3⟩
  rcases List.mem_cons.1 hn with rfl | hn
  · exact ⟨_, _, v4⟩
  · cases hn
theorem fnExactDeskLine_lifted (os : Os) (started : os.Started) (H : Type) (enc : TypeId × Value → H) :
    ReturnsInHanded {} Tryz.checked os 3 .any (fun w args => (Rows.fnExactDeskLineSpec.pre enc Tryz.prog Tryz.f3 [] false w args ∧ laidMetH Tryz.prog fnExactDeskLine_laid w) ∧ sizedMet enc Tryz.prog Tryz.f3 (OpenSpec.ofChange Rows.fnExactDeskLineSpec) false w args) (Rows.fnExactDeskLineSpec.post enc Tryz.prog Tryz.f3 false true false false) :=
  liftedX (X := fun w _ => laidMetH Tryz.prog fnExactDeskLine_laid w) (C := Tryz.checked) (E := [c_w_szDesk, c_s_DeskLine, c_w_toDesk, c_i_DeskLine, c_w_eqDesk, c_w_markDesk, c_w_heldDesk]) (fuel := _) (pf := pf_w_FnExactDeskLine) (shs := [(true, ckDesk), (false, [.s])]) (tb := 4) (fun _ _ _ hh h => h.of_heap hh) (by kernel_rfl) started (by kernel_rfl) Tryz.func3
    (ChangeSpec.witness_shaped (enc := enc) (C := Tryz.checked) (os := os) (X := fun w _ => laidMetH Tryz.prog fnExactDeskLine_laid w) false (World.doorLaid Tryz.prog 400 os) #[.agg #[.slice none 0 0, .slice none 0 0, .int .i64 0, .bool false, .int .i64 0, .int .i64 0, .int .i64 0, .int .i64 0, .slice none 0 0, .slice none 0 0, .int .i64 0, .slice none 0 0, .int .i64 0, .bool false, .int .i64 0, .int .i64 0, .int .i64 0, .int .i64 0, .bool false, .slice none 0 0, .slice none 0 0], .string ⟨#[]⟩] 12 rfl (World.shaped_of_RefB (by kernel_rfl) (by kernel_rfl)) (by kernel_rfl) (by kernel_rfl) (by kernel_rfl) (fnExactDeskLine_met os _))
    mixd (envOk_cons ok_w_szDesk (envOk_cons ok_s_DeskLine (envOk_cons ok_w_toDesk (envOk_cons ok_i_DeskLine (envOk_cons ok_w_eqDesk (envOk_cons ok_w_markDesk (envOk_cons ok_w_heldDesk (envOk_nil)))))))) (by kernel_rfl) (by kernel_rfl) (by kernel_rfl) rfl (by kernel_rfl) rfl (fun W _ h => fnExactDeskLine_low W h)
    (fun ds h => by
      obtain _ | ⟨d0, ds⟩ := ds
      · simp at h
      obtain _ | ⟨d1, ds⟩ := ds
      · simp at h
      obtain _ | ⟨x, ds⟩ := ds
      · rfl
      · simp at h)
    (fun ain h0 => by
      obtain ⟨T0, ain0, e, k0, h1⟩ := areCons h0
      subst e
      obtain ⟨T1, ain1, e, k1, h2⟩ := areCons h1
      subst e
      have e := areNil h2
      subst e
      obtain ⟨d, e, w0⟩ := areG ut_desk k0
      subst e
      obtain ⟨s, e, w1⟩ := isS k1
      subst e
      exact run_w_FnExactDeskLine d s (lDesk_of w0))
theorem fnExactDeskLine_over : Rows.fnExactDeskLineRow.holds Tryz.pinned (OpenSpec.ofChange Rows.fnExactDeskLineSpec) :=
  OpenClaim.holds_of_wide 3 Tryz.f3 rfl rfl rfl rfl rfl rfl rfl ⟨rfl, rfl, rfl, rfl, rfl⟩ rfl rfl rfl rfl rfl (by kernel_rfl) Tryz.func3 (by kernel_rfl)
    (of_decide_eq_true (by kernel_rfl)) (by unfold Func.isWrapper; first | (rw [if_pos (by decide +kernel)]; kernel_rfl) | (rw [if_neg (by decide +kernel)]; exact ⟨rfl, rfl⟩))
    (fun os started H enc _ => fnExactDeskLine_lifted os started H enc)
theorem fnExactDeskLine_holds : Rows.FnExactDeskLineCardSaid :=
  Claim7.holds_tied_plain_at .later [] [.data, .data, .data, .sentinel, .sentinel] true (true, "faf0a5f8ffa03f4641288c69003e107089abc725e1fbfc18ddcef399d82f5059") true
    fnExactDeskLine_over (fun _ h => by cases h) (by kernel_rfl) (fun _ h => by cases h) fnExactDeskLine_row_tie rfl ⟨rfl, rfl⟩ (by kernel_rfl) rfl
    (fun f fn hf hfn => by
      obtain rfl : f = 3 := Option.some.inj ((show Tryz.prog.funcNamed Rows.fnExactDeskLineRow.func = some 3 by kernel_rfl).symm.trans hf) |>.symm
      obtain rfl : fn = Tryz.f3 := (Option.some.inj (Tryz.func3.symm.trans hfn)).symm
      exact ⟨by kernel_rfl, fun j t ht => by
        rw [Tryz.params3] at ht
        have hm : t ∈ [38, 9] := by simpa using Array.mem_of_getElem? ht
        have hall : ([38, 9].all fun u => !Tryz.prog.wantsStandIn u) = true := by kernel_rfl
        exact (show Tryz.prog.wantsStandIn t = false by simpa using List.all_eq_true.1 hall t hm)⟩)
    (by kernel_rfl)
#print axioms fnExactDeskLine_holds
end Go.Proofs.YtgpchgakonpcfaaGreatDoor
