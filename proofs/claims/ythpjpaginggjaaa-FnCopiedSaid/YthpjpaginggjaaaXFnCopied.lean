/- FnCopied: the given statement holds, out of the law's run by PI. No conditions. -/
import Derived.Test.YthpjpaginggjaaaC4
namespace Go.Pi
open Go.Proofs
set_option linter.unusedVariables false
set_option linter.unusedSimpArgs false
set_option maxRecDepth 100000
attribute [local irreducible] iterN
def lb_laws_FnCopied_0 : PC := .seq (.seq (.reg [.s (.mv 76 (.t 13)), .s (.bin 77 .lss (.t 76) (.k (.v (.c (.int .i64 24)))))]) (.cond (.t 77) (.skip) (.exit 0))) (.seq (.blk 1 (.seq (.reg [.s (.fa 80 (.t 10) 7), .s (.fa 81 (.t 80) 0), .s (.load 82 false 1 (.t 81)), .s (.mv 83 (.t 13)), .s (.ia 84 .word (.t 82) (.t 83)), .s (.load 85 true 6 (.t 84)), .s (.alloc 14 [.int .i64 0, .ff, .int .i64 0, .int .i64 0, .int .i64 0, .int .i64 0]), .s (.store 6 (.t 14) (.t 85))]) (.seq (.seq (.reg [.s (.mv 86 (.t 13)), .s (.mv 87 (.t 4)), .s (.bin 88 .geq (.t 86) (.t 87)), .s (.mv 89 (.t 88)), .g 89 true (some 90) (.mv 90 (.t 13)), .g 89 true (some 91) (.mv 91 (.t 4)), .g 89 true (some 92) (.mv 92 (.t 5)), .g 89 true (some 93) (.bin 93 .add (.t 91) (.t 92)), .g 89 true (some 94) (.bin 94 .lss (.t 90) (.t 93)), .s (.pick 95 (.t 89) (.t 94) (.k (.v (.c .ff))))]) (.cond (.t 95) (.rgd [] [.s (.fa 96 (.t 10) 7), .s (.load 97 true 2 (.t 96)), .s (.fa 98 (.t 10) 7), .s (.fa 99 (.t 98) 0), .s (.load 100 false 1 (.t 99)), .s (.mv 101 (.t 13)), .s (.mv 102 (.t 4)), .s (.bin 103 .sub (.t 101) (.t 102)), .s (.mv 104 (.t 3)), .s (.bin 105 .add (.t 103) (.t 104)), .s (.ia 106 .word (.t 100) (.t 105)), .s (.load 107 true 6 (.t 106)), .s (.call (some 108) 53 [(.t 97), (.t 107)]), .s (.store 6 (.t 14) (.t 108))] (.tk 0 (.tk 1 (.tk 2 (.tk 3 (.tk 4 (.tk 5 (.tk 6 (.tk 7 (.tk 8 (.tk 9 (.tk 10 (.tk 11 (.one 12 true (.one 13 true (.done none)))))))))))))))) (.skip))) (.seq (.rgd [] [.s (.fa 109 (.t 11) 7), .s (.fa 110 (.t 109) 0), .s (.load 111 false 1 (.t 110)), .s (.mv 112 (.t 13)), .s (.ia 113 .word (.t 111) (.t 112)), .s (.load 114 true 6 (.t 113)), .s (.load 115 true 6 (.t 14)), .s (.eqs 116 true [.i, .b, .i, .i, .i, .i] true (.t 114) (.t 115))] (.tk 0 (.tk 1 (.tk 2 (.tk 3 (.tk 4 (.tk 5 (.tk 6 (.tk 7 (.done none)))))))))) (.cond (.t 116) (.seq (.reg [.s (.mv 2 (.k (.v (.c .ff))))]) (.ret)) (.skip)))))) (.reg [.s (.mv 78 (.t 13)), .s (.bin 79 .add (.t 78) (.k (.v (.c (.int .i64 1))))), .s (.mv 13 (.t 79))]))
def pf_laws_FnCopied : PF := ⟨[.t 2], .seq (.reg [.s (.mv 2 (.k (.v (.c .ff))))]) (.seq (.seq (.reg [.s (.mv 15 (.t 0)), .s (.call (some 16) 12 [(.t 15)])]) (.cond (.t 16) (.seq (.reg [.s (.mv 2 (.k (.v (.c .tt))))]) (.ret)) (.skip))) (.seq (.reg [.s (.mv 18 (.t 0)), .s (.call (some 19) 45 [(.t 18)]), .s (.mv 17 (.t 19)), .s (.ext 20 (.t 17) 0), .s (.ext 21 (.t 17) 1), .s (.ext 22 (.t 17) 2), .s (.mv 3 (.t 20)), .s (.mv 4 (.t 21)), .s (.mv 5 (.t 22))]) (.seq (.reg [.s (.mv 24 (.t 3)), .s (.mv 25 (.t 4)), .s (.mv 26 (.t 5)), .s (.call (some 27) 46 [(.t 24), (.t 25), (.t 26)]), .s (.mv 23 (.t 27)), .s (.ext 28 (.t 23) 0), .s (.ext 29 (.t 23) 1), .s (.mv 6 (.t 28)), .s (.mv 7 (.t 29))]) (.seq (.reg [.s (.mv 31 (.t 3)), .s (.mv 32 (.t 4)), .s (.mv 33 (.t 5)), .s (.call (some 34) 47 [(.t 31), (.t 32), (.t 33)]), .s (.mv 30 (.t 34)), .s (.ext 35 (.t 30) 0), .s (.ext 36 (.t 30) 1), .s (.mv 8 (.t 35)), .s (.mv 9 (.t 36))]) (.seq (.seq (.reg [.s (.mv 37 (.t 7)), .s (.mv 38 (.t 9)), .s (.eqs 39 false [.b] true (.t 37) (.t 38)), .s (.mv 40 (.t 39)), .g 40 false (some 41) (.mv 41 (.t 6)), .g 40 false (some 42) (.mv 42 (.t 8)), .g 40 false (some 43) (.call (some 43) 48 [(.t 41), (.t 42)]), .g 40 false (some 44) (.bnot 44 (.t 43)), .s (.pick 45 (.t 40) (.k (.v (.c .tt))) (.t 44))]) (.cond (.t 45) (.seq (.reg [.s (.mv 2 (.k (.v (.c .ff))))]) (.ret)) (.skip))) (.seq (.seq (.reg [.s (.mv 46 (.t 7)), .s (.bnot 47 (.t 46)), .s (.mv 48 (.t 47)), .g 48 false (some 49) (.mv 49 (.t 3)), .g 48 false (some 50) (.mv 50 (.t 4)), .g 48 false (some 51) (.mv 51 (.t 5)), .g 48 false (some 52) (.bin 52 .add (.t 50) (.t 51)), .g 48 false (some 53) (.bin 53 .lss (.t 49) (.t 52)), .g 48 false (some 54) (.mv 54 (.t 53)), .g 54 true (some 55) (.mv 55 (.t 4)), .g 54 true (some 56) (.mv 56 (.t 3)), .g 54 true (some 57) (.mv 57 (.t 5)), .g 54 true (some 58) (.bin 58 .add (.t 56) (.t 57)), .g 54 true (some 59) (.bin 59 .lss (.t 55) (.t 58)), .g 48 false (some 60) (.pick 60 (.t 54) (.t 59) (.k (.v (.c .ff)))), .s (.pick 61 (.t 48) (.k (.v (.c .tt))) (.t 60))]) (.cond (.t 61) (.seq (.reg [.s (.mv 62 (.t 7)), .s (.mv 63 (.t 6)), .s (.call (some 64) 49 [(.t 63)]), .s (.eqs 65 false [.b] false (.t 62) (.t 64)), .s (.mv 2 (.t 65))]) (.ret)) (.skip))) (.seq (.reg [.s (.call (some 66) 50 []), .s (.alloc 10 [.nils .word, .int .i64 0, .ff, .int .i64 0, .int .i64 0, .int .i64 0, .int .i64 0, .nils .word, .nils .bool, .int .i64 0]), .s (.store 10 (.t 10) (.t 66))]) (.seq (.reg [.s (.mv 67 (.t 0)), .s (.call (some 68) 51 [(.t 67)]), .s (.fa 69 (.t 10) 7), .s (.store 2 (.t 69) (.t 68))]) (.seq (.reg [.s (.mv 71 (.t 6)), .s (.load 72 true 10 (.t 10)), .s (.call (some 73) 52 [(.t 71), (.t 72), (.k (.v (.c (.int .i64 100))))]), .s (.mv 70 (.t 73)), .s (.ext 74 (.t 70) 0), .s (.ext 75 (.t 70) 1), .s (.alloc 11 [.nils .word, .int .i64 0, .ff, .int .i64 0, .int .i64 0, .int .i64 0, .int .i64 0, .nils .word, .nils .bool, .int .i64 0]), .s (.store 10 (.t 11) (.t 74)), .s (.mv 12 (.t 75))]) (.seq (.seq (.reg [.s (.mv 13 (.k (.v (.c (.int .i64 0)))))]) (.blk 0 (.loop [3, 4, 5, 6, 10, 11, 13] lb_laws_FnCopied_0))) (.seq (.reg [.s (.fa 117 (.t 11) 9), .s (.load 118 false 1 (.t 117)), .s (.bin 119 .eql (.t 118) (.k (.v (.c (.int .i64 5))))), .s (.mv 120 (.t 119)), .g 120 true (some 121) (.mv 121 (.t 6)), .g 120 true (some 122) (.call (some 122) 49 [(.t 121)]), .s (.pick 123 (.t 120) (.t 122) (.k (.v (.c .ff)))), .s (.mv 2 (.t 123))]) (.ret))))))))))))⟩
def c_laws_FnCopied : Fun := ⟨5, [], fun ts K => as1 ts fun t0 => arC (pL (.int .u8)) t0 fun code => chk (code.length ≤ 9223372036854775807) (K (tB true) [])⟩
theorem run_laws_FnCopied (FU : Nat) (code : List (FT.Ty (.int .u8))) (hpre : code.length ≤ 9223372036854775807) : runK [c_laws_big, c_spec_DrawCopyCode, c_impl_CopyCode, c_spec_CopyCode, c_laws_sameIns, c_impl_CodeOk, c_impl_StateNew, c_spec_DrawMemory2, c_impl_InOrder, c_impl_Filter] (100 + FU) [] pf_laws_FnCopied [tL false (.int .u8) code] fun r o => r = tB true ∧ o = [] := by
  conv => whnf
  refine sel_i (fun h => ?_) (fun h => ?_) <;> conv => whnf
  · exact ⟨rfl, rfl⟩
  have hc : code.length ≤ 1048576 := by simp at h; omega
  clear h
  refine chk_i hc ?_
  conv => whnf
  intro x y n hd0
  conv => whnf
  repeat' (first | (refine sel_i (fun h => ?_) (fun h => ?_) <;> conv => whnf) | (refine chk_c ?_ ?_ <;> conv => whnf) | (refine And.intro ?_ rfl) | (refine And.intro ?_ ?_ <;> conv => whnf) | (intro x y z d hd; (try have g1 := And.left hd); (try have g2 := And.right hd); (try have g3 := And.left (And.right hd)); (try have g4 := And.right (And.right hd)); conv => whnf) | (intro x y d hd; (try have g1 := And.left hd); (try have g2 := And.right hd); (try have g3 := And.left (And.right hd)); (try have g4 := And.right (And.right hd)); conv => whnf) | (intro x d hd; (try have g1 := And.left hd); (try have g2 := And.right hd); (try have g3 := And.left (And.right hd)); (try have g4 := And.right (And.right hd)); conv => whnf) | (intro d hd; (try have g1 := And.left hd); (try have g2 := And.right hd); (try have g3 := And.left (And.right hd)); (try have g4 := And.right (And.right hd)); conv => whnf))
  all_goals (try simp only [etaKey, etaWord, etaMemory, etaState] at *)
  all_goals first
    | rfl
    | trivial
    | (exact ⟨rfl, rfl⟩)
    | (refine ⟨?_⟩; assumption)
    | (refine ⟨?_⟩; exact ⟨Nat.le_trans (copyAll_le _ _ _) (by decide), Nat.le_trans (copyAll_le _ _ _) (by decide)⟩)
    | (exfalso; simp at h; done)
    | (refine ⟨?_⟩; exact Nat.le_trans (copyAll_le _ _ _) (by decide))
    | (refine ⟨?_⟩; exact ⟨Nat.le_trans (copyAll_le _ _ _) (by decide), (stateOk_len (runFrom_ok hd)).l⟩)
    | (have hr0 : (!(room x n && room y n)) = true := (by assumption)
       have hr : (room x n && room y n) = false := by rw [Bool.not_eq_true'] at hr0; exact hr0
       rw [room_no hr, hr, codeOk_nil]; try rfl)
    | (have hr0 : (!(room x n && room y n)) = false := (by assumption)
       have hr : (room x n && room y n) = true := by rw [Bool.not_eq_false'] at hr0; exact hr0
       have hr1 := hr; rw [Bool.and_eq_true] at hr1
       obtain ⟨A, N, rfl, rfl, hN1, hN2, hA⟩ := room_nat hr1.1
       obtain ⟨B, M, rfl, hM, hN3, hN4, hB⟩ := room_nat hr1.2
       have hM : N = M := by omega
       subst hM
       rw [hr, copyAll_ok ⟨hN1, hN2⟩ hA hB]; try rfl)
    | skip
  all_goals (
    have hr : (room x n && room y n) = true := by simpa using (by assumption : (!(room x n && room y n)) = false)
    have q4 : decide (x < IntKind.i64.wrap (y + n)) = false ∨ decide (y < IntKind.i64.wrap (x + n)) = false := by
      first | exact .inl (by assumption) | exact .inr (by assumption)
    have hr1 := hr
    rw [Bool.and_eq_true] at hr1
    obtain ⟨A, N, rfl, rfl, hN1, hN2, hA⟩ := room_nat hr1.1
    obtain ⟨B, M, rfl, hM, hN3, hN4, hB⟩ := room_nat hr1.2
    have hM : N = M := by omega
    subst hM
    have w1 : IntKind.i64.wrap ((A : Int) + (N : Int)) = (A : Int) + N := wrap_id (by omega) (by omega)
    have w2 : IntKind.i64.wrap ((B : Int) + (N : Int)) = (B : Int) + N := wrap_id (by omega) (by omega)
    have hap : A + N ≤ B ∨ B + N ≤ A := by
      simp only [w1, w2, decide_eq_false_iff_not] at q4; omega
    obtain ⟨ht, hw⟩ := copy_end ⟨hN1, hN2⟩ hA hB hap hd
    have hco := copyAll_ok ⟨hN1, hN2⟩ hA hB
    have hok := inOrder_ok (l := copyAll (A : Int) (B : Int) (N : Int)) (n := 100) (runFrom_ok hd)
    obtain ⟨S, hS⟩ : ∃ S, S = (inOrder (copyAll (A : Int) (B : Int) (N : Int)) (runFrom d) 100).1 := ⟨_, rfl⟩
    rw [← hS] at ht hw hok
    rw [show (inOrder (copyAll (A : Int) (B : Int) (N : Int)) ⟨stateNew.regs, stateNew.pc, d, stateNew.trap⟩ 100).1 = S from hS.symm]
    have hle := copyAll_le (A : Int) (B : Int) (N : Int)
    generalize copyAll (A : Int) (B : Int) (N : Int) = L at *
    obtain ⟨k1, k2, k3⟩ := stateOk_len hok
    obtain ⟨m1, m2, m3⟩ := memoryOk_iff.1 hd
    clear h q4 hr hr1 hd0 hS
    refine loop (α := Nat) (fun i => ⟨[(3, .v (.c (.int .i64 (A : Int)))), (4, .v (.c (.int .i64 (B : Int)))), (5, .v (.c (.int .i64 (N : Int)))), (6, .v (.c (.sl false .inst 0))), (10, .v (.c (.ptr 1 0))), (11, .v (.c (.ptr 5 0))), (13, .v (.c (.int .i64 (i : Int))))],
        [(8, some (.flat true .bool none S.mem.gone)), (7, some (.flat true .word none S.mem.words)), (6, some (.flat true .word none S.regs)), (5, some (.box true (stC S 6 7 8 []))),
          (4, some (.flat true .bool none d.gone)), (3, some (.flat true .word none d.words)), (2, some (.flat true .word none stateNew.regs)), (1, some (.box true (stC (runFrom d) 2 3 4 []))), (0, some (.flat true .inst none L))], nums.tail.tail.tail.tail.tail.tail.tail.tail.tail, [], false, []⟩)
      (fun i => i ≤ 24) (fun i => 24 - i) (fun i R hI hR => ?_) 0 _ (Nat.zero_le _) (by show 24 - 0 < 100 + FU; omega)
    conv => whnf
    repeat' (first | (refine sel_i (fun h => ?_) (fun h => ?_) <;> conv => whnf) | (refine chk_c ?_ ?_ <;> conv => whnf) | (refine And.intro ?_ rfl) | (refine And.intro ?_ ?_ <;> conv => whnf))
    all_goals (try simp only [eqWd, etaKey, etaWord, etaMemory, etaState, Int.toNat_natCast, w1, w2, Bool.not_eq_true', Bool.not_eq_false', decide_eq_true_eq, decide_eq_false_iff_not, ge_iff_le] at *)
    all_goals first
      | rfl
      | trivial
      | (refine ⟨?_⟩; omega)
      | (refine ⟨?_⟩; exact lMem_big ⟨by omega, by omega⟩)
      | (have e1 : IntKind.i64.wrap (IntKind.i64.wrap ((i : Int) - (B : Int)) + (A : Int)) = ((i - B + A : Nat) : Int) := by
           rw [wrap_id (n := (i : Int) - (B : Int)) (by omega) (by omega), wrap_id (by omega) (by omega)]; omega
         rw [e1]
         refine ⟨?_⟩
         omega)
      | (rw [wrap_id (n := (i : Int) + 1) (by omega) (by omega)]; exact hR (i + 1) (by omega) (by omega))
      | (exfalso
         have e1 : IntKind.i64.wrap (IntKind.i64.wrap ((i : Int) - (B : Int)) + (A : Int)) = ((i - B + A : Nat) : Int) := by
           rw [wrap_id (n := (i : Int) - (B : Int)) (by omega) (by omega), wrap_id (by omega) (by omega)]; omega
         rw [e1, Int.toNat_natCast] at h
         have := hw i (by omega)
         rw [if_pos (by omega)] at this
         exact h this)
      | (exfalso; have := hw i (by omega); rw [if_neg (by omega)] at this; exact h this)
      | (refine ⟨?_⟩; exact Nat.le_trans hle (by decide))
      | (rw [hco]; done)
      | (exfalso; have h5 : (S.trap == 5) = false := (by assumption); rw [ht] at h5; cases h5; done)
      | trace_state)
theorem ok_laws_FnCopied : FunOk Try.prog c_laws_FnCopied := funOk (E := [c_laws_big, c_spec_DrawCopyCode, c_impl_CopyCode, c_spec_CopyCode, c_laws_sameIns, c_impl_CodeOk, c_impl_StateNew, c_spec_DrawMemory2, c_impl_InOrder, c_impl_Filter]) (envOk_cons ok_laws_big (envOk_cons ok_spec_DrawCopyCode (envOk_cons ok_impl_CopyCode (envOk_cons ok_spec_CopyCode (envOk_cons ok_laws_sameIns (envOk_cons ok_impl_CodeOk (envOk_cons ok_impl_StateNew (envOk_cons ok_spec_DrawMemory2 (envOk_cons ok_impl_InOrder (envOk_cons ok_impl_Filter (envOk_nil))))))))))) mixd Try.func5 (pf := pf_laws_FnCopied) (by kernel_rfl) fun ts K h => by
  obtain ⟨t0, e0, h⟩ := as1_out h
  subst e0
  obtain ⟨code, e1, hq⟩ := arC_out (rd_l (.int .u8)) h
  clear h
  subst e1
  have h := hq
  clear hq
  obtain ⟨hpre, h⟩ := chk_o h
  exact ⟨_, _, h, Nat.le_of_ble_eq_true (show Nat.ble 1 Try.f5.ntmps = true by kernel_rfl), _, run_laws_FnCopied 0 code hpre⟩

end Go.Pi
namespace Go.Proofs.Ythpjpaginggjaaa
open Go.Pi
theorem fnCopied_lifted (os : Os) (started : os.Started) (H : Type) (enc : TypeId × Value → H) :
    ReturnsInHanded {} Try.checked os 5 .any (Rows.fnCopiedSpec.pre6 enc Try.prog Try.f5 Rows.fnCopiedRow.domain false) (Rows.fnCopiedSpec.post enc Try.prog Try.f5 false true false false) :=
  lifted (C := Try.checked) (E := [c_laws_big, c_spec_DrawCopyCode, c_impl_CopyCode, c_spec_CopyCode, c_laws_sameIns, c_impl_CodeOk, c_impl_StateNew, c_spec_DrawMemory2, c_impl_InOrder, c_impl_Filter]) (fuel := _) (pf := pf_laws_FnCopied) (shs := [(false, [.sl (.int .u8)])]) (tb := 4) (by kernel_rfl) started (by kernel_rfl) Try.func5
    (ChangeSpec.witness6 (enc := enc) (C := Try.checked) false ⟨#[], #[.slice none 0 0], []⟩ 12 (by kernel_rfl) (by kernel_rfl) (by kernel_rfl) (by kernel_rfl))
    mixd (envOk_cons ok_laws_big (envOk_cons ok_spec_DrawCopyCode (envOk_cons ok_impl_CopyCode (envOk_cons ok_spec_CopyCode (envOk_cons ok_laws_sameIns (envOk_cons ok_impl_CodeOk (envOk_cons ok_impl_StateNew (envOk_cons ok_spec_DrawMemory2 (envOk_cons ok_impl_InOrder (envOk_cons ok_impl_Filter (envOk_nil))))))))))) (by kernel_rfl) (by kernel_rfl) (by kernel_rfl) rfl (by kernel_rfl) rfl
    (fun ds h => by
      obtain _ | ⟨d0, ds⟩ := ds
      · simp at h
      obtain _ | ⟨x, ds⟩ := ds
      · rfl
      · simp at h)
    (fun ain h0 => by
      obtain ⟨T0, ain0, e, k0, h1⟩ := areCons h0
      subst e
      have e := areNil h1
      subst e
      obtain ⟨code, e, w0⟩ := isL k0
      subst e
      exact run_laws_FnCopied 0 code (w0.2))
theorem fnCopied_over : Rows.fnCopiedRow.holds Try.pinned (OpenSpec.ofChange Rows.fnCopiedSpec) :=
  OpenClaim.holds_of_wide 5 Try.f5 rfl rfl rfl rfl rfl rfl rfl ⟨rfl, rfl, rfl, rfl, rfl⟩ rfl rfl rfl rfl rfl (by kernel_rfl) Try.func5 (by kernel_rfl)
    (of_decide_eq_true (by kernel_rfl)) (by unfold Func.isWrapper; first | (rw [if_pos (by decide +kernel)]; kernel_rfl) | (rw [if_neg (by decide +kernel)]; exact ⟨rfl, rfl⟩))
    (fun os started H enc _ => fnCopied_lifted os started H enc)
theorem fnCopied_holds : Rows.FnCopiedSaid := fnCopied_over
#print axioms fnCopied_holds
end Go.Proofs.Ythpjpaginggjaaa
