/- FnWiped: the given statement holds, out of the law's run by PI. No conditions. -/
import Derived.Test.YthpjpaginggjaaaC4
namespace Go.Pi
open Go.Proofs
set_option linter.unusedVariables false
set_option linter.unusedSimpArgs false
set_option maxRecDepth 100000
attribute [local irreducible] iterN
def lb_laws_FnWiped_0 : PC := .seq (.seq (.reg [.s (.mv 90 (.t 18)), .s (.bin 91 .lss (.t 90) (.k (.v (.c (.int .i64 24)))))]) (.cond (.t 91) (.skip) (.exit 0))) (.seq (.blk 1 (.seq (.reg [.s (.fa 94 (.t 15) 7), .s (.fa 95 (.t 94) 0), .s (.load 96 false 1 (.t 95)), .s (.mv 97 (.t 18)), .s (.ia 98 .word (.t 96) (.t 97)), .s (.load 99 true 6 (.t 98)), .s (.alloc 19 [.int .i64 0, .ff, .int .i64 0, .int .i64 0, .int .i64 0, .int .i64 0]), .s (.store 6 (.t 19) (.t 99))]) (.seq (.seq (.reg [.s (.mv 100 (.t 18)), .s (.mv 101 (.t 3)), .s (.bin 102 .geq (.t 100) (.t 101)), .s (.mv 103 (.t 102)), .g 103 true (some 104) (.mv 104 (.t 18)), .g 103 true (some 105) (.mv 105 (.t 3)), .g 103 true (some 106) (.mv 106 (.t 4)), .g 103 true (some 107) (.bin 107 .add (.t 105) (.t 106)), .g 103 true (some 108) (.bin 108 .lss (.t 104) (.t 107)), .s (.pick 109 (.t 103) (.t 108) (.k (.v (.c .ff))))]) (.cond (.t 109) (.reg [.s (.call (some 110) 60 [(.k (.v (.c (.int .i64 0))))]), .s (.store 6 (.t 19) (.t 110))]) (.skip))) (.seq (.rgd [] [.s (.fa 111 (.t 16) 7), .s (.fa 112 (.t 111) 0), .s (.load 113 false 1 (.t 112)), .s (.mv 114 (.t 18)), .s (.ia 115 .word (.t 113) (.t 114)), .s (.load 116 true 6 (.t 115)), .s (.load 117 true 6 (.t 19)), .s (.eqs 118 true [.i, .b, .i, .i, .i, .i] true (.t 116) (.t 117))] (.tk 0 (.tk 1 (.tk 2 (.tk 3 (.tk 4 (.tk 5 (.tk 6 (.tk 7 (.done none)))))))))) (.cond (.t 118) (.seq (.reg [.s (.mv 2 (.k (.v (.c .ff))))]) (.ret)) (.skip)))))) (.reg [.s (.mv 92 (.t 18)), .s (.bin 93 .add (.t 92) (.k (.v (.c (.int .i64 1))))), .s (.mv 18 (.t 93))]))
def pf_laws_FnWiped : PF := ⟨[.t 2], .seq (.reg [.s (.mv 2 (.k (.v (.c .ff))))]) (.seq (.seq (.reg [.s (.mv 23 (.t 0)), .s (.call (some 24) 12 [(.t 23)])]) (.cond (.t 24) (.seq (.reg [.s (.mv 2 (.k (.v (.c .tt))))]) (.ret)) (.skip))) (.seq (.reg [.s (.mv 26 (.t 0)), .s (.call (some 27) 54 [(.t 26)]), .s (.mv 25 (.t 27)), .s (.ext 28 (.t 25) 0), .s (.ext 29 (.t 25) 1), .s (.mv 3 (.t 28)), .s (.mv 4 (.t 29))]) (.seq (.reg [.s (.mv 31 (.t 3)), .s (.mv 32 (.t 4)), .s (.call (some 33) 55 [(.t 31), (.t 32)]), .s (.mv 30 (.t 33)), .s (.ext 34 (.t 30) 0), .s (.ext 35 (.t 30) 1), .s (.mv 5 (.t 34)), .s (.mv 6 (.t 35))]) (.seq (.reg [.s (.mv 37 (.t 3)), .s (.mv 38 (.t 4)), .s (.call (some 39) 56 [(.t 37), (.t 38)]), .s (.mv 36 (.t 39)), .s (.ext 40 (.t 36) 0), .s (.ext 41 (.t 36) 1), .s (.mv 7 (.t 40)), .s (.mv 8 (.t 41))]) (.seq (.reg [.s (.mv 43 (.t 0)), .s (.call (some 44) 57 [(.t 43)]), .s (.mv 42 (.t 44)), .s (.ext 45 (.t 42) 0), .s (.ext 46 (.t 42) 1), .s (.mv 9 (.t 45)), .s (.mv 10 (.t 46))]) (.seq (.reg [.s (.mv 48 (.t 9)), .s (.mv 49 (.t 10)), .s (.call (some 50) 58 [(.t 48), (.t 49)]), .s (.mv 47 (.t 50)), .s (.ext 51 (.t 47) 0), .s (.ext 52 (.t 47) 1), .s (.mv 11 (.t 51)), .s (.mv 12 (.t 52))]) (.seq (.reg [.s (.mv 54 (.t 9)), .s (.mv 55 (.t 10)), .s (.call (some 56) 59 [(.t 54), (.t 55)]), .s (.mv 53 (.t 56)), .s (.ext 57 (.t 53) 0), .s (.ext 58 (.t 53) 1), .s (.mv 13 (.t 57)), .s (.mv 14 (.t 58))]) (.seq (.seq (.reg [.s (.mv 59 (.t 6)), .s (.mv 60 (.t 8)), .s (.eqs 61 false [.b] true (.t 59) (.t 60)), .s (.mv 62 (.t 61)), .g 62 false (some 63) (.mv 63 (.t 5)), .g 62 false (some 64) (.mv 64 (.t 7)), .g 62 false (some 65) (.call (some 65) 48 [(.t 63), (.t 64)]), .g 62 false (some 66) (.bnot 66 (.t 65)), .s (.pick 67 (.t 62) (.k (.v (.c .tt))) (.t 66)), .s (.mv 68 (.t 67)), .g 68 false (some 69) (.mv 69 (.t 12)), .g 68 false (some 70) (.mv 70 (.t 14)), .g 68 false (some 71) (.eqs 71 false [.b] true (.t 69) (.t 70)), .s (.pick 72 (.t 68) (.k (.v (.c .tt))) (.t 71)), .s (.mv 73 (.t 72)), .g 73 false (some 74) (.mv 74 (.t 11)), .g 73 false (some 75) (.mv 75 (.t 13)), .g 73 false (some 76) (.call (some 76) 48 [(.t 74), (.t 75)]), .g 73 false (some 77) (.bnot 77 (.t 76)), .s (.pick 78 (.t 73) (.k (.v (.c .tt))) (.t 77))]) (.cond (.t 78) (.seq (.reg [.s (.mv 2 (.k (.v (.c .ff))))]) (.ret)) (.skip))) (.seq (.reg [.s (.call (some 79) 50 []), .s (.alloc 15 [.nils .word, .int .i64 0, .ff, .int .i64 0, .int .i64 0, .int .i64 0, .int .i64 0, .nils .word, .nils .bool, .int .i64 0]), .s (.store 10 (.t 15) (.t 79))]) (.seq (.reg [.s (.mv 80 (.t 0)), .s (.call (some 81) 51 [(.t 80)]), .s (.fa 82 (.t 15) 7), .s (.store 2 (.t 82) (.t 81))]) (.seq (.seq (.reg [.s (.mv 83 (.t 6))]) (.cond (.t 83) (.seq (.reg [.s (.mv 85 (.t 5)), .s (.load 86 true 10 (.t 15)), .s (.call (some 87) 52 [(.t 85), (.t 86), (.k (.v (.c (.int .i64 100))))]), .s (.mv 84 (.t 87)), .s (.ext 88 (.t 84) 0), .s (.ext 89 (.t 84) 1), .s (.alloc 16 [.nils .word, .int .i64 0, .ff, .int .i64 0, .int .i64 0, .int .i64 0, .int .i64 0, .nils .word, .nils .bool, .int .i64 0]), .s (.store 10 (.t 16) (.t 88)), .s (.mv 17 (.t 89))]) (.seq (.reg [.s (.mv 18 (.k (.v (.c (.int .i64 0)))))]) (.blk 0 (.loop [3, 4, 9, 10, 11, 12, 15, 16, 18] lb_laws_FnWiped_0)))) (.skip))) (.seq (.seq (.reg [.s (.mv 119 (.t 12))]) (.cond (.t 119) (.seq (.reg [.s (.mv 121 (.t 11)), .s (.load 122 true 10 (.t 15)), .s (.call (some 123) 52 [(.t 121), (.t 122), (.k (.v (.c (.int .i64 100))))]), .s (.mv 120 (.t 123)), .s (.ext 124 (.t 120) 0), .s (.ext 125 (.t 120) 1), .s (.alloc 20 [.nils .word, .int .i64 0, .ff, .int .i64 0, .int .i64 0, .int .i64 0, .int .i64 0, .nils .word, .nils .bool, .int .i64 0]), .s (.store 10 (.t 20) (.t 124)), .s (.mv 21 (.t 125))]) (.seq (.reg [.s (.fa 126 (.t 20) 7), .s (.fa 127 (.t 126) 0), .s (.load 128 false 1 (.t 127)), .s (.mv 129 (.t 9)), .s (.ia 130 .word (.t 128) (.t 129)), .s (.load 131 true 6 (.t 130)), .s (.alloc 22 [.int .i64 0, .ff, .int .i64 0, .int .i64 0, .int .i64 0, .int .i64 0]), .s (.store 6 (.t 22) (.t 131))]) (.seq (.reg [.s (.fa 132 (.t 22) 1), .s (.load 133 false 1 (.t 132)), .s (.bnot 134 (.t 133)), .s (.mv 135 (.t 134)), .g 135 false (some 136) (.fa 136 (.t 22) 2), .g 135 false (some 137) (.fa 137 (.t 136) 0), .g 135 false (some 138) (.load 138 false 1 (.t 137)), .g 135 false (some 139) (.mv 139 (.t 9)), .g 135 false (some 140) (.bin 140 .neq (.t 138) (.t 139)), .s (.pick 141 (.t 135) (.k (.v (.c .tt))) (.t 140)), .s (.mv 142 (.t 141)), .g 142 false (some 143) (.fa 143 (.t 22) 2), .g 142 false (some 144) (.fa 144 (.t 143) 1), .g 142 false (some 145) (.load 145 false 1 (.t 144)), .g 142 false (some 146) (.mv 146 (.t 9)), .g 142 false (some 147) (.mv 147 (.t 10)), .g 142 false (some 148) (.bin 148 .add (.t 146) (.t 147)), .g 142 false (some 149) (.bin 149 .neq (.t 145) (.t 148)), .s (.pick 150 (.t 142) (.k (.v (.c .tt))) (.t 149)), .s (.mv 151 (.t 150)), .g 151 false (some 152) (.fa 152 (.t 20) 9), .g 151 false (some 153) (.load 153 false 1 (.t 152)), .g 151 false (some 154) (.bin 154 .neq (.t 153) (.k (.v (.c (.int .i64 5))))), .s (.pick 155 (.t 151) (.k (.v (.c .tt))) (.t 154))]) (.cond (.t 155) (.seq (.reg [.s (.mv 2 (.k (.v (.c .ff))))]) (.ret)) (.skip))))) (.skip))) (.seq (.reg [.s (.mv 2 (.k (.v (.c .tt))))]) (.ret))))))))))))))⟩
def c_laws_FnWiped : Fun := ⟨6, [], fun ts K => as1 ts fun t0 => arC (pL (.int .u8)) t0 fun code => chk (code.length ≤ 9223372036854775807) (K (tB true) [])⟩
set_option maxHeartbeats 1000000 in
theorem run_laws_FnWiped (FU : Nat) (code : List (FT.Ty (.int .u8))) (hpre : code.length ≤ 9223372036854775807) : runK [c_laws_big, c_laws_sameIns, c_impl_StateNew, c_spec_DrawMemory2, c_impl_InOrder, c_spec_DrawWipeCode, c_impl_WipeCode, c_spec_WipeCode, c_spec_DrawMarkCode, c_impl_MarkCode, c_spec_MarkCode, c_impl_Plain] (100 + FU) [] pf_laws_FnWiped [tL false (.int .u8) code] fun r o => r = tB true ∧ o = [] := by
  conv => whnf
  refine sel_i (fun h => ?_) (fun h => ?_) <;> conv => whnf
  · exact ⟨rfl, rfl⟩
  have hc : code.length ≤ 1048576 := by simp at h; omega
  clear h
  refine chk_i hc ?_
  conv => whnf
  intro x n hd0
  conv => whnf
  refine chk_i hc ?_
  conv => whnf
  intro y p hd1
  have hmk := mark_facts (y := y) (p := p)
  conv => whnf
  repeat' (first | (refine sel_i (fun h => ?_) (fun h => ?_) <;> conv => whnf) | (refine chk_c ?_ ?_ <;> conv => whnf) | (refine And.intro ?_ rfl) | (refine And.intro ?_ ?_ <;> conv => whnf) | (intro x y z d hd; (try have g1 := And.left hd); (try have g2 := And.right hd); (try have g3 := And.left (And.right hd)); (try have g4 := And.right (And.right hd)); conv => whnf) | (intro x y d hd; (try have g1 := And.left hd); (try have g2 := And.right hd); (try have g3 := And.left (And.right hd)); (try have g4 := And.right (And.right hd)); conv => whnf) | (intro x d hd; (try have g1 := And.left hd); (try have g2 := And.right hd); (try have g3 := And.left (And.right hd)); (try have g4 := And.right (And.right hd)); conv => whnf) | (intro d hd; (try have g1 := And.left hd); (try have g2 := And.right hd); (try have g3 := And.left (And.right hd)); (try have g4 := And.right (And.right hd)); conv => whnf))
  all_goals (try simp only [etaKey, etaWord, etaMemory, etaState] at *)
  all_goals first
    | rfl
    | trivial
    | (exact ⟨rfl, rfl⟩)
    | (refine ⟨?_⟩; assumption)
    | (refine ⟨?_⟩; exact ⟨Nat.le_trans (wipeAll_le _ _) (by decide), Nat.le_trans (wipeAll_le _ _) (by decide)⟩)
    | (refine ⟨?_⟩; exact ⟨Nat.le_trans (markCode_le _ _) (by decide), Nat.le_trans (markCode_le _ _) (by decide)⟩)
    | (refine ⟨?_⟩; exact Nat.le_trans (wipeAll_le _ _) (by decide))
    | (refine ⟨?_⟩; exact ⟨Nat.le_trans (wipeAll_le _ _) (by decide), (stateOk_len (runFrom_ok hd)).l⟩)
    | (exfalso; simp at h; done)
    | (exfalso; have h7 : (!(room y p == room y p)) = true := (by assumption); simp at h7; done)
    | (refine ⟨?_⟩; exact ⟨Nat.le_trans (markCode_le _ _) (by decide), (stateOk_len (runFrom_ok hd)).l⟩)
    | (obtain ⟨q1, q2, q3, q4, q5⟩ := hmk (by assumption) d hd; refine ⟨?_⟩; omega)
    | (exfalso; obtain ⟨q1, q2, q3, q4, q5⟩ := hmk (by assumption) d hd; rw [q2] at h; cases h; done)
    | (exfalso; obtain ⟨q1, q2, q3, q4, q5⟩ := hmk (by assumption) d hd; clear hmk; simp only [q1, q2, bne_self_eq_false, Bool.not_true, Bool.false_eq_true] at *; done)
    | skip
  have hr : room x n = true := (by assumption)
  obtain ⟨A, N, rfl, rfl, hN1, hN2, hA⟩ := room_nat hr
  have w1 : IntKind.i64.wrap ((A : Int) + (N : Int)) = (A : Int) + N := wrap_id (by omega) (by omega)
  have hw := wipe_end ⟨hN1, hN2⟩ hA hd
  have hok := inOrder_ok (l := wipeAll (A : Int) (N : Int)) (n := 100) (runFrom_ok hd)
  obtain ⟨S, hS⟩ : ∃ S, S = (inOrder (wipeAll (A : Int) (N : Int)) (runFrom d) 100).1 := ⟨_, rfl⟩
  rw [← hS] at hw hok
  rw [show (inOrder (wipeAll (A : Int) (N : Int)) ⟨stateNew.regs, stateNew.pc, d, stateNew.trap⟩ 100).1 = S from hS.symm]
  obtain ⟨k1, k2, k3⟩ := stateOk_len hok
  obtain ⟨m1, m2, m3⟩ := memoryOk_iff.1 hd
  clear h hd0 hS hr
  refine loop (α := Nat) (fun i => ⟨[(3, .v (.c (.int .i64 (A : Int)))), (4, .v (.c (.int .i64 (N : Int)))), (9, .v (.c (.int .i64 y))), (10, .v (.c (.int .i64 p))), (11, .v (.c (.sl false .inst 0))), (12, .v (.c (.bool (room y p)))), (15, .v (.c (.ptr 1 0))), (16, .v (.c (.ptr 5 0))), (18, .v (.c (.int .i64 (i : Int))))],
      [(8, some (.flat true .bool none S.mem.gone)), (7, some (.flat true .word none S.mem.words)), (6, some (.flat true .word none S.regs)), (5, some (.box true (stC S 6 7 8 []))),
        (4, some (.flat true .bool none d.gone)), (3, some (.flat true .word none d.words)), (2, some (.flat true .word none stateNew.regs)), (1, some (.box true (stC ⟨stateNew.regs, stateNew.pc, d, stateNew.trap⟩ 2 3 4 []))), (0, some (.flat true .inst none (markCode y p)))], nums.tail.tail.tail.tail.tail.tail.tail.tail.tail, [], false, []⟩)
    (fun i => i ≤ 24) (fun i => 24 - i) (fun i R hI hR => ?_) 0 _ (Nat.zero_le _) (by show 24 - 0 < 100 + FU; omega)
  conv => whnf
  repeat' (first | (refine sel_i (fun h => ?_) (fun h => ?_) <;> conv => whnf) | (refine chk_c ?_ ?_ <;> conv => whnf) | (refine And.intro ?_ rfl) | (refine And.intro ?_ ?_ <;> conv => whnf))
  all_goals (try simp only [eqWd, etaKey, etaWord, etaMemory, etaState, Int.toNat_natCast, w1, Bool.not_eq_true', Bool.not_eq_false', decide_eq_true_eq, decide_eq_false_iff_not, ge_iff_le] at *)
  all_goals first
    | rfl
    | trivial
    | (exact ⟨rfl, rfl⟩)
    | (refine ⟨?_⟩; omega)
    | (refine ⟨?_⟩; exact lMem_big ⟨by omega, by omega⟩)
    | (rw [wrap_id (n := (i : Int) + 1) (by omega) (by omega)]; exact hR (i + 1) (by omega) (by omega))
    | (exfalso; have := hw i (by omega); rw [if_pos (by omega)] at this; exact h this)
    | (exfalso; have := hw i (by omega); rw [if_neg (by omega)] at this; exact h this)
    | (refine ⟨?_⟩; exact ⟨Nat.le_trans (markCode_le _ _) (by decide), (stateOk_len (runFrom_ok hd)).l⟩)
    | (obtain ⟨q1, q2, q3, q4, q5⟩ := hmk (by assumption) d hd; refine ⟨?_⟩; omega)
    | (exfalso; obtain ⟨q1, q2, q3, q4, q5⟩ := hmk (by assumption) d hd; rw [q2] at h; cases h; done)
    | (exfalso; obtain ⟨q1, q2, q3, q4, q5⟩ := hmk (by assumption) d hd; clear hmk; simp only [q1, q2, bne_self_eq_false, Bool.not_true, Bool.false_eq_true] at *; done)
    | trace_state
theorem ok_laws_FnWiped : FunOk Try.prog c_laws_FnWiped := funOk (E := [c_laws_big, c_laws_sameIns, c_impl_StateNew, c_spec_DrawMemory2, c_impl_InOrder, c_spec_DrawWipeCode, c_impl_WipeCode, c_spec_WipeCode, c_spec_DrawMarkCode, c_impl_MarkCode, c_spec_MarkCode, c_impl_Plain]) (envOk_cons ok_laws_big (envOk_cons ok_laws_sameIns (envOk_cons ok_impl_StateNew (envOk_cons ok_spec_DrawMemory2 (envOk_cons ok_impl_InOrder (envOk_cons ok_spec_DrawWipeCode (envOk_cons ok_impl_WipeCode (envOk_cons ok_spec_WipeCode (envOk_cons ok_spec_DrawMarkCode (envOk_cons ok_impl_MarkCode (envOk_cons ok_spec_MarkCode (envOk_cons ok_impl_Plain (envOk_nil))))))))))))) mixd Try.func6 (pf := pf_laws_FnWiped) (by kernel_rfl) fun ts K h => by
  obtain ⟨t0, e0, h⟩ := as1_out h
  subst e0
  obtain ⟨code, e1, hq⟩ := arC_out (rd_l (.int .u8)) h
  clear h
  subst e1
  have h := hq
  clear hq
  obtain ⟨hpre, h⟩ := chk_o h
  exact ⟨_, _, h, Nat.le_of_ble_eq_true (show Nat.ble 1 Try.f6.ntmps = true by kernel_rfl), _, run_laws_FnWiped 0 code hpre⟩

end Go.Pi
namespace Go.Proofs.Ythpjpaginggjaaa
open Go.Pi
theorem fnWiped_lifted (os : Os) (started : os.Started) (H : Type) (enc : TypeId × Value → H) :
    ReturnsInHanded {} Try.checked os 6 .any (Rows.fnWipedSpec.pre6 enc Try.prog Try.f6 Rows.fnWipedRow.domain false) (Rows.fnWipedSpec.post enc Try.prog Try.f6 false true false false) :=
  lifted (C := Try.checked) (E := [c_laws_big, c_laws_sameIns, c_impl_StateNew, c_spec_DrawMemory2, c_impl_InOrder, c_spec_DrawWipeCode, c_impl_WipeCode, c_spec_WipeCode, c_spec_DrawMarkCode, c_impl_MarkCode, c_spec_MarkCode, c_impl_Plain]) (fuel := _) (pf := pf_laws_FnWiped) (shs := [(false, [.sl (.int .u8)])]) (tb := 4) (by kernel_rfl) started (by kernel_rfl) Try.func6
    (ChangeSpec.witness6 (enc := enc) (C := Try.checked) false ⟨#[], #[.slice none 0 0], []⟩ 12 (by kernel_rfl) (by kernel_rfl) (by kernel_rfl) (by kernel_rfl))
    mixd (envOk_cons ok_laws_big (envOk_cons ok_laws_sameIns (envOk_cons ok_impl_StateNew (envOk_cons ok_spec_DrawMemory2 (envOk_cons ok_impl_InOrder (envOk_cons ok_spec_DrawWipeCode (envOk_cons ok_impl_WipeCode (envOk_cons ok_spec_WipeCode (envOk_cons ok_spec_DrawMarkCode (envOk_cons ok_impl_MarkCode (envOk_cons ok_spec_MarkCode (envOk_cons ok_impl_Plain (envOk_nil))))))))))))) (by kernel_rfl) (by kernel_rfl) (by kernel_rfl) rfl (by kernel_rfl) rfl
    (fun ds h => by
      obtain _ | ⟨d0, ds⟩ := ds
      · simp at h
      obtain _ | ⟨x, ds⟩ := ds
      · rfl
      · simp at h)
    (fun ain h0 => by
      obtain ⟨T0, ain0, e, k0, h1⟩ := areCons h0
      subst e
      have e := areNil h1
      subst e
      obtain ⟨code, e, w0⟩ := isL k0
      subst e
      exact run_laws_FnWiped 0 code (w0.2))
theorem fnWiped_over : Rows.fnWipedRow.holds Try.pinned (OpenSpec.ofChange Rows.fnWipedSpec) :=
  OpenClaim.holds_of_wide 6 Try.f6 rfl rfl rfl rfl rfl rfl rfl ⟨rfl, rfl, rfl, rfl, rfl⟩ rfl rfl rfl rfl rfl (by kernel_rfl) Try.func6 (by kernel_rfl)
    (of_decide_eq_true (by kernel_rfl)) (by unfold Func.isWrapper; first | (rw [if_pos (by decide +kernel)]; kernel_rfl) | (rw [if_neg (by decide +kernel)]; exact ⟨rfl, rfl⟩))
    (fun os started H enc _ => fnWiped_lifted os started H enc)
theorem fnWiped_holds : Rows.FnWipedSaid := fnWiped_over
#print axioms fnWiped_holds
end Go.Proofs.Ythpjpaginggjaaa
