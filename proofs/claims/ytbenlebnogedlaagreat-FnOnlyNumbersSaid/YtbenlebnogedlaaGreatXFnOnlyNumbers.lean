/- FnOnlyNumbers: the given statement holds, out of the law's run by PI. No conditions. -/
import Derived.Test.YtbenlebnogedlaaGreatC6
namespace Go.Pi
open Go.Proofs
set_option linter.unusedVariables false
set_option linter.unusedSimpArgs false
set_option maxRecDepth 100000
attribute [local irreducible] iterN
def lb_laws_FnOnlyNumbers_0 : PC := .seq (.seq (.reg [.s (.mv 52 (.t 10)), .s (.fa 53 (.t 8) 0), .s (.load 54 false 1 (.t 53)), .s (.len 55 false (.t 54)), .s (.bin 56 .lss (.t 52) (.t 55))]) (.cond (.t 56) (.skip) (.exit 0))) (.seq (.blk 1 (.seq (.reg [.s (.fa 59 (.t 8) 0), .s (.load 60 false 1 (.t 59)), .s (.mv 61 (.t 10)), .s (.ia 62 .word (.t 60) (.t 61)), .s (.fa 63 (.t 62) 1), .s (.load 64 false 1 (.t 63))]) (.cond (.t 64) (.reg [.s (.mv 65 (.t 9)), .s (.mv 66 (.t 10)), .s (.bs 67 (.int .i64) [(.t 66)]), .s (.app 68 (.int .i64) (.t 65) (.t 67)), .s (.mv 9 (.t 68))]) (.skip)))) (.reg [.s (.mv 57 (.t 10)), .s (.bin 58 .add (.t 57) (.k (.v (.c (.int .i64 1))))), .s (.mv 10 (.t 58))]))
def lb_laws_FnOnlyNumbers_1 : PC := .seq (.seq (.reg [.s (.mv 79 (.t 13)), .s (.bin 80 .lss (.t 79) (.k (.v (.c (.int .i64 24)))))]) (.cond (.t 80) (.skip) (.exit 2))) (.seq (.blk 3 (.seq (.rgd [] [.s (.fa 83 (.t 11) 7), .s (.fa 84 (.t 83) 0), .s (.load 85 false 1 (.t 84)), .s (.mv 86 (.t 13)), .s (.ia 87 .word (.t 85) (.t 86)), .s (.load 88 true 6 (.t 87)), .s (.fa 89 (.t 8) 7), .s (.fa 90 (.t 89) 0), .s (.load 91 false 1 (.t 90)), .s (.mv 92 (.t 13)), .s (.ia 93 .word (.t 91) (.t 92)), .s (.load 94 true 6 (.t 93)), .s (.eqs 95 true [.i, .b, .i, .i, .i, .i] true (.t 88) (.t 94)), .s (.mv 96 (.t 95)), .g 96 true (some 97) (.fa 97 (.t 11) 7), .g 96 true (some 98) (.fa 98 (.t 97) 0), .g 96 true (some 99) (.load 99 false 1 (.t 98)), .g 96 true (some 100) (.mv 100 (.t 13)), .g 96 true (some 101) (.ia 101 .word (.t 99) (.t 100)), .g 96 true (some 102) (.fa 102 (.t 101) 1), .g 96 true (some 103) (.load 103 false 1 (.t 102)), .s (.pick 104 (.t 96) (.t 103) (.k (.v (.c .ff))))] (.tk 0 (.tk 1 (.tk 2 (.tk 3 (.tk 4 (.tk 5 (.tk 6 (.tk 7 (.tk 8 (.tk 9 (.tk 10 (.tk 11 (.tk 12 (.tk 13 (.tk 14 (.tk 15 (.tk 16 (.tk 17 (.tk 18 (.tk 19 (.tk 20 (.tk 21 (.done none)))))))))))))))))))))))) (.cond (.t 104) (.seq (.reg [.s (.mv 2 (.k (.v (.c .ff))))]) (.ret)) (.skip)))) (.reg [.s (.mv 81 (.t 13)), .s (.bin 82 .add (.t 81) (.k (.v (.c (.int .i64 1))))), .s (.mv 13 (.t 82))]))
def pf_laws_FnOnlyNumbers : PF := ⟨[.t 2], .seq (.reg [.s (.mv 2 (.k (.v (.c .ff))))]) (.seq (.seq (.reg [.s (.mv 14 (.t 0)), .s (.call (some 15) 6 [(.t 14)])]) (.cond (.t 15) (.seq (.reg [.s (.mv 2 (.k (.v (.c .tt))))]) (.ret)) (.skip))) (.seq (.reg [.s (.mv 17 (.t 0)), .s (.call (some 18) 24 [(.t 17)]), .s (.mv 16 (.t 18)), .s (.ext 19 (.t 16) 0), .s (.ext 20 (.t 16) 1), .s (.mv 3 (.t 19)), .s (.mv 4 (.t 20))]) (.seq (.reg [.s (.mv 22 (.t 0)), .s (.call (some 23) 25 [(.t 22)]), .s (.mv 21 (.t 23)), .s (.ext 24 (.t 21) 0), .s (.ext 25 (.t 21) 1), .s (.mv 5 (.t 24)), .s (.mv 6 (.t 25))]) (.seq (.seq (.reg [.s (.mv 26 (.t 3)), .s (.mv 27 (.t 4)), .s (.call (some 28) 26 [(.t 26), (.t 27)]), .s (.mv 29 (.t 3)), .s (.mv 30 (.t 4)), .s (.call (some 31) 27 [(.t 29), (.t 30)]), .s (.eqs 32 false [.b] true (.t 28) (.t 31)), .s (.mv 33 (.t 32)), .g 33 false (some 34) (.mv 34 (.t 5)), .g 33 false (some 35) (.mv 35 (.t 6)), .g 33 false (some 36) (.call (some 36) 28 [(.t 34), (.t 35)]), .g 33 false (some 37) (.mv 37 (.t 5)), .g 33 false (some 38) (.mv 38 (.t 6)), .g 33 false (some 39) (.call (some 39) 29 [(.t 37), (.t 38)]), .g 33 false (some 40) (.call (some 40) 19 [(.t 36), (.t 39)]), .g 33 false (some 41) (.bnot 41 (.t 40)), .s (.pick 42 (.t 33) (.k (.v (.c .tt))) (.t 41))]) (.cond (.t 42) (.seq (.reg [.s (.mv 2 (.k (.v (.c .ff))))]) (.ret)) (.skip))) (.seq (.reg [.s (.mv 44 (.t 0)), .s (.call (some 45) 20 [(.t 44)]), .s (.mv 43 (.t 45)), .s (.ext 46 (.t 43) 0), .s (.ext 47 (.t 43) 1), .s (.alloc 8 [.nils .word, .int .i64 0, .ff, .int .i64 0, .int .i64 0, .int .i64 0, .int .i64 0, .nils .word, .nils .bool, .int .i64 0]), .s (.mv 7 (.t 46)), .s (.store 10 (.t 8) (.t 47))]) (.seq (.reg [.s (.call (some 48) 10 []), .s (.fld 49 (.t 48) 1 6 true), .s (.fa 50 (.t 8) 1), .s (.store 6 (.t 50) (.t 49))]) (.seq (.reg [.s (.bs 51 (.int .i64) []), .s (.mv 9 (.t 51))]) (.seq (.seq (.reg [.s (.mv 10 (.k (.v (.c (.int .i64 0)))))]) (.blk 0 (.loop [7, 8, 9, 10] lb_laws_FnOnlyNumbers_0))) (.seq (.seq (.reg [.s (.mv 69 (.t 7)), .s (.mv 70 (.t 9)), .s (.call (some 71) 26 [(.t 69), (.t 70)]), .s (.bnot 72 (.t 71))]) (.cond (.t 72) (.seq (.reg [.s (.mv 2 (.k (.v (.c .tt))))]) (.ret)) (.skip))) (.seq (.reg [.s (.mv 74 (.t 7)), .s (.load 75 true 10 (.t 8)), .s (.call (some 76) 13 [(.t 74), (.t 75), (.k (.v (.c (.int .i64 40))))]), .s (.mv 73 (.t 76)), .s (.ext 77 (.t 73) 0), .s (.ext 78 (.t 73) 1), .s (.alloc 11 [.nils .word, .int .i64 0, .ff, .int .i64 0, .int .i64 0, .int .i64 0, .int .i64 0, .nils .word, .nils .bool, .int .i64 0]), .s (.store 10 (.t 11) (.t 77)), .s (.mv 12 (.t 78))]) (.seq (.seq (.reg [.s (.mv 13 (.k (.v (.c (.int .i64 0)))))]) (.blk 2 (.loop [8, 11, 13] lb_laws_FnOnlyNumbers_1))) (.seq (.reg [.s (.mv 2 (.k (.v (.c .tt))))]) (.ret)))))))))))))⟩
def c_laws_FnOnlyNumbers : Fun := ⟨5, [], fun ts K => as1 ts fun t0 => arC (pL (.int .u8)) t0 fun code => chk (code.length ≤ 9223372036854775807) (K (tB true) [])⟩
attribute [local irreducible] inOrder nextP
theorem run_laws_FnOnlyNumbers (FU : Nat) (code : List (FT.Ty (.int .u8))) (hpre : code.length ≤ 9223372036854775807) : runK [c_laws_big, c_impl_StateNew, c_impl_InOrder, c_laws_sameInts, c_spec_DrawGoing, c_spec_DrawOnlyNumbers, c_spec_DrawNextPlaces, c_impl_OnlyNumbers, c_spec_OnlyNumbers, c_impl_NextPlaces, c_spec_NextPlaces] (100 + FU) [] pf_laws_FnOnlyNumbers [tL false (.int .u8) code] fun r o => r = tB true ∧ o = [] := by
  conv => whnf
  refine sel_i (fun h => ?_) (fun h => ?_) <;> conv => whnf
  · exact ⟨rfl, rfl⟩
  have hc : code.length ≤ 1048576 := by simp at h; omega
  clear h
  conv => whnf
  repeat' (first | (refine sel_i (fun h => ?_) (fun h => ?_) <;> conv => whnf) | (refine chk_c ?_ ?_ <;> conv => whnf) | (refine And.intro ?_ rfl) | (refine And.intro ?_ ?_ <;> conv => whnf) | (intro x y z d hd; (try have g1 := And.left hd); (try have g2 := And.right hd); (try have g3 := And.left (And.right hd)); (try have g4 := And.right (And.right hd)); conv => whnf) | (intro x y d hd; (try have g1 := And.left hd); (try have g2 := And.right hd); (try have g3 := And.left (And.right hd)); (try have g4 := And.right (And.right hd)); conv => whnf) | (intro x d hd; (try have g1 := And.left hd); (try have g2 := And.right hd); (try have g3 := And.left (And.right hd)); (try have g4 := And.right (And.right hd)); conv => whnf) | (intro d hd; (try have g1 := And.left hd); (try have g2 := And.right hd); (try have g3 := And.left (And.right hd)); (try have g4 := And.right (And.right hd)); conv => whnf))
  all_goals (try simp only [etaKey, etaWord, etaMemory, etaState] at *)
  all_goals first
    | (refine ⟨?_⟩; exact hc)
    | (refine ⟨?_⟩; omega)
    | (refine ⟨?_⟩; exact ⟨by omega, by omega⟩)
    | (refine ⟨?_⟩; exact ⟨Nat.le_trans (nextP_len _ _) (by omega), Nat.le_trans (nextP_len _ _) (by omega)⟩)
    | (exfalso; simp at h; done)
    | (exfalso; rename_i d1 hd1 b1 b2; rw [only_unique hd1 hd] at h; simp at h; done)
    | skip
  rename State => S
  obtain ⟨hl, hs⟩ := hd
  obtain ⟨k1, k2, k3⟩ := stateOk_len hs
  clear h g1 g2
  refine loop (α := Nat) (fun i => ⟨[(7, .v (.c (.sl false .inst 0))), (8, .v (.c (.ptr 1 0))), (9, .v (.c (.sl true (.int .i64) 5))), (10, .v (.c (.int .i64 (i : Int))))],
      [(5, some (.flat true (.int .i64) none (holdTo S.regs i))), (4, some (.flat true .bool none S.mem.gone)), (3, some (.flat true .word none S.mem.words)), (2, some (.flat true .word none S.regs)), (1, some (.box true (stC (fromNew S) 2 3 4 []))), (0, some (.flat true .inst none x))], nums.tail.tail.tail.tail.tail.tail, [], false, []⟩)
    (fun i => i ≤ 8) (fun i => 8 - i) (fun i R hI hR => ?_) 0 _ (Nat.zero_le _) (by show 8 - 0 < 100 + FU; omega)
  have w3 : IntKind.i64.wrap ((i : Int) + 1) = ((i + 1 : Nat) : Int) := by rw [wrap_id (by omega) (by omega)]; rfl
  have hhl := holdTo_len S.regs i
  have hy := @holdTo_yes S.regs i
  have hn := @holdTo_no S.regs i
  have hR := hR (i + 1)
  conv => whnf
  repeat' (first | (refine sel_i (fun h => ?_) (fun h => ?_) <;> conv => whnf) | (refine chk_c ?_ ?_ <;> conv => whnf) | (refine And.intro ?_ rfl) | (refine And.intro ?_ ?_ <;> conv => whnf) | (intro x y z d hd; (try have g1 := And.left hd); (try have g2 := And.right hd); (try have g3 := And.left (And.right hd)); (try have g4 := And.right (And.right hd)); conv => whnf) | (intro x y d hd; (try have g1 := And.left hd); (try have g2 := And.right hd); (try have g3 := And.left (And.right hd)); (try have g4 := And.right (And.right hd)); conv => whnf) | (intro x d hd; (try have g1 := And.left hd); (try have g2 := And.right hd); (try have g3 := And.left (And.right hd)); (try have g4 := And.right (And.right hd)); conv => whnf) | (intro d hd; (try have g1 := And.left hd); (try have g2 := And.right hd); (try have g3 := And.left (And.right hd)); (try have g4 := And.right (And.right hd)); conv => whnf))
  all_goals (try simp only [w3, k1, etaKey, etaWord, etaMemory, etaNew, Int.toNat_natCast, decide_eq_true_eq, decide_eq_false_iff_not] at *)
  all_goals first
    | (refine ⟨?_⟩; omega)
    | (refine ⟨?_⟩; exact ⟨by omega, by omega⟩)
    | (refine ⟨?_⟩; simp only [List.length_cons, List.length_nil]; omega)
    | (have hb : (S.regs.getD i (FT.zero .word)).is = true := by assumption
       rw [hy hb] at hR; exact hR (by omega) (by omega))
    | (have hb : (S.regs.getD i (FT.zero .word)).is = false := by assumption
       rw [hn hb] at hR; exact hR (by omega) (by omega))
    | (refine ⟨?_⟩; exact ⟨by omega, (stateOk_len (fromNew_ok hs)).l⟩)
    | skip
  have e8 : i = 8 := by omega
  rw [e8] at hd
  have hall := only_all hs hd (by assumption)
  have hok := inOrder_ok (l := x) (n := 40) (fromNew_ok hs)
  generalize (inOrder x (fromNew S) 40).1 = T at *
  obtain ⟨m1, m2, m3⟩ := stateOk_len hok
  clear hd hR hy hn hhl g1 g2
  refine loop (α := Nat) (fun c => ⟨[(8, .v (.c (.ptr 0 0))), (11, .v (.c (.ptr 4 0))), (13, .v (.c (.int .i64 (c : Int))))],
      [(7, some (.flat true .bool none T.mem.gone)), (6, some (.flat true .word none T.mem.words)), (5, some (.flat true .word none T.regs)), (4, some (.box true (stC T 5 6 7 []))),
        (3, some (.flat true .bool none S.mem.gone)), (2, some (.flat true .word none S.mem.words)), (1, some (.flat true .word none S.regs)), (0, some (.box true (stC (fromNew S) 1 2 3 [])))], nums.tail.tail.tail.tail.tail.tail.tail.tail, [], false, []⟩)
    (fun c => c ≤ 24) (fun c => 24 - c) (fun c R2 hI2 hR2 => ?_) 0 _ (Nat.zero_le _) (by show 24 - 0 < 100 + FU; omega)
  have w4 : IntKind.i64.wrap ((c : Int) + 1) = ((c + 1 : Nat) : Int) := by rw [wrap_id (by omega) (by omega)]; rfl
  have hw := hall c
  have hR2 := hR2 (c + 1)
  clear hall
  conv => whnf
  repeat' (first | (refine sel_i (fun h => ?_) (fun h => ?_) <;> conv => whnf) | (refine chk_c ?_ ?_ <;> conv => whnf) | (refine And.intro ?_ rfl) | (refine And.intro ?_ ?_ <;> conv => whnf))
  all_goals (try simp only [w4, m2, k2, eqWd, etaKey, etaWord, etaMemory, etaState, Int.toNat_natCast, bne_iff_ne, ne_eq, bne_eq_false_iff_eq, Bool.not_eq_true', Bool.not_eq_false', decide_eq_true_eq, decide_eq_false_iff_not] at *)
  all_goals first
    | rfl
    | (exact ⟨rfl, rfl⟩)
    | (refine ⟨?_⟩; omega)
    | (refine ⟨?_⟩; exact ⟨by omega, by omega⟩)
    | (exact hR2 (by omega) (by omega))
    | (exfalso
       rcases hw with q | q
       · exact h q
       · have h3 : (T.mem.words.getD c FT.word.zero).is = true := by assumption
         rw [q] at h3; cases h3)
    | trace_state
theorem ok_laws_FnOnlyNumbers : FunOk Tryz.prog c_laws_FnOnlyNumbers := funOk (E := [c_laws_big, c_impl_StateNew, c_impl_InOrder, c_laws_sameInts, c_spec_DrawGoing, c_spec_DrawOnlyNumbers, c_spec_DrawNextPlaces, c_impl_OnlyNumbers, c_spec_OnlyNumbers, c_impl_NextPlaces, c_spec_NextPlaces]) (envOk_cons ok_laws_big (envOk_cons ok_impl_StateNew (envOk_cons ok_impl_InOrder (envOk_cons ok_laws_sameInts (envOk_cons ok_spec_DrawGoing (envOk_cons ok_spec_DrawOnlyNumbers (envOk_cons ok_spec_DrawNextPlaces (envOk_cons ok_impl_OnlyNumbers (envOk_cons ok_spec_OnlyNumbers (envOk_cons ok_impl_NextPlaces (envOk_cons ok_spec_NextPlaces (envOk_nil)))))))))))) mixd Tryz.func5 (pf := pf_laws_FnOnlyNumbers) (by kernel_rfl) fun ts K h => by
  obtain ⟨t0, e0, h⟩ := as1_out h
  subst e0
  obtain ⟨code, e1, hq⟩ := arC_out (rd_l (.int .u8)) h
  clear h
  subst e1
  have h := hq
  clear hq
  obtain ⟨hpre, h⟩ := chk_o h
  exact ⟨_, _, h, Nat.le_of_ble_eq_true (show Nat.ble 1 Tryz.f5.ntmps = true by kernel_rfl), _, run_laws_FnOnlyNumbers 0 code hpre⟩

end Go.Pi
namespace Go.Proofs.YtbenlebnogedlaaGreat
open Go.Pi
theorem fnOnlyNumbers_lifted (os : Os) (started : os.Started) (H : Type) (enc : TypeId × Value → H) :
    ReturnsInHanded {} Tryz.checked os 5 .any (Rows.fnOnlyNumbersSpec.pre6 enc Tryz.prog Tryz.f5 Rows.fnOnlyNumbersRow.domain false) (Rows.fnOnlyNumbersSpec.post enc Tryz.prog Tryz.f5 false true false false) :=
  lifted (C := Tryz.checked) (E := [c_laws_big, c_impl_StateNew, c_impl_InOrder, c_laws_sameInts, c_spec_DrawGoing, c_spec_DrawOnlyNumbers, c_spec_DrawNextPlaces, c_impl_OnlyNumbers, c_spec_OnlyNumbers, c_impl_NextPlaces, c_spec_NextPlaces]) (fuel := _) (pf := pf_laws_FnOnlyNumbers) (shs := [(false, [.sl (.int .u8)])]) (tb := 4) (by kernel_rfl) started (by kernel_rfl) Tryz.func5
    (ChangeSpec.witness6 (enc := enc) (C := Tryz.checked) false ⟨#[], #[.slice none 0 0], []⟩ 12 (by kernel_rfl) (by kernel_rfl) (by kernel_rfl) (by kernel_rfl))
    mixd (envOk_cons ok_laws_big (envOk_cons ok_impl_StateNew (envOk_cons ok_impl_InOrder (envOk_cons ok_laws_sameInts (envOk_cons ok_spec_DrawGoing (envOk_cons ok_spec_DrawOnlyNumbers (envOk_cons ok_spec_DrawNextPlaces (envOk_cons ok_impl_OnlyNumbers (envOk_cons ok_spec_OnlyNumbers (envOk_cons ok_impl_NextPlaces (envOk_cons ok_spec_NextPlaces (envOk_nil)))))))))))) (by kernel_rfl) (by kernel_rfl) (by kernel_rfl) rfl (by kernel_rfl) rfl (by kernel_rfl)
    (fun ds h => by
      obtain _ | ⟨d0, ds⟩ := ds
      · simp at h
      obtain _ | ⟨x, ds⟩ := ds
      · rfl
      · simp at h)
    (fun ain h0 => by
      obtain ⟨T0, ain0, e, k0, h1⟩ := areCons h0
      subst e
      have e := areNil h1
      subst e
      obtain ⟨code, e, w0⟩ := isL k0
      subst e
      exact run_laws_FnOnlyNumbers 0 code (w0.2))
theorem fnOnlyNumbers_over : Rows.fnOnlyNumbersRow.holds Tryz.pinned (OpenSpec.ofChange Rows.fnOnlyNumbersSpec) :=
  OpenClaim.holds_of_wide 5 Tryz.f5 rfl rfl rfl rfl rfl rfl rfl ⟨rfl, rfl, rfl, rfl, rfl⟩ rfl rfl rfl rfl rfl (by kernel_rfl) Tryz.func5 (by kernel_rfl)
    (of_decide_eq_true (by kernel_rfl)) (by unfold Func.isWrapper; first | (rw [if_pos (by decide +kernel)]; kernel_rfl) | (rw [if_neg (by decide +kernel)]; exact ⟨rfl, rfl⟩))
    (fun os started H enc _ => fnOnlyNumbers_lifted os started H enc)
theorem fnOnlyNumbers_holds : Rows.FnOnlyNumbersSaid := fnOnlyNumbers_over
#print axioms fnOnlyNumbers_holds
end Go.Proofs.YtbenlebnogedlaaGreat
