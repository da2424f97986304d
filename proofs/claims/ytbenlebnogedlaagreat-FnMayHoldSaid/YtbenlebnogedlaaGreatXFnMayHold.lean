/- FnMayHold: the given statement holds, out of the law's run by PI. No conditions. -/
import Derived.Test.YtbenlebnogedlaaGreatC6
namespace Go.Pi
open Go.Proofs
set_option linter.unusedVariables false
set_option linter.unusedSimpArgs false
set_option maxRecDepth 100000
attribute [local irreducible] iterN
def lb_laws_FnMayHold_0 : PC := .seq (.seq (.reg [.s (.mv 34 (.t 7)), .s (.mv 35 (.t 5)), .s (.len 36 false (.t 35)), .s (.bin 37 .lss (.t 34) (.t 36))]) (.cond (.t 37) (.skip) (.exit 0))) (.seq (.blk 1 (.seq (.rgd [] [.s (.mv 40 (.t 5)), .s (.mv 41 (.t 7)), .s (.ia 42 .str (.t 40) (.t 41)), .s (.load 43 false 1 (.t 42)), .s (.mv 44 (.t 6)), .s (.mv 45 (.t 7)), .s (.ia 46 .str (.t 44) (.t 45)), .s (.load 47 false 1 (.t 46)), .s (.call (some 48) 19 [(.t 43), (.t 47)]), .s (.bnot 49 (.t 48))] (.tk 0 (.tk 1 (.tk 2 (.tk 3 (.tk 4 (.tk 5 (.tk 6 (.tk 7 (.one 8 true (.tk 9 (.done none)))))))))))) (.cond (.t 49) (.seq (.reg [.s (.mv 2 (.k (.v (.c .ff))))]) (.ret)) (.skip)))) (.reg [.s (.mv 38 (.t 7)), .s (.bin 39 .add (.t 38) (.k (.v (.c (.int .i64 1))))), .s (.mv 7 (.t 39))]))
def lb_laws_FnMayHold_1 : PC := .seq (.seq (.reg [.s (.mv 59 (.t 11)), .s (.fa 60 (.t 9) 0), .s (.load 61 false 1 (.t 60)), .s (.len 62 false (.t 61)), .s (.bin 63 .lss (.t 59) (.t 62))]) (.cond (.t 63) (.skip) (.exit 2))) (.seq (.blk 3 (.seq (.reg [.s (.fa 66 (.t 9) 0), .s (.load 67 false 1 (.t 66)), .s (.mv 68 (.t 11)), .s (.ia 69 .word (.t 67) (.t 68)), .s (.fa 70 (.t 69) 1), .s (.load 71 false 1 (.t 70))]) (.cond (.t 71) (.reg [.s (.mv 72 (.t 10)), .s (.mv 73 (.t 11)), .s (.bs 74 (.int .i64) [(.t 73)]), .s (.app 75 (.int .i64) (.t 72) (.t 74)), .s (.mv 10 (.t 75))]) (.skip)))) (.reg [.s (.mv 64 (.t 11)), .s (.bin 65 .add (.t 64) (.k (.v (.c (.int .i64 1))))), .s (.mv 11 (.t 65))]))
def lb_laws_FnMayHold_2 : PC := .seq (.seq (.reg [.s (.mv 91 (.t 15)), .s (.fa 92 (.t 9) 0), .s (.load 93 false 1 (.t 92)), .s (.len 94 false (.t 93)), .s (.bin 95 .lss (.t 91) (.t 94)), .s (.mv 96 (.t 95)), .g 96 true (some 97) (.mv 97 (.t 14)), .g 96 true (some 98) (.mv 98 (.t 12)), .g 96 true (some 99) (.len 99 false (.t 98)), .g 96 true (some 100) (.bin 100 .lss (.t 97) (.t 99)), .s (.pick 101 (.t 96) (.t 100) (.k (.v (.c .ff))))]) (.cond (.t 101) (.skip) (.exit 6))) (.seq (.blk 7 (.seq (.reg [.s (.fa 104 (.t 9) 0), .s (.load 105 false 1 (.t 104)), .s (.mv 106 (.t 15)), .s (.ia 107 .word (.t 105) (.t 106)), .s (.fa 108 (.t 107) 1), .s (.load 109 false 1 (.t 108)), .s (.mv 110 (.t 109)), .g 110 true (some 111) (.mv 111 (.t 12)), .g 110 true (some 112) (.mv 112 (.t 14)), .g 110 true (some 113) (.ia 113 .str (.t 111) (.t 112)), .g 110 true (some 114) (.load 114 false 1 (.t 113)), .g 110 true (some 115) (.mv 115 (.t 15)), .g 110 true (some 116) (.call (some 116) 21 [(.t 114), (.t 115)]), .g 110 true (some 117) (.bnot 117 (.t 116)), .s (.pick 118 (.t 110) (.t 117) (.k (.v (.c .ff))))]) (.cond (.t 118) (.seq (.reg [.s (.mv 2 (.k (.v (.c .ff))))]) (.ret)) (.skip)))) (.reg [.s (.mv 102 (.t 15)), .s (.bin 103 .add (.t 102) (.k (.v (.c (.int .i64 1))))), .s (.mv 15 (.t 103))]))
def lb_laws_FnMayHold_3 : PC := .seq (.seq (.reg [.s (.mv 79 (.t 13)), .s (.bin 80 .lss (.t 79) (.k (.v (.c (.int .i64 30))))), .s (.mv 81 (.t 80)), .g 81 true (some 82) (.fa 82 (.t 9) 9), .g 81 true (some 83) (.load 83 false 1 (.t 82)), .g 81 true (some 84) (.bin 84 .eql (.t 83) (.k (.v (.c (.int .i64 0))))), .s (.pick 85 (.t 81) (.t 84) (.k (.v (.c .ff))))]) (.cond (.t 85) (.skip) (.exit 4))) (.seq (.blk 5 (.seq (.reg [.s (.fa 88 (.t 9) 1), .s (.fa 89 (.t 88) 0), .s (.load 90 false 1 (.t 89)), .s (.mv 14 (.t 90))]) (.seq (.seq (.reg [.s (.mv 15 (.k (.v (.c (.int .i64 0)))))]) (.blk 6 (.loop [8, 9, 12, 13, 14, 15] lb_laws_FnMayHold_2))) (.reg [.s (.mv 119 (.t 8)), .s (.load 120 true 10 (.t 9)), .s (.call (some 121) 22 [(.t 119), (.t 120)]), .s (.store 10 (.t 9) (.t 121))])))) (.reg [.s (.mv 86 (.t 13)), .s (.bin 87 .add (.t 86) (.k (.v (.c (.int .i64 1))))), .s (.mv 13 (.t 87))]))
def pf_laws_FnMayHold : PF := ⟨[.t 2], .seq (.reg [.s (.mv 2 (.k (.v (.c .ff))))]) (.seq (.seq (.reg [.s (.mv 16 (.t 0)), .s (.call (some 17) 6 [(.t 16)])]) (.cond (.t 17) (.seq (.reg [.s (.mv 2 (.k (.v (.c .tt))))]) (.ret)) (.skip))) (.seq (.reg [.s (.mv 19 (.t 0)), .s (.call (some 20) 16 [(.t 19)]), .s (.mv 18 (.t 20)), .s (.ext 21 (.t 18) 0), .s (.ext 22 (.t 18) 1), .s (.mv 3 (.t 21)), .s (.mv 4 (.t 22))]) (.seq (.reg [.s (.mv 23 (.t 3)), .s (.mv 24 (.t 4)), .s (.call (some 25) 17 [(.t 23), (.t 24)]), .s (.mv 26 (.t 3)), .s (.mv 27 (.t 4)), .s (.call (some 28) 18 [(.t 26), (.t 27)]), .s (.mv 5 (.t 25)), .s (.mv 6 (.t 28))]) (.seq (.seq (.reg [.s (.mv 29 (.t 5)), .s (.len 30 false (.t 29)), .s (.mv 31 (.t 6)), .s (.len 32 false (.t 31)), .s (.bin 33 .neq (.t 30) (.t 32))]) (.cond (.t 33) (.seq (.reg [.s (.mv 2 (.k (.v (.c .ff))))]) (.ret)) (.skip))) (.seq (.seq (.reg [.s (.mv 7 (.k (.v (.c (.int .i64 0)))))]) (.blk 0 (.loop [0, 5, 6, 7] lb_laws_FnMayHold_0))) (.seq (.reg [.s (.mv 51 (.t 0)), .s (.call (some 52) 20 [(.t 51)]), .s (.mv 50 (.t 52)), .s (.ext 53 (.t 50) 0), .s (.ext 54 (.t 50) 1), .s (.alloc 9 [.nils .word, .int .i64 0, .ff, .int .i64 0, .int .i64 0, .int .i64 0, .int .i64 0, .nils .word, .nils .bool, .int .i64 0]), .s (.mv 8 (.t 53)), .s (.store 10 (.t 9) (.t 54))]) (.seq (.reg [.s (.call (some 55) 10 []), .s (.fld 56 (.t 55) 1 6 true), .s (.fa 57 (.t 9) 1), .s (.store 6 (.t 57) (.t 56))]) (.seq (.reg [.s (.bs 58 (.int .i64) []), .s (.mv 10 (.t 58))]) (.seq (.seq (.reg [.s (.mv 11 (.k (.v (.c (.int .i64 0)))))]) (.blk 2 (.loop [8, 9, 10, 11] lb_laws_FnMayHold_1))) (.seq (.reg [.s (.mv 76 (.t 8)), .s (.mv 77 (.t 10)), .s (.call (some 78) 17 [(.t 76), (.t 77)]), .s (.mv 12 (.t 78))]) (.seq (.seq (.reg [.s (.mv 13 (.k (.v (.c (.int .i64 0)))))]) (.blk 4 (.loop [8, 9, 12, 13] lb_laws_FnMayHold_3))) (.seq (.reg [.s (.mv 122 (.t 12)), .s (.len 123 false (.t 122)), .s (.mv 124 (.t 8)), .s (.len 125 false (.t 124)), .s (.bin 126 .eql (.t 123) (.t 125)), .s (.mv 127 (.t 126)), .g 127 false (some 128) (.mv 128 (.t 8)), .g 127 false (some 129) (.call (some 129) 23 [(.t 128)]), .g 127 false (some 130) (.bnot 130 (.t 129)), .s (.pick 131 (.t 127) (.k (.v (.c .tt))) (.t 130)), .s (.mv 2 (.t 131))]) (.ret)))))))))))))⟩
def c_laws_FnMayHold : Fun := ⟨4, [], fun ts K => as1 ts fun t0 => arC (pL (.int .u8)) t0 fun code => chk (code.length ≤ 9223372036854775807) (K (tB true) [])⟩
theorem run_laws_FnMayHold (FU : Nat) (code : List (FT.Ty (.int .u8))) (hpre : code.length ≤ 9223372036854775807) : runK [c_laws_big, c_impl_StateNew, c_spec_DrawMayHold, c_impl_MayHold, c_spec_MayHold, c_laws_sameInts, c_spec_DrawGoing, c_laws_hasInt, c_impl_Step, c_impl_CodeOk] (200 + FU) [] pf_laws_FnMayHold [tL false (.int .u8) code] fun r o => r = tB true ∧ o = [] := by
  conv => whnf
  refine sel_i (fun h => ?_) (fun h => ?_) <;> conv => whnf
  · exact ⟨rfl, rfl⟩
  have hc : code.length ≤ 1048576 := by simp at h; omega
  clear h
  refine chk_i hc ?_
  conv => whnf
  intro l s hd0
  conv => whnf
  refine chk_i ⟨by omega, by omega⟩ ?_
  conv => whnf
  intro ha hda
  cases ha <;> conv => whnf
  all_goals (
    refine chk_i ⟨by omega, by omega⟩ ?_
    conv => whnf
    intro hb hdb
    conv => whnf)
  case' none =>
    have e := held_none hda hdb
    subst e
    refine sel_i (fun h => ?_) (fun h => ?_) <;> conv => whnf
    · exfalso; simp at h
    refine loop (α := Nat) (fun i => ⟨[(0, .v (.c (.sl false (.int .u8) 0))), (5, .v (.c (.sl false .bool 1))), (6, .v (.c (.sl false .str 2))), (7, .v (.c (.int .i64 (i : Int))))],
        [(2, some (.rows true (.int .i64) [])), (1, some (.flat true .bool none [])), (0, some (.flat false (.int .u8) none code))], nums.tail.tail.tail, [], false, []⟩)
      (fun i => i ≤ 0) (fun i => 0) (fun i R hI hR => ?_) 0 _ (Nat.zero_le _) (by show 0 < 200 + FU; omega)
    clear h
    have hlb : ([] : List (List Int)).length ≤ 48 := Nat.zero_le _
    have hrb := held_row hdb i
  case' some a =>
    have e := held_unique hda hdb
    subst e
    refine sel_i (fun h => ?_) (fun h => ?_) <;> conv => whnf
    · exfalso; simp at h
    have hlb : a.length ≤ 48 := Nat.le_trans (held_len hda) (by omega)
    refine loop (α := Nat) (fun i => ⟨[(0, .v (.c (.sl false (.int .u8) 0))), (5, .v (.c (.sl false .str 1))), (6, .v (.c (.sl false .str 2))), (7, .v (.c (.int .i64 (i : Int))))],
        [(2, some (.rows true (.int .i64) a)), (1, some (.rows true (.int .i64) a)), (0, some (.flat false (.int .u8) none code))], nums.tail.tail.tail, [], false, []⟩)
      (fun i => i ≤ a.length) (fun i => a.length - i) (fun i R hI hR => ?_) 0 _ (Nat.zero_le _) (by show a.length - 0 < 200 + FU; omega)
    clear h
    have hrb := held_row hdb i
  all_goals (
    have w3 : IntKind.i64.wrap ((i : Int) + 1) = ((i + 1 : Nat) : Int) := by rw [wrap_id (by omega) (by omega)]; rfl
    have hR := hR (i + 1)
    conv => whnf
    repeat' (first | (refine sel_i (fun h => ?_) (fun h => ?_) <;> conv => whnf) | (refine chk_c ?_ ?_ <;> conv => whnf) | (refine And.intro ?_ rfl) | (refine And.intro ?_ ?_ <;> conv => whnf) | (intro x y z d hd; (try have g1 := And.left hd); (try have g2 := And.right hd); (try have g3 := And.left (And.right hd)); (try have g4 := And.right (And.right hd)); conv => whnf) | (intro x y d hd; (try have g1 := And.left hd); (try have g2 := And.right hd); (try have g3 := And.left (And.right hd)); (try have g4 := And.right (And.right hd)); conv => whnf) | (intro x d hd; (try have g1 := And.left hd); (try have g2 := And.right hd); (try have g3 := And.left (And.right hd)); (try have g4 := And.right (And.right hd)); conv => whnf) | (intro d hd; (try have g1 := And.left hd); (try have g2 := And.right hd); (try have g3 := And.left (And.right hd)); (try have g4 := And.right (And.right hd)); conv => whnf))
    all_goals (try simp only [w3, etaKey, etaWord, etaMemory, etaState, Int.toNat_natCast, List.length_nil, decide_eq_true_eq, decide_eq_false_iff_not] at *)
    all_goals first
      | (exfalso; omega)
      | (refine ⟨?_⟩; exact hc)
      | (refine ⟨?_⟩; omega)
      | (refine ⟨?_⟩; exact ⟨by omega, by omega⟩)
      | (exfalso; simp at h; done)
      | (exact hR (by omega) (by omega))
      | skip)
  all_goals (
    rename State => S
    obtain ⟨hl, hs⟩ := hd
    obtain ⟨k1, k2, k3⟩ := stateOk_len hs
    clear h g1 g2 hR hrb hlb hI hda hdb hd0
    refine loop (α := Nat) (fun i => ⟨[(8, .v (.c (.sl false .inst 0))), (9, .v (.c (.ptr 1 0))), (10, .v (.c (.sl true (.int .i64) 5))), (11, .v (.c (.int .i64 (i : Int))))],
        [(5, some (.flat true (.int .i64) none (holdTo S.regs i))), (4, some (.flat true .bool none S.mem.gone)), (3, some (.flat true .word none S.mem.words)), (2, some (.flat true .word none S.regs)), (1, some (.box true (stC (fromNew S) 2 3 4 []))), (0, some (.flat true .inst none x))], nums.tail.tail.tail.tail.tail.tail, [], false, []⟩)
      (fun i => i ≤ 8) (fun i => 8 - i) (fun i R hI hR => ?_) 0 _ (Nat.zero_le _) (by show 8 - 0 < 200 + FU; omega)
    have w3 : IntKind.i64.wrap ((i : Int) + 1) = ((i + 1 : Nat) : Int) := by rw [wrap_id (by omega) (by omega)]; rfl
    have hhl := holdTo_len S.regs i
    have hy := @holdTo_yes S.regs i
    have hn := @holdTo_no S.regs i
    have hR := hR (i + 1)
    conv => whnf
    repeat' (first | (refine sel_i (fun h => ?_) (fun h => ?_) <;> conv => whnf) | (refine chk_c ?_ ?_ <;> conv => whnf) | (refine And.intro ?_ rfl) | (refine And.intro ?_ ?_ <;> conv => whnf))
    all_goals (try simp only [w3, k1, etaKey, etaWord, etaMemory, etaNew, Int.toNat_natCast, decide_eq_true_eq, decide_eq_false_iff_not] at *)
    all_goals first
      | (refine ⟨?_⟩; omega)
      | (refine ⟨?_⟩; exact ⟨by omega, by omega⟩)
      | (refine ⟨?_⟩; simp only [List.length_cons, List.length_nil]; omega)
      | (have hb : (S.regs.getD i (FT.zero .word)).is = true := by assumption
         rw [hy hb] at hR; exact hR (by omega) (by omega))
      | (have hb : (S.regs.getD i (FT.zero .word)).is = false := by assumption
         rw [hn hb] at hR; exact hR (by omega) (by omega))
      | skip)
  all_goals (
    have e8 : i = 8 := by omega
    rw [e8]
    intro hm hdm
    have hsn := fromNew_ok hs
    clear hR hy hn hhl h hI
    cases hm <;> conv => whnf
    case none =>
      have hend := held_no hdm
      refine loop (α := Nat × State) (fun q => ⟨[(8, .v (.c (.sl false .inst 0))), (9, .v (.c (.ptr 1 0))), (12, .v (.c (.sl false .bool 5))), (13, .v (.c (.int .i64 (q.1 : Int))))],
          [(5, some (.flat true .bool none [])), (4, some (.flat true .bool none q.2.mem.gone)), (3, some (.flat true .word none q.2.mem.words)), (2, some (.flat true .word none q.2.regs)), (1, some (.box true (stC q.2 2 3 4 []))), (0, some (.flat true .inst none x))], nums.tail.tail.tail.tail.tail.tail, [], false, []⟩)
        (fun q => q.1 ≤ 30 ∧ stateOk q.2 = true) (fun q => 30 - q.1) (fun q R hI hR => ?_) (0, fromNew S) _ ⟨Nat.zero_le _, hsn⟩ (by show 30 - 0 < 200 + FU; omega)
      obtain ⟨i, T⟩ := q
      obtain ⟨hi, hT⟩ := hI
      dsimp only at hi hT hR ⊢
      obtain ⟨t1, t2, t3⟩ := stateOk_len hT
      conv => whnf
      repeat' (first | (refine sel_i (fun h => ?_) (fun h => ?_) <;> conv => whnf) | (refine chk_c ?_ ?_ <;> conv => whnf) | (refine And.intro ?_ rfl) | (refine And.intro ?_ ?_ <;> conv => whnf))
      all_goals (try simp only [etaKey, etaWord, etaMemory, etaState, beq_iff_eq, beq_eq_false_iff_ne, ne_eq, Int.toNat_natCast, List.length_nil, decide_eq_true_eq, decide_eq_false_iff_not] at *)
      all_goals first
        | (refine ⟨?_⟩; omega)
        | (rw [hend]; first | done | rfl)
        | rfl
        | skip
      refine loop (α := Nat) (fun r => ⟨[(8, .v (.c (.sl false .inst 0))), (9, .v (.c (.ptr 1 0))), (12, .v (.c (.sl false .bool 5))), (13, .v (.c (.int .i64 (i : Int)))), (14, .v (.c (.int .i64 T.pc.n))), (15, .v (.c (.int .i64 (r : Int))))],
          [(5, some (.flat true .bool none [])), (4, some (.flat true .bool none T.mem.gone)), (3, some (.flat true .word none T.mem.words)), (2, some (.flat true .word none T.regs)), (1, some (.box true (stC T 2 3 4 []))), (0, some (.flat true .inst none x))], nums.tail.tail.tail.tail.tail.tail, [], false, []⟩)
        (fun r => r ≤ 8) (fun r => 8 - r) (fun r R2 hI2 hR2 => ?_) 0 _ (Nat.zero_le _) (by show 8 - 0 < 200 + FU; omega)
      have w4 : IntKind.i64.wrap ((r : Int) + 1) = ((r + 1 : Nat) : Int) := by rw [wrap_id (by omega) (by omega)]; rfl
      have w5 : IntKind.i64.wrap ((i : Int) + 1) = ((i + 1 : Nat) : Int) := by rw [wrap_id (by omega) (by omega)]; rfl
      have hp := wordOk_n (stateOk_iff.1 hT).2.2.1
      have hst := (stateOk_len hT).l
      have hR2 := hR2 (r + 1)
      conv => whnf
      repeat' (first | (refine sel_i (fun h => ?_) (fun h => ?_) <;> conv => whnf) | (refine chk_c ?_ ?_ <;> conv => whnf) | (refine And.intro ?_ rfl) | (refine And.intro ?_ ?_ <;> conv => whnf))
      all_goals (try simp only [w4, w5, t1, etaKey, etaWord, etaMemory, etaState, Int.toNat_natCast, List.length_nil, decide_eq_true_eq, decide_eq_false_iff_not] at *)
      all_goals first
        | (exfalso; omega)
        | (refine ⟨?_⟩; omega)
        | (refine ⟨?_⟩; exact ⟨by omega, by omega⟩)
        | (refine ⟨?_⟩; exact ⟨by omega, hst⟩)
        | (exact hR2 (by omega) (by omega))
        | (exact hR (i + 1, stepS x T) ⟨by dsimp only; omega, stepS_ok hT⟩ (by dsimp only; omega))
        | trace_state
    case some m =>
      have hend := held_end hdm
      have htn := tells_new hdm
      have hml := held_len hdm
      have hrow := held_row hdm
      refine loop (α := Nat × State) (fun q => ⟨[(8, .v (.c (.sl false .inst 0))), (9, .v (.c (.ptr 1 0))), (12, .v (.c (.sl false .str 5))), (13, .v (.c (.int .i64 (q.1 : Int))))],
          [(5, some (.rows true (.int .i64) m)), (4, some (.flat true .bool none q.2.mem.gone)), (3, some (.flat true .word none q.2.mem.words)), (2, some (.flat true .word none q.2.regs)), (1, some (.box true (stC q.2 2 3 4 []))), (0, some (.flat true .inst none x))], nums.tail.tail.tail.tail.tail.tail, [], false, []⟩)
        (fun q => q.1 ≤ 30 ∧ stateOk q.2 = true ∧ Tells x m q.2) (fun q => 30 - q.1) (fun q R hI hR => ?_) (0, fromNew S) _ ⟨Nat.zero_le _, hsn, htn⟩ (by show 30 - 0 < 200 + FU; omega)
      obtain ⟨i, T⟩ := q
      obtain ⟨hi, hT, hTe⟩ := hI
      dsimp only at hi hT hTe hR ⊢
      obtain ⟨t1, t2, t3⟩ := stateOk_len hT
      conv => whnf
      repeat' (first | (refine sel_i (fun h => ?_) (fun h => ?_) <;> conv => whnf) | (refine chk_c ?_ ?_ <;> conv => whnf) | (refine And.intro ?_ rfl) | (refine And.intro ?_ ?_ <;> conv => whnf))
      all_goals (try simp only [etaKey, etaWord, etaMemory, etaState, beq_iff_eq, beq_eq_false_iff_ne, ne_eq, Int.toNat_natCast, decide_eq_true_eq, decide_eq_false_iff_not] at *)
      all_goals first
        | (refine ⟨?_⟩; omega)
        | (rw [hend.resolve_left (by omega)]; first | done | rfl)
        | rfl
        | skip
      refine loop (α := Nat) (fun r => ⟨[(8, .v (.c (.sl false .inst 0))), (9, .v (.c (.ptr 1 0))), (12, .v (.c (.sl false .str 5))), (13, .v (.c (.int .i64 (i : Int)))), (14, .v (.c (.int .i64 T.pc.n))), (15, .v (.c (.int .i64 (r : Int))))],
          [(5, some (.rows true (.int .i64) m)), (4, some (.flat true .bool none T.mem.gone)), (3, some (.flat true .word none T.mem.words)), (2, some (.flat true .word none T.regs)), (1, some (.box true (stC T 2 3 4 []))), (0, some (.flat true .inst none x))], nums.tail.tail.tail.tail.tail.tail, [], false, []⟩)
        (fun r => r ≤ 8) (fun r => 8 - r) (fun r R2 hI2 hR2 => ?_) 0 _ (Nat.zero_le _) (by show 8 - 0 < 200 + FU; omega)
      have w4 : IntKind.i64.wrap ((r : Int) + 1) = ((r + 1 : Nat) : Int) := by rw [wrap_id (by omega) (by omega)]; rfl
      have w5 : IntKind.i64.wrap ((i : Int) + 1) = ((i + 1 : Nat) : Int) := by rw [wrap_id (by omega) (by omega)]; rfl
      have hp := wordOk_n (stateOk_iff.1 hT).2.2.1
      have hst := (stateOk_len hT).l
      have hR2 := hR2 (r + 1)
      have hrw := hrow T.pc.n.toNat
      have hhas := fun q1 q2 q3 => tells_has hTe (p := T.pc.n.toNat) (r := r) (by omega) q1 q2 q3
      conv => whnf
      repeat' (first | (refine sel_i (fun h => ?_) (fun h => ?_) <;> conv => whnf) | (refine chk_c ?_ ?_ <;> conv => whnf) | (refine And.intro ?_ rfl) | (refine And.intro ?_ ?_ <;> conv => whnf))
      all_goals (try simp only [w4, w5, t1, etaKey, etaWord, etaMemory, etaState, Int.toNat_natCast, decide_eq_true_eq, decide_eq_false_iff_not] at *)
      all_goals first
        | (refine ⟨?_⟩; omega)
        | (refine ⟨?_⟩; exact ⟨by omega, by omega⟩)
        | (refine ⟨?_⟩; exact ⟨by omega, hst⟩)
        | (exact hR2 (by omega) (by omega))
        | (exact hR (i + 1, stepS x T) ⟨by dsimp only; omega, stepS_ok hT, tells_step hTe hT⟩ (by dsimp only; omega))
        | (exfalso
           have his : (T.regs.getD r FT.word.zero).is = true := by assumption
           have hq := hhas (by omega) (by omega) his
           have hno : (!((m.getD T.pc.n.toNat []).any fun v => v == (r : Int))) = true := by assumption
           rw [hq] at hno; cases hno)
        | trace_state)
theorem ok_laws_FnMayHold : FunOk Tryz.prog c_laws_FnMayHold := funOk (E := [c_laws_big, c_impl_StateNew, c_spec_DrawMayHold, c_impl_MayHold, c_spec_MayHold, c_laws_sameInts, c_spec_DrawGoing, c_laws_hasInt, c_impl_Step, c_impl_CodeOk]) (envOk_cons ok_laws_big (envOk_cons ok_impl_StateNew (envOk_cons ok_spec_DrawMayHold (envOk_cons ok_impl_MayHold (envOk_cons ok_spec_MayHold (envOk_cons ok_laws_sameInts (envOk_cons ok_spec_DrawGoing (envOk_cons ok_laws_hasInt (envOk_cons ok_impl_Step (envOk_cons ok_impl_CodeOk (envOk_nil))))))))))) mixd Tryz.func4 (pf := pf_laws_FnMayHold) (by kernel_rfl) fun ts K h => by
  obtain ⟨t0, e0, h⟩ := as1_out h
  subst e0
  obtain ⟨code, e1, hq⟩ := arC_out (rd_l (.int .u8)) h
  clear h
  subst e1
  have h := hq
  clear hq
  obtain ⟨hpre, h⟩ := chk_o h
  exact ⟨_, _, h, Nat.le_of_ble_eq_true (show Nat.ble 1 Tryz.f4.ntmps = true by kernel_rfl), _, run_laws_FnMayHold 0 code hpre⟩

end Go.Pi
namespace Go.Proofs.YtbenlebnogedlaaGreat
open Go.Pi
theorem fnMayHold_lifted (os : Os) (started : os.Started) (H : Type) (enc : TypeId × Value → H) :
    ReturnsInHanded {} Tryz.checked os 4 .any (Rows.fnMayHoldSpec.pre6 enc Tryz.prog Tryz.f4 Rows.fnMayHoldRow.domain false) (Rows.fnMayHoldSpec.post enc Tryz.prog Tryz.f4 false true false false) :=
  lifted (C := Tryz.checked) (E := [c_laws_big, c_impl_StateNew, c_spec_DrawMayHold, c_impl_MayHold, c_spec_MayHold, c_laws_sameInts, c_spec_DrawGoing, c_laws_hasInt, c_impl_Step, c_impl_CodeOk]) (fuel := _) (pf := pf_laws_FnMayHold) (shs := [(false, [.sl (.int .u8)])]) (tb := 4) (by kernel_rfl) started (by kernel_rfl) Tryz.func4
    (ChangeSpec.witness6 (enc := enc) (C := Tryz.checked) false ⟨#[], #[.slice none 0 0], []⟩ 12 (by kernel_rfl) (by kernel_rfl) (by kernel_rfl) (by kernel_rfl))
    mixd (envOk_cons ok_laws_big (envOk_cons ok_impl_StateNew (envOk_cons ok_spec_DrawMayHold (envOk_cons ok_impl_MayHold (envOk_cons ok_spec_MayHold (envOk_cons ok_laws_sameInts (envOk_cons ok_spec_DrawGoing (envOk_cons ok_laws_hasInt (envOk_cons ok_impl_Step (envOk_cons ok_impl_CodeOk (envOk_nil))))))))))) (by kernel_rfl) (by kernel_rfl) (by kernel_rfl) rfl (by kernel_rfl) rfl (by kernel_rfl)
    (fun ds h => by
      obtain _ | ⟨d0, ds⟩ := ds
      · simp at h
      obtain _ | ⟨x, ds⟩ := ds
      · rfl
      · simp at h)
    (fun ain h0 => by
      obtain ⟨T0, ain0, e, k0, h1⟩ := areCons h0
      subst e
      have e := areNil h1
      subst e
      obtain ⟨code, e, w0⟩ := isL k0
      subst e
      exact run_laws_FnMayHold 0 code (w0.2))
theorem fnMayHold_over : Rows.fnMayHoldRow.holds Tryz.pinned (OpenSpec.ofChange Rows.fnMayHoldSpec) :=
  OpenClaim.holds_of_wide 4 Tryz.f4 rfl rfl rfl rfl rfl rfl rfl ⟨rfl, rfl, rfl, rfl, rfl⟩ rfl rfl rfl rfl rfl (by kernel_rfl) Tryz.func4 (by kernel_rfl)
    (of_decide_eq_true (by kernel_rfl)) (by unfold Func.isWrapper; first | (rw [if_pos (by decide +kernel)]; kernel_rfl) | (rw [if_neg (by decide +kernel)]; exact ⟨rfl, rfl⟩))
    (fun os started H enc _ => fnMayHold_lifted os started H enc)
theorem fnMayHold_holds : Rows.FnMayHoldSaid := fnMayHold_over
#print axioms fnMayHold_holds
end Go.Proofs.YtbenlebnogedlaaGreat
