/- FnTouched: the given statement holds, out of the law's run by PI. No conditions. -/
import Derived.Test.YtlbfghplkadacaaGreatDoorC5
import Derived.Test.YtlbfghplkadacaaGreatDoorCards
import Derived.Test.YtlbfghplkadacaaGreatDoorTie
import Derived.SevenTiedAt
import Derived.OpenShut
import Derived.Stop.Joined
namespace Go.Pi
open Go.Proofs
set_option linter.unusedVariables false
set_option linter.unusedSimpArgs false
set_option maxRecDepth 100000
attribute [local irreducible] iterN
def lb_laws_FnTouched_0 : PC := .seq (.seq (.reg [.s (.mv 56 (.t 10)), .s (.mv 57 (.t 6)), .s (.len 58 false (.t 57)), .s (.bin 59 .lss (.t 56) (.t 58))]) (.cond (.t 59) (.skip) (.exit 0))) (.seq (.blk 1 (.seq (.rgd [] [.s (.mv 62 (.t 6)), .s (.mv 63 (.t 10)), .s (.ia 64 .seen (.t 62) (.t 63)), .s (.load 65 true 4 (.t 64)), .s (.mv 66 (.t 7)), .s (.mv 67 (.t 10)), .s (.ia 68 .seen (.t 66) (.t 67)), .s (.load 69 true 4 (.t 68)), .s (.eqs 70 true [.i, .i, .i, .i] true (.t 65) (.t 69)), .s (.mv 71 (.t 70)), .g 71 false (some 72) (.mv 72 (.t 10)), .g 71 false (some 73) (.bin 73 .add (.t 72) (.k (.v (.c (.int .i64 1))))), .g 71 false (some 74) (.mv 74 (.t 6)), .g 71 false (some 75) (.len 75 false (.t 74)), .g 71 false (some 76) (.bin 76 .lss (.t 73) (.t 75)), .g 71 false (some 77) (.mv 77 (.t 76)), .g 77 true (some 78) (.mv 78 (.t 6)), .g 77 true (some 79) (.mv 79 (.t 10)), .g 77 true (some 80) (.ia 80 .seen (.t 78) (.t 79)), .g 77 true (some 81) (.fa 81 (.t 80) 3), .g 77 true (some 82) (.load 82 false 1 (.t 81)), .g 77 true (some 83) (.bin 83 .neq (.t 82) (.k (.v (.c (.int .i64 0))))), .g 71 false (some 84) (.pick 84 (.t 77) (.t 83) (.k (.v (.c .ff)))), .s (.pick 85 (.t 71) (.k (.v (.c .tt))) (.t 84))] (.tk 0 (.tk 1 (.tk 2 (.tk 3 (.tk 4 (.tk 5 (.tk 6 (.tk 7 (.tk 8 (.tk 9 (.tk 10 (.tk 11 (.tk 12 (.tk 13 (.tk 14 (.tk 15 (.tk 16 (.tk 17 (.tk 18 (.tk 19 (.tk 20 (.tk 21 (.tk 22 (.tk 23 (.done none)))))))))))))))))))))))))) (.cond (.t 85) (.seq (.reg [.s (.mv 2 (.k (.v (.c .ff))))]) (.ret)) (.skip)))) (.reg [.s (.mv 60 (.t 10)), .s (.bin 61 .add (.t 60) (.k (.v (.c (.int .i64 1))))), .s (.mv 10 (.t 61))]))
def lb_laws_FnTouched_1 : PC := .seq (.seq (.reg [.s (.mv 94 (.t 12)), .s (.mv 95 (.t 11)), .s (.len 96 false (.t 95)), .s (.bin 97 .lss (.t 94) (.t 96))]) (.cond (.t 97) (.skip) (.exit 2))) (.seq (.blk 3 (.seq (.rgd [] [.s (.mv 100 (.t 11)), .s (.mv 101 (.t 12)), .s (.bin 102 .sub (.t 101) (.k (.v (.c (.int .i64 1))))), .s (.ia 103 (.int .i64) (.t 100) (.t 102)), .s (.load 104 false 1 (.t 103)), .s (.mv 105 (.t 11)), .s (.mv 106 (.t 12)), .s (.ia 107 (.int .i64) (.t 105) (.t 106)), .s (.load 108 false 1 (.t 107)), .s (.bin 109 .geq (.t 104) (.t 108))] (.tk 0 (.tk 1 (.tk 2 (.tk 3 (.tk 4 (.tk 5 (.tk 6 (.tk 7 (.tk 8 (.tk 9 (.done none)))))))))))) (.cond (.t 109) (.seq (.reg [.s (.mv 2 (.k (.v (.c .ff))))]) (.ret)) (.skip)))) (.reg [.s (.mv 98 (.t 12)), .s (.bin 99 .add (.t 98) (.k (.v (.c (.int .i64 1))))), .s (.mv 12 (.t 99))]))
def lb_laws_FnTouched_2 : PC := .seq (.seq (.reg [.s (.mv 117 (.t 15)), .s (.bin 118 .lss (.t 117) (.k (.v (.c (.int .i64 24)))))]) (.cond (.t 118) (.skip) (.exit 4))) (.seq (.blk 5 (.seq (.rgd [] [.s (.fa 121 (.t 13) 7), .s (.fa 122 (.t 121) 0), .s (.load 123 false 1 (.t 122)), .s (.mv 124 (.t 15)), .s (.ia 125 .word (.t 123) (.t 124)), .s (.load 126 true 6 (.t 125)), .s (.fa 127 (.t 4) 7), .s (.fa 128 (.t 127) 0), .s (.load 129 false 1 (.t 128)), .s (.mv 130 (.t 15)), .s (.ia 131 .word (.t 129) (.t 130)), .s (.load 132 true 6 (.t 131)), .s (.eqs 133 true [.i, .b, .i, .i, .i, .i] true (.t 126) (.t 132)), .s (.mv 134 (.t 133)), .g 134 true (some 135) (.mv 135 (.t 11)), .g 134 true (some 136) (.mv 136 (.t 15)), .g 134 true (some 137) (.call (some 137) 17 [(.t 135), (.t 136)]), .g 134 true (some 138) (.bnot 138 (.t 137)), .s (.pick 139 (.t 134) (.t 138) (.k (.v (.c .ff))))] (.tk 0 (.tk 1 (.tk 2 (.tk 3 (.tk 4 (.tk 5 (.tk 6 (.tk 7 (.tk 8 (.tk 9 (.tk 10 (.tk 11 (.tk 12 (.tk 13 (.tk 14 (.tk 15 (.one 16 true (.tk 17 (.tk 18 (.done none))))))))))))))))))))) (.cond (.t 139) (.seq (.reg [.s (.mv 2 (.k (.v (.c .ff))))]) (.ret)) (.skip)))) (.reg [.s (.mv 119 (.t 15)), .s (.bin 120 .add (.t 119) (.k (.v (.c (.int .i64 1))))), .s (.mv 15 (.t 120))]))
def pf_laws_FnTouched : PF := ⟨[.t 2], .seq (.reg [.s (.mv 2 (.k (.v (.c .ff))))]) (.seq (.seq (.reg [.s (.mv 16 (.t 0)), .s (.call (some 17) 4 [(.t 16)])]) (.cond (.t 17) (.seq (.reg [.s (.mv 2 (.k (.v (.c .tt))))]) (.ret)) (.skip))) (.seq (.reg [.s (.mv 19 (.t 0)), .s (.call (some 20) 5 [(.t 19)]), .s (.mv 18 (.t 20)), .s (.ext 21 (.t 18) 0), .s (.ext 22 (.t 18) 1), .s (.ext 23 (.t 18) 2), .s (.alloc 4 [.nils .word, .int .i64 0, .ff, .int .i64 0, .int .i64 0, .int .i64 0, .int .i64 0, .nils .word, .nils .bool, .int .i64 0]), .s (.mv 3 (.t 21)), .s (.store 10 (.t 4) (.t 22)), .s (.mv 5 (.t 23))]) (.seq (.rgd [] [.s (.mv 24 (.t 3)), .s (.load 25 true 10 (.t 4)), .s (.mv 26 (.t 5)), .s (.call (some 27) 6 [(.t 24), (.t 25), (.t 26)]), .s (.mv 28 (.t 3)), .s (.load 29 true 10 (.t 4)), .s (.mv 30 (.t 5)), .s (.call (some 31) 7 [(.t 28), (.t 29), (.t 30)]), .s (.mv 6 (.t 27)), .s (.mv 7 (.t 31))] (.tk 0 (.tk 1 (.tk 2 (.tk 4 (.tk 5 (.tk 6 (.one 3 false (.one 7 true (.tk 8 (.tk 9 (.done none)))))))))))) (.seq (.reg [.s (.mv 32 (.t 0)), .s (.call (some 33) 8 [(.t 32)]), .s (.mv 8 (.t 33))]) (.seq (.reg [.s (.mv 34 (.t 0)), .s (.call (some 35) 9 [(.t 34)]), .s (.alloc 9 [.int .i64 0, .int .i64 0, .int .i64 0, .int .i64 0]), .s (.store 4 (.t 9) (.t 35))]) (.seq (.seq (.rgd [] [.s (.mv 36 (.t 6)), .s (.len 37 false (.t 36)), .s (.mv 38 (.t 7)), .s (.len 39 false (.t 38)), .s (.bin 40 .neq (.t 37) (.t 39)), .s (.mv 41 (.t 40)), .g 41 false (some 42) (.mv 42 (.t 8)), .g 41 false (some 43) (.call (some 43) 11 [(.t 42)]), .g 41 false (some 44) (.mv 44 (.t 8)), .g 41 false (some 45) (.call (some 45) 12 [(.t 44)]), .g 41 false (some 46) (.call (some 46) 10 [(.t 43), (.t 45)]), .g 41 false (some 47) (.bnot 47 (.t 46)), .s (.pick 48 (.t 41) (.k (.v (.c .tt))) (.t 47)), .s (.mv 49 (.t 48)), .g 49 false (some 50) (.load 50 true 4 (.t 9)), .g 49 false (some 51) (.call (some 51) 13 [(.t 50)]), .g 49 false (some 52) (.load 52 true 4 (.t 9)), .g 49 false (some 53) (.call (some 53) 14 [(.t 52)]), .g 49 false (some 54) (.eqs 54 false [.s] true (.t 51) (.t 53)), .s (.pick 55 (.t 49) (.k (.v (.c .tt))) (.t 54))] (.tk 0 (.tk 1 (.tk 2 (.tk 3 (.tk 4 (.tk 5 (.tk 6 (.tk 8 (.one 7 true (.one 9 true (.one 10 true (.tk 11 (.tk 12 (.tk 13 (.tk 14 (.tk 16 (.one 15 false (.one 17 true (.tk 18 (.tk 19 (.done none)))))))))))))))))))))) (.cond (.t 55) (.seq (.reg [.s (.mv 2 (.k (.v (.c .ff))))]) (.ret)) (.skip))) (.seq (.seq (.reg [.s (.mv 10 (.k (.v (.c (.int .i64 0)))))]) (.blk 0 (.loop [3, 4, 5, 6, 7, 10] lb_laws_FnTouched_0))) (.seq (.seq (.reg [.s (.load 86 true 10 (.t 4)), .s (.call (some 87) 15 [(.t 86)]), .s (.bnot 88 (.t 87))]) (.cond (.t 88) (.seq (.reg [.s (.mv 89 (.t 6)), .s (.len 90 false (.t 89)), .s (.bin 91 .eql (.t 90) (.k (.v (.c (.int .i64 0))))), .s (.mv 2 (.t 91))]) (.ret)) (.skip))) (.seq (.reg [.s (.mv 92 (.t 6)), .s (.call (some 93) 11 [(.t 92)]), .s (.mv 11 (.t 93))]) (.seq (.seq (.reg [.s (.mv 12 (.k (.v (.c (.int .i64 1)))))]) (.blk 2 (.loop [3, 4, 5, 11, 12] lb_laws_FnTouched_1))) (.seq (.reg [.s (.mv 111 (.t 3)), .s (.load 112 true 10 (.t 4)), .s (.mv 113 (.t 5)), .s (.call (some 114) 16 [(.t 111), (.t 112), (.t 113)]), .s (.mv 110 (.t 114)), .s (.ext 115 (.t 110) 0), .s (.ext 116 (.t 110) 1), .s (.alloc 13 [.nils .word, .int .i64 0, .ff, .int .i64 0, .int .i64 0, .int .i64 0, .int .i64 0, .nils .word, .nils .bool, .int .i64 0]), .s (.store 10 (.t 13) (.t 115)), .s (.mv 14 (.t 116))]) (.seq (.seq (.reg [.s (.mv 15 (.k (.v (.c (.int .i64 0)))))]) (.blk 4 (.loop [4, 11, 13, 15] lb_laws_FnTouched_2))) (.seq (.reg [.s (.mv 2 (.k (.v (.c .tt))))]) (.ret))))))))))))))⟩
def c_laws_FnTouched : Fun := ⟨3, [], fun ts K => as1 ts fun t0 => arC (pL (.int .u8)) t0 fun code => chk (code.length ≤ 9223372036854775807) (K (tB true) [])⟩
set_option maxHeartbeats 4000000 in
theorem run_laws_FnTouched (FU : Nat) (code : List (FT.Ty (.int .u8))) (hpre : code.length ≤ 9223372036854775807) : runK [c_laws_big, c_spec_DrawSeenRun, c_impl_SeenRun, c_spec_SeenRun, c_spec_DrawTouched, c_spec_DrawSeenText, c_laws_sameInts, c_impl_Touched, c_spec_Touched, c_impl_SeenText, c_spec_SeenText, c_impl_StateOk, c_impl_InOrder, c_laws_hasInt] (700 + FU) [] pf_laws_FnTouched [tL false (.int .u8) code] fun r o => r = tB true ∧ o = [] := by
  conv => whnf
  refine sel_i (fun h => ?_) (fun h => ?_) <;> conv => whnf
  · exact ⟨rfl, rfl⟩
  have hc : code.length ≤ 1048576 := by simp at h; omega
  clear h
  refine chk_i hc ?_
  conv => whnf
  intro l s n hd
  obtain ⟨g1, g2⟩ := hd
  have hln : LState s 2147483647 := g2.mono (by decide)
  conv => whnf
  repeat' (first | (refine sel_i (fun h => ?_) (fun h => ?_) <;> conv => whnf) | (refine chk_c ?_ ?_ <;> conv => whnf) | (refine And.intro ?_ rfl) | (refine And.intro ?_ ?_ <;> conv => whnf))
  all_goals (try simp only [etaKey, etaWord, etaMemory, etaState] at *)
  all_goals first
    | (refine ⟨?_⟩; first | assumption | exact ⟨by omega, hln⟩)
    | skip
  intro t ht
  conv => whnf
  repeat' (first | (refine sel_i (fun h => ?_) (fun h => ?_) <;> conv => whnf) | (refine chk_c ?_ ?_ <;> conv => whnf) | (refine And.intro ?_ rfl) | (refine And.intro ?_ ?_ <;> conv => whnf))
  all_goals first
    | (refine ⟨?_⟩; assumption)
    | skip
  intro z hz
  have hR := seenRun_len l s n
  have hT := touched_len t
  conv => whnf
  repeat' (first | (refine sel_i (fun h => ?_) (fun h => ?_) <;> conv => whnf) | (refine chk_c ?_ ?_ <;> conv => whnf) | (refine And.intro ?_ rfl) | (refine And.intro ?_ ?_ <;> conv => whnf))
  all_goals (try simp only [etaKey, etaWord, etaMemory, etaState, eqSeen] at *)
  all_goals first
    | (refine ⟨?_⟩; first | exact hz.inS | omega)
    | (exfalso; simp at h; done)
    | (exfalso; rw [beqB] at h; simp at h; done)
    | skip
  clear h
  generalize hrun : seenRun l s n = r at *
  refine loop (α := Nat) (fun i => ⟨[(3, .v (.c (.sl false .inst 0))), (4, .v (.c (.ptr 1 0))), (5, .v (.c (.int .i64 n))), (6, .v (.c (.sl false .seen 5))), (7, .v (.c (.sl false .seen 6))), (10, .v (.c (.int .i64 (i : Int))))],
        [(6, some (.flat true .seen none r)), (5, some (.flat true .seen none r)), (4, some (.flat true .bool none s.mem.gone)), (3, some (.flat true .word none s.mem.words)), (2, some (.flat true .word none s.regs)), (1, some (.box true (stC s 2 3 4 []))), (0, some (.flat true .inst none l))], nums.tail.tail.tail.tail.tail.tail.tail, [], false, []⟩)
      (fun i => i ≤ r.length) (fun i => r.length - i) (fun i R hI hN => ?_) 0 _ (Nat.zero_le _) (by show r.length - 0 < 700 + FU; omega)
  conv => whnf
  repeat' (first | (refine sel_i (fun h => ?_) (fun h => ?_) <;> conv => whnf) | (refine chk_c ?_ ?_ <;> conv => whnf) | (refine And.intro ?_ rfl) | (refine And.intro ?_ ?_ <;> conv => whnf))
  all_goals (try simp only [etaKey, etaWord, etaMemory, etaState, Int.toNat_natCast, Bool.not_eq_true', Bool.not_eq_false', decide_eq_true_eq, decide_eq_false_iff_not] at *)
  all_goals first
    | (refine ⟨?_⟩; first | omega | exact ⟨by omega, hln⟩)
    | (rw [wrap_id (n := (i : Int) + 1) (by omega) (by omega)]; exact hN (i + 1) (by omega) (by omega))
    | (exfalso; exact absurd ((eqSn _).symm.trans (by assumption)) (by decide))
    | (exfalso
       have h : IntKind.i64.wrap ((i : Int) + 1) < (r.length : Int) := by assumption
       rw [wrap_id (n := (i : Int) + 1) (by omega) (by omega)] at h
       have q := seenGo_trap (l := l) (min n 600).toNat (s := s) i (by show i + 1 < (seenRun l s n).length; rw [hrun]; omega)
       rw [show seenGo l (min n 600).toNat s = r from hrun] at q
       have hb : ((r.getD i FT.seen.zero).trap != 0) = true := by assumption
       rw [q] at hb
       exact absurd hb (by decide))
    | (rw [← hrun, seenRun_bad (by assumption)]; rfl)
    | skip
  have hs : stateOk s = true := h
  clear h
  have hT2 := touched_len r
  refine loop (α := Nat) (fun i => ⟨[(3, .v (.c (.sl false .inst 0))), (4, .v (.c (.ptr 1 0))), (5, .v (.c (.int .i64 n))), (11, .v (.c (.sl false (.int .i64) 5))), (12, .v (.c (.int .i64 (i : Int))))],
        [(5, some (.flat true (.int .i64) none (touched r))), (4, some (.flat true .bool none s.mem.gone)), (3, some (.flat true .word none s.mem.words)), (2, some (.flat true .word none s.regs)), (1, some (.box true (stC s 2 3 4 []))), (0, some (.flat true .inst none l))], nums.tail.tail.tail.tail.tail.tail, [], false, []⟩)
      (fun i => 1 ≤ i ∧ i ≤ 601) (fun i => (touched r).length - i) (fun i R hI hN => ?_) 1 _ ⟨Nat.le_refl _, by decide⟩ (by show (touched r).length - 1 < 700 + FU; omega)
  obtain ⟨hi1, hi2⟩ := hI
  conv => whnf
  repeat' (first | (refine sel_i (fun h => ?_) (fun h => ?_) <;> conv => whnf) | (refine chk_c ?_ ?_ <;> conv => whnf) | (refine And.intro ?_ rfl) | (refine And.intro ?_ ?_ <;> conv => whnf))
  all_goals (try simp only [etaKey, etaWord, etaMemory, etaState, Int.toNat_natCast, Bool.not_eq_true', Bool.not_eq_false', decide_eq_true_eq, decide_eq_false_iff_not] at *)
  all_goals first
    | (refine ⟨?_⟩; first | omega | exact ⟨by omega, hln⟩)
    | (rw [wrap_id (n := (i : Int) + 1) (by omega) (by omega)]; exact hN (i + 1) ⟨by omega, by omega⟩ (by omega))
    | (rw [wrap_id (n := (i : Int) - 1) (by omega) (by omega)]; refine ⟨?_⟩; first | exact ⟨by omega, by omega⟩ | omega)
    | (exfalso
       rw [wrap_id (n := (i : Int) - 1) (by omega) (by omega), show ((i : Int) - 1).toNat = i - 1 by omega] at h
       have q := asc_at (setI_asc (addrS r)) (i := i - 1) (by show i - 1 + 1 < (touched r).length; omega)
       rw [show i - 1 + 1 = i by omega] at q
       exact absurd h (Int.not_le.2 q))
    | skip
  clear h
  have hk := stateOk_len (inOrder_ok (l := l) (n := n) hs)
  obtain ⟨k1, k2, k3⟩ := hk
  obtain ⟨n1, n2, n3⟩ := stateOk_len hs
  have tw := fun c => touched_words (l := l) (n := n) hs (c := c)
  rw [hrun] at tw
  generalize inOrder l s n = e at *
  refine loop (α := Nat) (fun i => ⟨[(4, .v (.c (.ptr 0 0))), (11, .v (.c (.sl false (.int .i64) 4))), (13, .v (.c (.ptr 5 0))), (15, .v (.c (.int .i64 (i : Int))))],
        [(8, some (.flat true .bool none e.1.mem.gone)), (7, some (.flat true .word none e.1.mem.words)), (6, some (.flat true .word none e.1.regs)), (5, some (.box true (stC e.1 6 7 8 []))),
         (4, some (.flat true (.int .i64) none (touched r))), (3, some (.flat true .bool none s.mem.gone)), (2, some (.flat true .word none s.mem.words)), (1, some (.flat true .word none s.regs)), (0, some (.box true (stC s 1 2 3 [])))], nums.tail.tail.tail.tail.tail.tail.tail.tail.tail, [], false, []⟩)
      (fun i => i ≤ 24) (fun i => 24 - i) (fun i R hI hN => ?_) 0 _ (Nat.zero_le _) (by show 24 - 0 < 700 + FU; omega)
  conv => whnf
  repeat' (first | (refine sel_i (fun h => ?_) (fun h => ?_) <;> conv => whnf) | (refine chk_c ?_ ?_ <;> conv => whnf) | (refine And.intro ?_ rfl) | (refine And.intro ?_ ?_ <;> conv => whnf))
  all_goals (try simp only [eqWd, etaKey, etaWord, etaMemory, etaState, Int.toNat_natCast, Bool.not_eq_true', Bool.not_eq_false', decide_eq_true_eq, decide_eq_false_iff_not] at *)
  all_goals first
    | rfl
    | trivial
    | (exact ⟨rfl, rfl⟩)
    | (refine ⟨?_⟩; omega)
    | (rw [wrap_id (n := (i : Int) + 1) (by omega) (by omega)]; exact hN (i + 1) (by omega) (by omega))
    | (exfalso
       have q := tw i (by assumption)
       first | (exact absurd q (by assumption)) | (exact absurd q.symm (by assumption)))
    | trace_state
theorem ok_laws_FnTouched : FunOk Tryz.prog c_laws_FnTouched := funOk (E := [c_laws_big, c_spec_DrawSeenRun, c_impl_SeenRun, c_spec_SeenRun, c_spec_DrawTouched, c_spec_DrawSeenText, c_laws_sameInts, c_impl_Touched, c_spec_Touched, c_impl_SeenText, c_spec_SeenText, c_impl_StateOk, c_impl_InOrder, c_laws_hasInt]) (envOk_cons ok_laws_big (envOk_cons ok_spec_DrawSeenRun (envOk_cons ok_impl_SeenRun (envOk_cons ok_spec_SeenRun (envOk_cons ok_spec_DrawTouched (envOk_cons ok_spec_DrawSeenText (envOk_cons ok_laws_sameInts (envOk_cons ok_impl_Touched (envOk_cons ok_spec_Touched (envOk_cons ok_impl_SeenText (envOk_cons ok_spec_SeenText (envOk_cons ok_impl_StateOk (envOk_cons ok_impl_InOrder (envOk_cons ok_laws_hasInt (envOk_nil))))))))))))))) mixd Tryz.func3 (pf := pf_laws_FnTouched) (by kernel_rfl) fun ts K h => by
  obtain ⟨t0, e0, h⟩ := as1_out h
  subst e0
  obtain ⟨code, e1, hq⟩ := arC_out (rd_l (.int .u8)) h
  clear h
  subst e1
  have h := hq
  clear hq
  obtain ⟨hpre, h⟩ := chk_o h
  exact ⟨_, _, h, Nat.le_of_ble_eq_true (show Nat.ble 1 Tryz.f3.ntmps = true by kernel_rfl), _, run_laws_FnTouched 0 code hpre⟩

end Go.Pi
namespace Go.Proofs.YtlbfghplkadacaaGreatDoor
open Go.Pi
set_option maxRecDepth 100000
def fnTouched_laid : List (String × DataW Unit) := [("math/bits.deBruijn32tab", Rows.laid_math_bits_deBruijn32tab), ("math/bits.deBruijn64tab", Rows.laid_math_bits_deBruijn64tab), ("internal/strconv.uint64pow10", Rows.laid_internal_strconv_uint64pow10)]
theorem fnTouched_met (os : Os) (args : Array Value) : laidMetH Tryz.prog fnTouched_laid ((World.doorLaid Tryz.prog 400 os).forCall (fun _ _ => 0) ⟨#[], args, []⟩).memory :=
  laidMetH_of_parts3 (fuel := 8) (laidMet_of_run' 8 (by kernel_rfl) (by kernel_rfl)) (by kernel_rfl) (by kernel_rfl)
theorem fnTouched_tab : (Rows.laid_internal_strconv_uint64pow10 : DataW Unit) = Lib.tabData .u64 Lib.pow10Tab := by kernel_rfl
theorem fnTouched_low (W : World) (h : laidMetH Tryz.prog fnTouched_laid W) : Low Tryz.prog W [] := by
  rw [MakeChecks.laidMetH_plain _ _ _ (by kernel_rfl)] at h
  have h := laidMet_rest h
  have h := laidMet_rest h
  have h : laidMet Tryz.prog ((tabName, Rows.laid_internal_strconv_uint64pow10) :: []) W := h
  rw [fnTouched_tab] at h
  exact Low.of_tab (Lib.tabIs_of_head (g := 0) (t := 165) (show Tryz.prog.globalNamed tabName = some 0 by kernel_rfl) (by kernel_rfl) Tryz.underlying165 (by kernel_rfl) (by kernel_rfl) (by kernel_rfl) h) (by kernel_rfl)
theorem fnTouched_lifted (os : Os) (started : os.Started) (H : Type) (enc : TypeId × Value → H) :
    ReturnsInHanded {} Tryz.checked os 3 .any (fun w args => (Rows.fnTouchedSpec.pre enc Tryz.prog Tryz.f3 [] false w args ∧ laidMetH Tryz.prog fnTouched_laid w) ∧ sizedMet enc Tryz.prog Tryz.f3 (OpenSpec.ofChange Rows.fnTouchedSpec) false w args) (Rows.fnTouchedSpec.post enc Tryz.prog Tryz.f3 false true false false) :=
  liftedX (X := fun w _ => laidMetH Tryz.prog fnTouched_laid w) (C := Tryz.checked) (E := [c_laws_big, c_spec_DrawSeenRun, c_impl_SeenRun, c_spec_SeenRun, c_spec_DrawTouched, c_spec_DrawSeenText, c_laws_sameInts, c_impl_Touched, c_spec_Touched, c_impl_SeenText, c_spec_SeenText, c_impl_StateOk, c_impl_InOrder, c_laws_hasInt]) (fuel := _) (pf := pf_laws_FnTouched) (shs := [(false, [.sl (.int .u8)])]) (tb := 4) (fun _ _ _ hh h => h.of_heap hh) (by kernel_rfl) started (by kernel_rfl) Tryz.func3
    (ChangeSpec.witness_shaped (enc := enc) (C := Tryz.checked) (os := os) (X := fun w _ => laidMetH Tryz.prog fnTouched_laid w) false (World.doorLaid Tryz.prog 400 os) #[.slice none 0 0] 12 rfl (World.shaped_of_RefB (by kernel_rfl) (by kernel_rfl)) (by kernel_rfl) (by kernel_rfl) (by kernel_rfl) (fnTouched_met os _))
    mixd (envOk_cons ok_laws_big (envOk_cons ok_spec_DrawSeenRun (envOk_cons ok_impl_SeenRun (envOk_cons ok_spec_SeenRun (envOk_cons ok_spec_DrawTouched (envOk_cons ok_spec_DrawSeenText (envOk_cons ok_laws_sameInts (envOk_cons ok_impl_Touched (envOk_cons ok_spec_Touched (envOk_cons ok_impl_SeenText (envOk_cons ok_spec_SeenText (envOk_cons ok_impl_StateOk (envOk_cons ok_impl_InOrder (envOk_cons ok_laws_hasInt (envOk_nil))))))))))))))) (by kernel_rfl) (by kernel_rfl) (by kernel_rfl) rfl (by kernel_rfl) rfl (fun W _ h => fnTouched_low W h)
    (fun ds h => by
      obtain _ | ⟨d0, ds⟩ := ds
      · simp at h
      obtain _ | ⟨x, ds⟩ := ds
      · rfl
      · simp at h)
    (fun ain h0 => by
      obtain ⟨T0, ain0, e, k0, h1⟩ := areCons h0
      subst e
      have e := areNil h1
      subst e
      obtain ⟨code, e, w0⟩ := isL k0
      subst e
      exact run_laws_FnTouched 0 code (w0.2))
theorem fnTouched_over : Rows.fnTouchedRow.holds Tryz.pinned (OpenSpec.ofChange Rows.fnTouchedSpec) :=
  OpenClaim.holds_of_wide 3 Tryz.f3 rfl rfl rfl rfl rfl rfl rfl ⟨rfl, rfl, rfl, rfl, rfl⟩ rfl rfl rfl rfl rfl (by kernel_rfl) Tryz.func3 (by kernel_rfl)
    (of_decide_eq_true (by kernel_rfl)) (by unfold Func.isWrapper; first | (rw [if_pos (by decide +kernel)]; kernel_rfl) | (rw [if_neg (by decide +kernel)]; exact ⟨rfl, rfl⟩))
    (fun os started H enc _ => fnTouched_lifted os started H enc)
theorem fnTouched_holds : Rows.FnTouchedCardSaid :=
  Claim7.holds_tied_plain_at .later [] [.data, .data, .data] true (true, "e57a5f2b3b5ba3654695f7e1934c3b574343bd5f7908e11b5a92ce1295270af1") false
    fnTouched_over (fun _ h => by cases h) (by kernel_rfl) (fun _ h => by cases h) fnTouched_row_tie rfl ⟨rfl, rfl⟩ (by kernel_rfl) rfl
    (fun f fn hf hfn => by
      obtain rfl : f = 3 := Option.some.inj ((show Tryz.prog.funcNamed Rows.fnTouchedRow.func = some 3 by kernel_rfl).symm.trans hf) |>.symm
      obtain rfl : fn = Tryz.f3 := (Option.some.inj (Tryz.func3.symm.trans hfn)).symm
      exact ⟨by kernel_rfl, fun j t ht => by
        rw [Tryz.params3] at ht
        have hm : t ∈ [22] := by simpa using Array.mem_of_getElem? ht
        have hall : ([22].all fun u => !Tryz.prog.wantsStandIn u) = true := by kernel_rfl
        exact (show Tryz.prog.wantsStandIn t = false by simpa using List.all_eq_true.1 hall t hm)⟩)
    (by kernel_rfl)
#print axioms fnTouched_holds
end Go.Proofs.YtlbfghplkadacaaGreatDoor
