/- FnApart: the given statement holds, out of the law's run by PI. No conditions. -/
import Derived.Test.YtkiokbkbgjomeaaGreatC5
namespace Go.Pi
open Go.Proofs
set_option linter.unusedVariables false
set_option linter.unusedSimpArgs false
set_option maxRecDepth 100000
attribute [local irreducible] iterN
def lb_laws_FnApart_0 : PC := .seq (.seq (.reg [.s (.mv 74 (.t 14)), .s (.mv 75 (.t 6)), .s (.len 76 false (.t 75)), .s (.bin 77 .lss (.t 74) (.t 76))]) (.cond (.t 77) (.skip) (.exit 2))) (.seq (.blk 3 (.seq (.reg [.s (.mv 80 (.t 6)), .s (.mv 81 (.t 14)), .s (.ia 82 (.int .i64) (.t 80) (.t 81)), .s (.load 83 false 1 (.t 82)), .s (.mv 84 (.t 9)), .s (.bin 85 .eql (.t 83) (.t 84))]) (.cond (.t 85) (.reg [.s (.mv 86 (.t 10)), .s (.load 87 true 10 (.t 11)), .s (.call (some 88) 16 [(.t 86), (.t 87)]), .s (.store 10 (.t 11) (.t 88))]) (.skip)))) (.reg [.s (.mv 78 (.t 14)), .s (.bin 79 .add (.t 78) (.k (.v (.c (.int .i64 1))))), .s (.mv 14 (.t 79))]))
def lb_laws_FnApart_1 : PC := .seq (.seq (.reg [.s (.mv 112 (.t 16)), .s (.mv 113 (.t 13)), .s (.len 114 false (.t 113)), .s (.bin 115 .lss (.t 112) (.t 114))]) (.cond (.t 115) (.skip) (.exit 4))) (.seq (.blk 5 (.seq (.rgd [] [.s (.fa 118 (.t 11) 7), .s (.fa 119 (.t 118) 0), .s (.load 120 false 1 (.t 119)), .s (.mv 121 (.t 13)), .s (.mv 122 (.t 16)), .s (.ia 123 (.int .i64) (.t 121) (.t 122)), .s (.load 124 false 1 (.t 123)), .s (.ia 125 .word (.t 120) (.t 124)), .s (.load 126 true 6 (.t 125)), .s (.fa 127 (.t 15) 7), .s (.fa 128 (.t 127) 0), .s (.load 129 false 1 (.t 128)), .s (.mv 130 (.t 13)), .s (.mv 131 (.t 16)), .s (.ia 132 (.int .i64) (.t 130) (.t 131)), .s (.load 133 false 1 (.t 132)), .s (.ia 134 .word (.t 129) (.t 133)), .s (.load 135 true 6 (.t 134)), .s (.eqs 136 true [.i, .b, .i, .i, .i, .i] true (.t 126) (.t 135))] (.tk 0 (.tk 1 (.tk 2 (.tk 3 (.tk 4 (.tk 5 (.tk 6 (.tk 7 (.tk 8 (.tk 9 (.tk 10 (.tk 11 (.tk 12 (.tk 13 (.tk 14 (.tk 15 (.tk 16 (.tk 17 (.tk 18 (.done none))))))))))))))))))))) (.cond (.t 136) (.seq (.reg [.s (.mv 2 (.k (.v (.c .ff))))]) (.ret)) (.skip)))) (.reg [.s (.mv 116 (.t 16)), .s (.bin 117 .add (.t 116) (.k (.v (.c (.int .i64 1))))), .s (.mv 16 (.t 117))]))
def lb_laws_FnApart_2 : PC := .seq (.seq (.reg [.s (.mv 46 (.t 9)), .s (.bin 47 .lss (.t 46) (.k (.v (.c (.int .i64 2)))))]) (.cond (.t 47) (.skip) (.exit 0))) (.seq (.blk 1 (.seq (.reg [.s (.mv 50 (.t 3)), .s (.mv 10 (.t 50))]) (.seq (.seq (.reg [.s (.mv 51 (.t 9)), .s (.bin 52 .eql (.t 51) (.k (.v (.c (.int .i64 1)))))]) (.cond (.t 52) (.reg [.s (.mv 53 (.t 4)), .s (.mv 10 (.t 53))]) (.skip))) (.seq (.reg [.s (.load 54 true 18 (.t 5)), .s (.mv 55 (.t 9)), .s (.call (some 56) 42 [(.t 54), (.t 55)]), .s (.alloc 11 [.nils .word, .int .i64 0, .ff, .int .i64 0, .int .i64 0, .int .i64 0, .int .i64 0, .nils .word, .nils .bool, .int .i64 0]), .s (.store 10 (.t 11) (.t 56))]) (.seq (.rgd [] [.s (.bs 57 .word []), .s (.fa 58 (.t 11) 0), .s (.load 59 false 1 (.t 58)), .s (.app 60 .word (.t 57) (.t 59)), .s (.fa 61 (.t 11) 1), .s (.load 62 true 6 (.t 61)), .s (.bs 63 .word [(.t 62)]), .s (.app 64 .word (.t 60) (.t 63)), .s (.mv 12 (.t 64))] (.tk 1 (.tk 2 (.tk 4 (.tk 5 (.alt 0 false (.alt 3 false (.one 6 false (.one 7 true (.tk 8 (.done (some [3, 4, 5, 6, 8, 9, 10, 11, 12]))))) (.alt 6 false (.one 3 false (.one 7 true (.tk 8 (.done (some [3, 4, 5, 6, 8, 9, 10, 11, 12]))))) (.nil))) (.alt 6 false (.one 0 false (.one 3 false (.one 7 true (.tk 8 (.done (some [3, 4, 5, 6, 8, 9, 10, 11, 12])))))) (.nil)))))))) (.seq (.rgd [] [.s (.fa 65 (.t 5) 0), .s (.load 66 true 2 (.t 65)), .s (.mv 67 (.t 12)), .s (.call (some 68) 14 [(.t 66), (.t 67)]), .s (.fa 69 (.t 5) 0), .s (.load 70 true 2 (.t 69)), .s (.mv 71 (.t 12)), .s (.call (some 72) 15 [(.t 70), (.t 71)]), .s (.app 73 (.int .i64) (.t 68) (.t 72)), .s (.mv 13 (.t 73))] (.tk 0 (.tk 1 (.tk 2 (.tk 4 (.tk 5 (.tk 6 (.one 3 false (.one 7 true (.one 8 true (.tk 9 (.done none)))))))))))) (.seq (.seq (.reg [.s (.mv 14 (.k (.v (.c (.int .i64 0)))))]) (.blk 2 (.loop [3, 4, 5, 6, 8, 9, 10, 11, 13, 14] lb_laws_FnApart_0))) (.seq (.reg [.s (.load 89 true 18 (.t 8)), .s (.mv 90 (.t 9)), .s (.call (some 91) 42 [(.t 89), (.t 90)]), .s (.alloc 15 [.nils .word, .int .i64 0, .ff, .int .i64 0, .int .i64 0, .int .i64 0, .int .i64 0, .nils .word, .nils .bool, .int .i64 0]), .s (.store 10 (.t 15) (.t 91))]) (.seq (.seq (.reg [.s (.fa 92 (.t 11) 0), .s (.load 93 false 1 (.t 92)), .s (.fa 94 (.t 15) 0), .s (.load 95 false 1 (.t 94)), .s (.call (some 96) 51 [(.t 93), (.t 95)]), .s (.bnot 97 (.t 96)), .s (.mv 98 (.t 97)), .g 98 false (some 99) (.fa 99 (.t 11) 1), .g 98 false (some 100) (.load 100 true 6 (.t 99)), .g 98 false (some 101) (.fa 101 (.t 15) 1), .g 98 false (some 102) (.load 102 true 6 (.t 101)), .g 98 false (some 103) (.eqs 103 true [.i, .b, .i, .i, .i, .i] true (.t 100) (.t 102)), .s (.pick 104 (.t 98) (.k (.v (.c .tt))) (.t 103)), .s (.mv 105 (.t 104)), .g 105 false (some 106) (.fa 106 (.t 11) 9), .g 105 false (some 107) (.load 107 false 1 (.t 106)), .g 105 false (some 108) (.fa 108 (.t 15) 9), .g 105 false (some 109) (.load 109 false 1 (.t 108)), .g 105 false (some 110) (.bin 110 .neq (.t 107) (.t 109)), .s (.pick 111 (.t 105) (.k (.v (.c .tt))) (.t 110))]) (.cond (.t 111) (.seq (.reg [.s (.mv 2 (.k (.v (.c .ff))))]) (.ret)) (.skip))) (.seq (.reg [.s (.mv 16 (.k (.v (.c (.int .i64 0)))))]) (.blk 4 (.loop [3, 4, 5, 6, 8, 9, 11, 13, 15, 16] lb_laws_FnApart_1)))))))))))) (.reg [.s (.mv 48 (.t 9)), .s (.bin 49 .add (.t 48) (.k (.v (.c (.int .i64 1))))), .s (.mv 9 (.t 49))]))
def pf_laws_FnApart : PF := ⟨[.t 2], .seq (.reg [.s (.mv 2 (.k (.v (.c .ff))))]) (.seq (.seq (.reg [.s (.mv 17 (.t 0)), .s (.call (some 18) 10 [(.t 17)])]) (.cond (.t 18) (.seq (.reg [.s (.mv 2 (.k (.v (.c .tt))))]) (.ret)) (.skip))) (.seq (.reg [.s (.mv 20 (.t 0)), .s (.call (some 21) 47 [(.t 20)]), .s (.mv 19 (.t 21)), .s (.ext 22 (.t 19) 0), .s (.ext 23 (.t 19) 1), .s (.ext 24 (.t 19) 2), .s (.ext 25 (.t 19) 3), .s (.alloc 5 [.nils .word, .nils .bool, .nils .word, .int .i64 0, .ff, .int .i64 0, .int .i64 0, .int .i64 0, .int .i64 0, .int .i64 0, .nils .word, .int .i64 0, .ff, .int .i64 0, .int .i64 0, .int .i64 0, .int .i64 0, .int .i64 0]), .s (.mv 3 (.t 22)), .s (.mv 4 (.t 23)), .s (.store 18 (.t 5) (.t 24)), .s (.mv 6 (.t 25))]) (.seq (.reg [.s (.mv 26 (.t 0)), .s (.call (some 27) 48 [(.t 26)]), .s (.alloc 7 [.nils .word, .nils .bool, .nils .word, .int .i64 0, .ff, .int .i64 0, .int .i64 0, .int .i64 0, .int .i64 0, .int .i64 0, .nils .word, .int .i64 0, .ff, .int .i64 0, .int .i64 0, .int .i64 0, .int .i64 0, .int .i64 0]), .s (.store 18 (.t 7) (.t 27))]) (.seq (.seq (.rgd [] [.s (.load 28 true 18 (.t 7)), .s (.call (some 29) 49 [(.t 28)]), .s (.load 30 true 18 (.t 7)), .s (.call (some 31) 50 [(.t 30)]), .s (.eqs 32 false [.b] true (.t 29) (.t 31))] (.tk 0 (.tk 2 (.one 1 false (.one 3 true (.tk 4 (.done none))))))) (.cond (.t 32) (.seq (.reg [.s (.mv 2 (.k (.v (.c .ff))))]) (.ret)) (.skip))) (.seq (.seq (.reg [.s (.load 33 true 18 (.t 5)), .s (.call (some 34) 49 [(.t 33)]), .s (.bnot 35 (.t 34))]) (.cond (.t 35) (.seq (.rgd [] [.s (.load 36 true 18 (.t 5)), .s (.call (some 37) 49 [(.t 36)]), .s (.load 38 true 18 (.t 5)), .s (.call (some 39) 50 [(.t 38)]), .s (.eqs 40 false [.b] false (.t 37) (.t 39)), .s (.mv 2 (.t 40))] (.tk 0 (.tk 2 (.one 1 false (.one 3 true (.tk 4 (.tk 5 (.done none)))))))) (.ret)) (.skip))) (.seq (.reg [.s (.mv 41 (.t 3)), .s (.mv 42 (.t 4)), .s (.load 43 true 18 (.t 5)), .s (.mv 44 (.t 6)), .s (.call (some 45) 39 [(.t 41), (.t 42), (.t 43), (.t 44)]), .s (.alloc 8 [.nils .word, .nils .bool, .nils .word, .int .i64 0, .ff, .int .i64 0, .int .i64 0, .int .i64 0, .int .i64 0, .int .i64 0, .nils .word, .int .i64 0, .ff, .int .i64 0, .int .i64 0, .int .i64 0, .int .i64 0, .int .i64 0]), .s (.store 18 (.t 8) (.t 45))]) (.seq (.seq (.reg [.s (.mv 9 (.k (.v (.c (.int .i64 0)))))]) (.blk 0 (.loop [3, 4, 5, 6, 8, 9] lb_laws_FnApart_2))) (.seq (.reg [.s (.mv 2 (.k (.v (.c .tt))))]) (.ret)))))))))⟩
def c_laws_FnApart : Fun := ⟨8, [], fun ts K => as1 ts fun t0 => arC (pL (.int .u8)) t0 fun code => chk (code.length ≤ 9223372036854775807) (K (tB true) [])⟩
theorem run_laws_FnApart (FU : Nat) (code : List (FT.Ty (.int .u8))) (hpre : code.length ≤ 9223372036854775807) : runK [c_laws_big, c_impl_LoadCells, c_impl_StoreCells, c_impl_Step, c_impl_TwoRun, c_impl_SideState, c_spec_DrawBoth, c_spec_DrawApart, c_impl_Apart, c_spec_Apart, c_laws_sameWords] (100 + FU) [] pf_laws_FnApart [tL false (.int .u8) code] fun r o => r = tB true ∧ o = [] := by
  conv => whnf
  refine sel_i (fun h => ?_) (fun h => ?_) <;> conv => whnf
  · exact ⟨rfl, rfl⟩
  have hc : code.length ≤ 1048576 := by simp at h; omega
  clear h
  refine chk_i hc ?_
  conv => whnf
  repeat' (first | (refine sel_i (fun h => ?_) (fun h => ?_) <;> conv => whnf) | (refine chk_c ?_ ?_ <;> conv => whnf) | (refine And.intro ?_ rfl) | (refine And.intro ?_ ?_ <;> conv => whnf) | (intro x y z d hd; (try have g1 := And.left hd); (try have g2 := And.right hd); (try have g3 := And.left (And.right hd)); (try have g4 := And.right (And.right hd)); conv => whnf) | (intro x y d hd; (try have g1 := And.left hd); (try have g2 := And.right hd); (try have g3 := And.left (And.right hd)); (try have g4 := And.right (And.right hd)); conv => whnf) | (intro x d hd; (try have g1 := And.left hd); (try have g2 := And.right hd); (try have g3 := And.left (And.right hd)); (try have g4 := And.right (And.right hd)); conv => whnf) | (intro d hd; (try have g1 := And.left hd); (try have g2 := And.right hd); (try have g3 := And.left (And.right hd)); (try have g4 := And.right (And.right hd)); conv => whnf))
  all_goals (try simp only [etaKey, etaWord, etaMemory, etaState, etaSide, etaTwo] at *)
  all_goals first
    | rfl
    | trivial
    | (exact ⟨rfl, rfl⟩)
    | (refine ⟨?_⟩; assumption)
    | (exfalso; simp at h; done)
    | (refine ⟨?_⟩; exact LTwo.mono (by assumption) (by decide))
    | (refine ⟨?_⟩; exact (twoOk_l (by assumption)).mono (by decide))
    | (refine ⟨?_⟩; exact ⟨by omega, by omega, (twoOk_l (by assumption)).mono (by decide), by omega⟩)
    | (show _ = tB true; rw [beq_self_eq_true]; done)
    | skip
  rename_i od hod _ _ _ _ _
  obtain ⟨hod1, hzk, hod2, hod3⟩ := hod
  have hap : apartB z = true := by simpa using h
  have hend := apart_ends (a := x) (b := y) hap hod3 (by omega)
  have hzl : LTwo z 2147483647 := (twoOk_l hzk).mono (by decide)
  have hel : LTwo (twoRun x y z od) 2147483647 := twoRun_len hzl
  generalize twoRun x y z od = e at *
  clear h hap
  refine loop (α := Nat) (fun i => ⟨[(3, .v (.c (.sl false .inst 0))), (4, .v (.c (.sl false .inst 1))), (5, .v (.c (.ptr 2 0))), (6, .v (.c (.sl false (.int .i64) 7))), (8, .v (.c (.ptr 8 0))), (9, .v (.c (.int .i64 (i : Int))))],
        [(12, some (.flat true .word none e.b.regs)), (11, some (.flat true .word none e.a.regs)), (10, some (.flat true .bool none e.mem.gone)), (9, some (.flat true .word none e.mem.words)), (8, some (.box true (twoC e.mem e.a e.b 9 10 11 12))),
          (7, some (.flat true (.int .i64) none od)), (6, some (.flat true .word none z.b.regs)), (5, some (.flat true .word none z.a.regs)), (4, some (.flat true .bool none z.mem.gone)), (3, some (.flat true .word none z.mem.words)), (2, some (.box true (twoC z.mem z.a z.b 3 4 5 6))),
          (1, some (.flat true .inst none y)), (0, some (.flat true .inst none x))], nums.tail.tail.tail.tail.tail.tail.tail.tail.tail.tail.tail.tail.tail, [], false, []⟩)
      (fun i => i ≤ 2) (fun i => 2 - i) (fun i R hI hR => ?_) 0 _ (Nat.zero_le _) (by show 2 - 0 < 100 + FU; omega)
  conv => whnf
  refine sel_i (fun h => ?_) (fun h => ?_)
  rotate_left
  · conv => whnf
    exact ⟨rfl, rfl⟩
  have hi : i < 2 := by have := of_decide_eq_true h; omega
  have hE := hend i hi
  clear h hend
  conv => whnf
  refine sel_i (fun h => ?_) (fun h => ?_)
  · have h1 : (i : Int) = 1 := eq_of_beq h
    rw [if_pos h1] at hE
    clear h
    conv => whnf
    refine chk_i hzl ?_
    simp only [etaKey, etaWord, etaMemory, etaState, etaSide, etaTwo]
    have hs0 := side_ok hzk hi
    generalize sideState z (i : Int) = s0 at hE hs0 ⊢
    obtain ⟨n1, n2, n3⟩ := stateOk_len hs0
    have hzm := (twoOk_l hzk).1
    obtain ⟨hz1, hz2⟩ := hzm
    have hl2 : (hold s0).length = 9 := by simp [hold, n1]
    have hcn1 := cellsBy_le z.mem (hold s0) 1
    have hcn2 := cellsBy_le z.mem (hold s0) 2
    conv => whnf
    repeat' (first | (refine sel_i (fun h => ?_) (fun h => ?_) <;> conv => whnf) | (refine chk_c ?_ ?_ <;> conv => whnf) | (refine And.intro ?_ rfl) | (refine And.intro ?_ ?_ <;> conv => whnf))
    all_goals (try simp only [etaKey, etaWord, etaMemory, etaState, holdE] at *)
    all_goals first
      | trivial
      | (refine ⟨?_⟩; omega)
      | (refine ⟨?_⟩; show _ ≤ _; simp [n1]; done)
      | (refine ⟨?_⟩; exact ⟨⟨by omega, by omega⟩, by omega⟩)
      | skip
    generalize cellsBy z.mem (hold s0) 1 = C1 at *
    generalize cellsBy z.mem (hold s0) 2 = C2 at *
    refine loop (α := Nat × State) (fun q => ⟨[(3, .v (.c (.sl false .inst 0))), (4, .v (.c (.sl false .inst 1))), (5, .v (.c (.ptr 2 0))), (6, .v (.c (.sl false (.int .i64) 7))), (8, .v (.c (.ptr 8 0))), (9, .v (.c (.int .i64 (i : Int)))),
          (10, .v (.c (.sl false .inst 1))), (11, .v (.c (.ptr 13 0))), (13, .v (.c (.sl false (.int .i64) 17))), (14, .v (.c (.int .i64 (q.1 : Int))))],
        [(17, some (.flat true (.int .i64) none (C1 ++ C2))), (16, some (.flat true .bool none q.2.mem.gone)), (15, some (.flat true .word none q.2.mem.words)), (14, some (.flat true .word none q.2.regs)), (13, some (.box true (stC q.2 14 15 16 []))),
          (12, some (.flat true .word none e.b.regs)), (11, some (.flat true .word none e.a.regs)), (10, some (.flat true .bool none e.mem.gone)), (9, some (.flat true .word none e.mem.words)), (8, some (.box true (twoC e.mem e.a e.b 9 10 11 12))),
          (7, some (.flat true (.int .i64) none od)), (6, some (.flat true .word none z.b.regs)), (5, some (.flat true .word none z.a.regs)), (4, some (.flat true .bool none z.mem.gone)), (3, some (.flat true .word none z.mem.words)), (2, some (.box true (twoC z.mem z.a z.b 3 4 5 6))),
          (1, some (.flat true .inst none y)), (0, some (.flat true .inst none x))], nums.tail.tail.tail.tail.tail.tail.tail.tail.tail.tail.tail.tail.tail.tail.tail.tail.tail.tail, [], false, []⟩)
      (fun q => q.1 ≤ od.length ∧ stateOk q.2 = true ∧ EndOk C1 C2 (soloGo y i (od.drop q.1) q.2) (sideState e i)) (fun q => od.length - q.1) (fun q R2 hJ hR2 => ?_) (0, s0) _ ⟨Nat.zero_le _, hs0, hE⟩ (by show od.length - 0 < 100 + FU; omega)
    obtain ⟨j, v⟩ := q
    obtain ⟨hj, hv, hK⟩ := hJ
    dsimp only at hj hv hK ⊢
    have hvl := (stateOk_len hv).l
    conv => whnf
    refine sel_i (fun h => ?_) (fun h => ?_)
    · have hj2 : j < od.length := by have := of_decide_eq_true h; omega
      clear h
      rw [soloGo_step hj2] at hK
      conv => whnf
      repeat' (first | (refine sel_i (fun h => ?_) (fun h => ?_) <;> conv => whnf) | (refine chk_c ?_ ?_ <;> conv => whnf) | (refine And.intro ?_ rfl) | (refine And.intro ?_ ?_ <;> conv => whnf))
      all_goals (try simp only [etaKey, etaWord, etaMemory, etaState, Int.toNat_natCast] at *)
      all_goals first
        | (refine ⟨?_⟩; omega)
        | (refine ⟨?_⟩; exact ⟨by omega, hvl⟩)
        | (have h9 : od.getD j 0 = (i : Int) := eq_of_beq h; rw [if_pos h9] at hK; rw [wrap_id (n := (j : Int) + 1) (by omega) (by omega)]; exact hR2 (j + 1, stepS y v) ⟨hj2, stepS_ok hv, hK⟩ (by show od.length - (j + 1) < od.length - j; omega))
        | (have h9 : ¬ od.getD j 0 = (i : Int) := ne_of_beq_false h; rw [if_neg h9] at hK; rw [wrap_id (n := (j : Int) + 1) (by omega) (by omega)]; exact hR2 (j + 1, v) ⟨hj2, hv, hK⟩ (by show od.length - (j + 1) < od.length - j; omega))
        | trace_state
    have hj3 : od.length ≤ j := by have := of_decide_eq_false h; omega
    rw [List.drop_eq_nil_of_le hj3] at hK
    replace hK : EndOk C1 C2 v (sideState e i) := hK
    clear h hR2 hE hs0 hl2 n1 n2 n3
    conv => whnf
    refine chk_i hel ?_
    simp only [etaKey, etaWord, etaMemory, etaState, etaSide, etaTwo]
    generalize sideState e (i : Int) = e0 at *
    obtain ⟨n1, n2, n3⟩ := stateOk_len hv
    obtain ⟨k1, k2, k3⟩ := stateOk_len hK.oke
    conv => whnf
    repeat' (first | (refine sel_i (fun h => ?_) (fun h => ?_) <;> conv => whnf) | (refine chk_c ?_ ?_ <;> conv => whnf) | (refine And.intro ?_ rfl) | (refine And.intro ?_ ?_ <;> conv => whnf))
    all_goals (try simp only [eqWd, etaKey, etaWord, etaMemory, etaState, Int.toNat_natCast, Bool.not_eq_true', Bool.not_eq_false', decide_eq_true_eq, decide_eq_false_iff_not] at *)
    all_goals first
      | (refine ⟨?_⟩; exact ⟨by omega, by omega⟩)
      | (exfalso; exact h hK.regs)
      | (exfalso; exact h hK.pc)
      | (exfalso; have h5 : (v.trap != e0.trap) = true := (by assumption); rw [hK.trap] at h5; simp at h5; done)
      | skip
    refine loop (α := Nat) (fun k => ⟨[(3, .v (.c (.sl false .inst 0))), (4, .v (.c (.sl false .inst 1))), (5, .v (.c (.ptr 2 0))), (6, .v (.c (.sl false (.int .i64) 7))), (8, .v (.c (.ptr 8 0))), (9, .v (.c (.int .i64 (i : Int)))),
          (11, .v (.c (.ptr 13 0))), (13, .v (.c (.sl false (.int .i64) 17))), (15, .v (.c (.ptr 18 0))), (16, .v (.c (.int .i64 (k : Int))))],
        [(21, some (.flat true .bool none e0.mem.gone)), (20, some (.flat true .word none e0.mem.words)), (19, some (.flat true .word none e0.regs)), (18, some (.box true (stC e0 19 20 21 []))), (17, some (.flat true (.int .i64) none (C1 ++ C2))), (16, some (.flat true .bool none v.mem.gone)), (15, some (.flat true .word none v.mem.words)), (14, some (.flat true .word none v.regs)), (13, some (.box true (stC v 14 15 16 []))),
          (12, some (.flat true .word none e.b.regs)), (11, some (.flat true .word none e.a.regs)), (10, some (.flat true .bool none e.mem.gone)), (9, some (.flat true .word none e.mem.words)), (8, some (.box true (twoC e.mem e.a e.b 9 10 11 12))),
          (7, some (.flat true (.int .i64) none od)), (6, some (.flat true .word none z.b.regs)), (5, some (.flat true .word none z.a.regs)), (4, some (.flat true .bool none z.mem.gone)), (3, some (.flat true .word none z.mem.words)), (2, some (.box true (twoC z.mem z.a z.b 3 4 5 6))),
          (1, some (.flat true .inst none y)), (0, some (.flat true .inst none x))], nums.tail.tail.tail.tail.tail.tail.tail.tail.tail.tail.tail.tail.tail.tail.tail.tail.tail.tail.tail.tail.tail.tail, [], false, []⟩)
      (fun k => k ≤ (C1 ++ C2).length) (fun k => (C1 ++ C2).length - k) (fun k R2 hJ hR2 => ?_) 0 _ (Nat.zero_le _) (by show (C1 ++ C2).length - 0 < 100 + FU; rw [List.length_append]; omega)
    conv => whnf
    refine sel_i (fun h => ?_) (fun h => ?_)
    · have hk2 : k < (C1 ++ C2).length := by have := of_decide_eq_true h; omega
      clear h
      obtain ⟨hb, hm⟩ := hK.mine ((C1 ++ C2).getD k 0) (getD_memI hk2)
      conv => whnf
      repeat' (first | (refine sel_i (fun h => ?_) (fun h => ?_) <;> conv => whnf) | (refine chk_c ?_ ?_ <;> conv => whnf) | (refine And.intro ?_ rfl) | (refine And.intro ?_ ?_ <;> conv => whnf))
      all_goals (try simp only [eqWd, etaKey, etaWord, etaMemory, etaState, Int.toNat_natCast, Bool.not_eq_true', Bool.not_eq_false', decide_eq_true_eq, decide_eq_false_iff_not] at *)
      all_goals first
        | (refine ⟨?_⟩; omega)
        | (refine ⟨?_⟩; show _ ∧ _; refine ⟨?_, ?_⟩ <;> first | exact hb.1 | omega | (have := hb.2; show (C1 ++ C2).getD k 0 < _; omega))
        | (refine ⟨?_⟩; have := hb.2; have := hb.1; show ((C1 ++ C2).getD k 0).toNat < _; omega)
        | (exfalso; exact h hm)
        | (rw [wrap_id (n := (k : Int) + 1) (by rw [List.length_append] at hk2; omega) (by rw [List.length_append] at hk2; omega)]; exact hR2 (k + 1) hk2 (by show (C1 ++ C2).length - (k + 1) < (C1 ++ C2).length - k; omega))
        | trace_state
    clear h
    conv => whnf
    repeat' (first | (refine sel_i (fun h => ?_) (fun h => ?_) <;> conv => whnf) | (refine chk_c ?_ ?_ <;> conv => whnf) | (refine And.intro ?_ rfl) | (refine And.intro ?_ ?_ <;> conv => whnf))
    all_goals first
      | (rw [wrap_id (n := (i : Int) + 1) (by omega) (by omega)]; exact hR (i + 1) hi (by show 2 - (i + 1) < 2 - i; omega))
      | trace_state
  · have h1 : ¬ (i : Int) = 1 := fun q => by rw [q] at h; exact absurd h (by decide)
    rw [if_neg h1] at hE
    clear h
    conv => whnf
    refine chk_i hzl ?_
    simp only [etaKey, etaWord, etaMemory, etaState, etaSide, etaTwo]
    have hs0 := side_ok hzk hi
    generalize sideState z (i : Int) = s0 at hE hs0 ⊢
    obtain ⟨n1, n2, n3⟩ := stateOk_len hs0
    have hzm := (twoOk_l hzk).1
    obtain ⟨hz1, hz2⟩ := hzm
    have hl2 : (hold s0).length = 9 := by simp [hold, n1]
    have hcn1 := cellsBy_le z.mem (hold s0) 1
    have hcn2 := cellsBy_le z.mem (hold s0) 2
    conv => whnf
    repeat' (first | (refine sel_i (fun h => ?_) (fun h => ?_) <;> conv => whnf) | (refine chk_c ?_ ?_ <;> conv => whnf) | (refine And.intro ?_ rfl) | (refine And.intro ?_ ?_ <;> conv => whnf))
    all_goals (try simp only [etaKey, etaWord, etaMemory, etaState, holdE] at *)
    all_goals first
      | trivial
      | (refine ⟨?_⟩; omega)
      | (refine ⟨?_⟩; show _ ≤ _; simp [n1]; done)
      | (refine ⟨?_⟩; exact ⟨⟨by omega, by omega⟩, by omega⟩)
      | skip
    generalize cellsBy z.mem (hold s0) 1 = C1 at *
    generalize cellsBy z.mem (hold s0) 2 = C2 at *
    refine loop (α := Nat × State) (fun q => ⟨[(3, .v (.c (.sl false .inst 0))), (4, .v (.c (.sl false .inst 1))), (5, .v (.c (.ptr 2 0))), (6, .v (.c (.sl false (.int .i64) 7))), (8, .v (.c (.ptr 8 0))), (9, .v (.c (.int .i64 (i : Int)))),
          (10, .v (.c (.sl false .inst 0))), (11, .v (.c (.ptr 13 0))), (13, .v (.c (.sl false (.int .i64) 17))), (14, .v (.c (.int .i64 (q.1 : Int))))],
        [(17, some (.flat true (.int .i64) none (C1 ++ C2))), (16, some (.flat true .bool none q.2.mem.gone)), (15, some (.flat true .word none q.2.mem.words)), (14, some (.flat true .word none q.2.regs)), (13, some (.box true (stC q.2 14 15 16 []))),
          (12, some (.flat true .word none e.b.regs)), (11, some (.flat true .word none e.a.regs)), (10, some (.flat true .bool none e.mem.gone)), (9, some (.flat true .word none e.mem.words)), (8, some (.box true (twoC e.mem e.a e.b 9 10 11 12))),
          (7, some (.flat true (.int .i64) none od)), (6, some (.flat true .word none z.b.regs)), (5, some (.flat true .word none z.a.regs)), (4, some (.flat true .bool none z.mem.gone)), (3, some (.flat true .word none z.mem.words)), (2, some (.box true (twoC z.mem z.a z.b 3 4 5 6))),
          (1, some (.flat true .inst none y)), (0, some (.flat true .inst none x))], nums.tail.tail.tail.tail.tail.tail.tail.tail.tail.tail.tail.tail.tail.tail.tail.tail.tail.tail, [], false, []⟩)
      (fun q => q.1 ≤ od.length ∧ stateOk q.2 = true ∧ EndOk C1 C2 (soloGo x i (od.drop q.1) q.2) (sideState e i)) (fun q => od.length - q.1) (fun q R2 hJ hR2 => ?_) (0, s0) _ ⟨Nat.zero_le _, hs0, hE⟩ (by show od.length - 0 < 100 + FU; omega)
    obtain ⟨j, v⟩ := q
    obtain ⟨hj, hv, hK⟩ := hJ
    dsimp only at hj hv hK ⊢
    have hvl := (stateOk_len hv).l
    conv => whnf
    refine sel_i (fun h => ?_) (fun h => ?_)
    · have hj2 : j < od.length := by have := of_decide_eq_true h; omega
      clear h
      rw [soloGo_step hj2] at hK
      conv => whnf
      repeat' (first | (refine sel_i (fun h => ?_) (fun h => ?_) <;> conv => whnf) | (refine chk_c ?_ ?_ <;> conv => whnf) | (refine And.intro ?_ rfl) | (refine And.intro ?_ ?_ <;> conv => whnf))
      all_goals (try simp only [etaKey, etaWord, etaMemory, etaState, Int.toNat_natCast] at *)
      all_goals first
        | (refine ⟨?_⟩; omega)
        | (refine ⟨?_⟩; exact ⟨by omega, hvl⟩)
        | (have h9 : od.getD j 0 = (i : Int) := eq_of_beq h; rw [if_pos h9] at hK; rw [wrap_id (n := (j : Int) + 1) (by omega) (by omega)]; exact hR2 (j + 1, stepS x v) ⟨hj2, stepS_ok hv, hK⟩ (by show od.length - (j + 1) < od.length - j; omega))
        | (have h9 : ¬ od.getD j 0 = (i : Int) := ne_of_beq_false h; rw [if_neg h9] at hK; rw [wrap_id (n := (j : Int) + 1) (by omega) (by omega)]; exact hR2 (j + 1, v) ⟨hj2, hv, hK⟩ (by show od.length - (j + 1) < od.length - j; omega))
        | trace_state
    have hj3 : od.length ≤ j := by have := of_decide_eq_false h; omega
    rw [List.drop_eq_nil_of_le hj3] at hK
    replace hK : EndOk C1 C2 v (sideState e i) := hK
    clear h hR2 hE hs0 hl2 n1 n2 n3
    conv => whnf
    refine chk_i hel ?_
    simp only [etaKey, etaWord, etaMemory, etaState, etaSide, etaTwo]
    generalize sideState e (i : Int) = e0 at *
    obtain ⟨n1, n2, n3⟩ := stateOk_len hv
    obtain ⟨k1, k2, k3⟩ := stateOk_len hK.oke
    conv => whnf
    repeat' (first | (refine sel_i (fun h => ?_) (fun h => ?_) <;> conv => whnf) | (refine chk_c ?_ ?_ <;> conv => whnf) | (refine And.intro ?_ rfl) | (refine And.intro ?_ ?_ <;> conv => whnf))
    all_goals (try simp only [eqWd, etaKey, etaWord, etaMemory, etaState, Int.toNat_natCast, Bool.not_eq_true', Bool.not_eq_false', decide_eq_true_eq, decide_eq_false_iff_not] at *)
    all_goals first
      | (refine ⟨?_⟩; exact ⟨by omega, by omega⟩)
      | (exfalso; exact h hK.regs)
      | (exfalso; exact h hK.pc)
      | (exfalso; have h5 : (v.trap != e0.trap) = true := (by assumption); rw [hK.trap] at h5; simp at h5; done)
      | skip
    refine loop (α := Nat) (fun k => ⟨[(3, .v (.c (.sl false .inst 0))), (4, .v (.c (.sl false .inst 1))), (5, .v (.c (.ptr 2 0))), (6, .v (.c (.sl false (.int .i64) 7))), (8, .v (.c (.ptr 8 0))), (9, .v (.c (.int .i64 (i : Int)))),
          (11, .v (.c (.ptr 13 0))), (13, .v (.c (.sl false (.int .i64) 17))), (15, .v (.c (.ptr 18 0))), (16, .v (.c (.int .i64 (k : Int))))],
        [(21, some (.flat true .bool none e0.mem.gone)), (20, some (.flat true .word none e0.mem.words)), (19, some (.flat true .word none e0.regs)), (18, some (.box true (stC e0 19 20 21 []))), (17, some (.flat true (.int .i64) none (C1 ++ C2))), (16, some (.flat true .bool none v.mem.gone)), (15, some (.flat true .word none v.mem.words)), (14, some (.flat true .word none v.regs)), (13, some (.box true (stC v 14 15 16 []))),
          (12, some (.flat true .word none e.b.regs)), (11, some (.flat true .word none e.a.regs)), (10, some (.flat true .bool none e.mem.gone)), (9, some (.flat true .word none e.mem.words)), (8, some (.box true (twoC e.mem e.a e.b 9 10 11 12))),
          (7, some (.flat true (.int .i64) none od)), (6, some (.flat true .word none z.b.regs)), (5, some (.flat true .word none z.a.regs)), (4, some (.flat true .bool none z.mem.gone)), (3, some (.flat true .word none z.mem.words)), (2, some (.box true (twoC z.mem z.a z.b 3 4 5 6))),
          (1, some (.flat true .inst none y)), (0, some (.flat true .inst none x))], nums.tail.tail.tail.tail.tail.tail.tail.tail.tail.tail.tail.tail.tail.tail.tail.tail.tail.tail.tail.tail.tail.tail, [], false, []⟩)
      (fun k => k ≤ (C1 ++ C2).length) (fun k => (C1 ++ C2).length - k) (fun k R2 hJ hR2 => ?_) 0 _ (Nat.zero_le _) (by show (C1 ++ C2).length - 0 < 100 + FU; rw [List.length_append]; omega)
    conv => whnf
    refine sel_i (fun h => ?_) (fun h => ?_)
    · have hk2 : k < (C1 ++ C2).length := by have := of_decide_eq_true h; omega
      clear h
      obtain ⟨hb, hm⟩ := hK.mine ((C1 ++ C2).getD k 0) (getD_memI hk2)
      conv => whnf
      repeat' (first | (refine sel_i (fun h => ?_) (fun h => ?_) <;> conv => whnf) | (refine chk_c ?_ ?_ <;> conv => whnf) | (refine And.intro ?_ rfl) | (refine And.intro ?_ ?_ <;> conv => whnf))
      all_goals (try simp only [eqWd, etaKey, etaWord, etaMemory, etaState, Int.toNat_natCast, Bool.not_eq_true', Bool.not_eq_false', decide_eq_true_eq, decide_eq_false_iff_not] at *)
      all_goals first
        | (refine ⟨?_⟩; omega)
        | (refine ⟨?_⟩; show _ ∧ _; refine ⟨?_, ?_⟩ <;> first | exact hb.1 | omega | (have := hb.2; show (C1 ++ C2).getD k 0 < _; omega))
        | (refine ⟨?_⟩; have := hb.2; have := hb.1; show ((C1 ++ C2).getD k 0).toNat < _; omega)
        | (exfalso; exact h hm)
        | (rw [wrap_id (n := (k : Int) + 1) (by rw [List.length_append] at hk2; omega) (by rw [List.length_append] at hk2; omega)]; exact hR2 (k + 1) hk2 (by show (C1 ++ C2).length - (k + 1) < (C1 ++ C2).length - k; omega))
        | trace_state
    clear h
    conv => whnf
    repeat' (first | (refine sel_i (fun h => ?_) (fun h => ?_) <;> conv => whnf) | (refine chk_c ?_ ?_ <;> conv => whnf) | (refine And.intro ?_ rfl) | (refine And.intro ?_ ?_ <;> conv => whnf))
    all_goals first
      | (rw [wrap_id (n := (i : Int) + 1) (by omega) (by omega)]; exact hR (i + 1) hi (by show 2 - (i + 1) < 2 - i; omega))
      | trace_state
theorem ok_laws_FnApart : FunOk Tryz.prog c_laws_FnApart := funOk (E := [c_laws_big, c_impl_LoadCells, c_impl_StoreCells, c_impl_Step, c_impl_TwoRun, c_impl_SideState, c_spec_DrawBoth, c_spec_DrawApart, c_impl_Apart, c_spec_Apart, c_laws_sameWords]) (envOk_cons ok_laws_big (envOk_cons ok_impl_LoadCells (envOk_cons ok_impl_StoreCells (envOk_cons ok_impl_Step (envOk_cons ok_impl_TwoRun (envOk_cons ok_impl_SideState (envOk_cons ok_spec_DrawBoth (envOk_cons ok_spec_DrawApart (envOk_cons ok_impl_Apart (envOk_cons ok_spec_Apart (envOk_cons ok_laws_sameWords (envOk_nil)))))))))))) mixd Tryz.func8 (pf := pf_laws_FnApart) (by kernel_rfl) fun ts K h => by
  obtain ⟨t0, e0, h⟩ := as1_out h
  subst e0
  obtain ⟨code, e1, hq⟩ := arC_out (rd_l (.int .u8)) h
  clear h
  subst e1
  have h := hq
  clear hq
  obtain ⟨hpre, h⟩ := chk_o h
  exact ⟨_, _, h, Nat.le_of_ble_eq_true (show Nat.ble 1 Tryz.f8.ntmps = true by kernel_rfl), _, run_laws_FnApart 0 code hpre⟩

end Go.Pi
namespace Go.Proofs.YtkiokbkbgjomeaaGreat
open Go.Pi
theorem fnApart_lifted (os : Os) (started : os.Started) (H : Type) (enc : TypeId × Value → H) :
    ReturnsInHanded {} Tryz.checked os 8 .any (Rows.fnApartSpec.pre6 enc Tryz.prog Tryz.f8 Rows.fnApartRow.domain false) (Rows.fnApartSpec.post enc Tryz.prog Tryz.f8 false true false false) :=
  lifted (C := Tryz.checked) (E := [c_laws_big, c_impl_LoadCells, c_impl_StoreCells, c_impl_Step, c_impl_TwoRun, c_impl_SideState, c_spec_DrawBoth, c_spec_DrawApart, c_impl_Apart, c_spec_Apart, c_laws_sameWords]) (fuel := _) (pf := pf_laws_FnApart) (shs := [(false, [.sl (.int .u8)])]) (tb := 4) (by kernel_rfl) started (by kernel_rfl) Tryz.func8
    (ChangeSpec.witness6 (enc := enc) (C := Tryz.checked) false ⟨#[], #[.slice none 0 0], []⟩ 12 (by kernel_rfl) (by kernel_rfl) (by kernel_rfl) (by kernel_rfl))
    mixd (envOk_cons ok_laws_big (envOk_cons ok_impl_LoadCells (envOk_cons ok_impl_StoreCells (envOk_cons ok_impl_Step (envOk_cons ok_impl_TwoRun (envOk_cons ok_impl_SideState (envOk_cons ok_spec_DrawBoth (envOk_cons ok_spec_DrawApart (envOk_cons ok_impl_Apart (envOk_cons ok_spec_Apart (envOk_cons ok_laws_sameWords (envOk_nil)))))))))))) (by kernel_rfl) (by kernel_rfl) (by kernel_rfl) rfl (by kernel_rfl) rfl
    (fun ds h => by
      obtain _ | ⟨d0, ds⟩ := ds
      · simp at h
      obtain _ | ⟨x, ds⟩ := ds
      · rfl
      · simp at h)
    (fun ain h0 => by
      obtain ⟨T0, ain0, e, k0, h1⟩ := areCons h0
      subst e
      have e := areNil h1
      subst e
      obtain ⟨code, e, w0⟩ := isL k0
      subst e
      exact run_laws_FnApart 0 code (w0.2))
theorem fnApart_over : Rows.fnApartRow.holds Tryz.pinned (OpenSpec.ofChange Rows.fnApartSpec) :=
  OpenClaim.holds_of_wide 8 Tryz.f8 rfl rfl rfl rfl rfl rfl rfl ⟨rfl, rfl, rfl, rfl, rfl⟩ rfl rfl rfl rfl rfl (by kernel_rfl) Tryz.func8 (by kernel_rfl)
    (of_decide_eq_true (by kernel_rfl)) (by unfold Func.isWrapper; first | (rw [if_pos (by decide +kernel)]; kernel_rfl) | (rw [if_neg (by decide +kernel)]; exact ⟨rfl, rfl⟩))
    (fun os started H enc _ => fnApart_lifted os started H enc)
theorem fnApart_holds : Rows.FnApartSaid := fnApart_over
#print axioms fnApart_holds
end Go.Proofs.YtkiokbkbgjomeaaGreat
