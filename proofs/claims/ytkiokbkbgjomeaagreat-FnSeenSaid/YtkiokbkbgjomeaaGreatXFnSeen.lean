/- FnSeen: the given statement holds, out of the law's run by PI. No conditions. -/
import Derived.Test.YtkiokbkbgjomeaaGreatC7
namespace Go.Pi
open Go.Proofs
set_option linter.unusedVariables false
set_option linter.unusedSimpArgs false
set_option maxRecDepth 100000
attribute [local irreducible] iterN
def lb_laws_FnSeen_0 : PC := .seq (.seq (.reg [.s (.mv 52 (.t 10)), .s (.fa 53 (.t 4) 0), .s (.load 54 false 1 (.t 53)), .s (.len 55 false (.t 54)), .s (.bin 56 .lss (.t 52) (.t 55))]) (.cond (.t 56) (.skip) (.exit 0))) (.seq (.blk 1 (.seq (.rgd [] [.s (.fa 59 (.t 4) 0), .s (.load 60 false 1 (.t 59)), .s (.mv 61 (.t 10)), .s (.ia 62 .word (.t 60) (.t 61)), .s (.load 63 true 6 (.t 62)), .s (.fa 64 (.t 9) 0), .s (.load 65 false 1 (.t 64)), .s (.mv 66 (.t 10)), .s (.ia 67 .word (.t 65) (.t 66)), .s (.load 68 true 6 (.t 67)), .s (.eqs 69 true [.i, .b, .i, .i, .i, .i] true (.t 63) (.t 68)), .s (.mv 70 (.t 69)), .g 70 true (some 71) (.mv 71 (.t 10)), .g 70 true (some 72) (.fa 72 (.t 5) 1), .g 70 true (some 73) (.load 73 false 1 (.t 72)), .g 70 true (some 74) (.bin 74 .neq (.t 71) (.t 73)), .s (.pick 75 (.t 70) (.t 74) (.k (.v (.c .ff))))] (.tk 0 (.tk 1 (.tk 2 (.tk 3 (.tk 4 (.tk 5 (.tk 6 (.tk 7 (.tk 8 (.tk 9 (.tk 10 (.tk 11 (.tk 12 (.tk 13 (.tk 14 (.tk 15 (.tk 16 (.done none))))))))))))))))))) (.cond (.t 75) (.seq (.reg [.s (.mv 2 (.k (.v (.c .ff))))]) (.ret)) (.skip)))) (.reg [.s (.mv 57 (.t 10)), .s (.bin 58 .add (.t 57) (.k (.v (.c (.int .i64 1))))), .s (.mv 10 (.t 58))]))
def lb_laws_FnSeen_1 : PC := .seq (.seq (.reg [.s (.mv 76 (.t 11)), .s (.bin 77 .lss (.t 76) (.k (.v (.c (.int .i64 24)))))]) (.cond (.t 77) (.skip) (.exit 2))) (.seq (.blk 3 (.seq (.rgd [] [.s (.fa 80 (.t 4) 7), .s (.fa 81 (.t 80) 0), .s (.load 82 false 1 (.t 81)), .s (.mv 83 (.t 11)), .s (.ia 84 .word (.t 82) (.t 83)), .s (.load 85 true 6 (.t 84)), .s (.fa 86 (.t 9) 7), .s (.fa 87 (.t 86) 0), .s (.load 88 false 1 (.t 87)), .s (.mv 89 (.t 11)), .s (.ia 90 .word (.t 88) (.t 89)), .s (.load 91 true 6 (.t 90)), .s (.eqs 92 true [.i, .b, .i, .i, .i, .i] true (.t 85) (.t 91)), .s (.mv 93 (.t 92)), .g 93 true (some 94) (.mv 94 (.t 11)), .g 93 true (some 95) (.fa 95 (.t 5) 2), .g 93 true (some 96) (.load 96 false 1 (.t 95)), .g 93 true (some 97) (.bin 97 .neq (.t 94) (.t 96)), .s (.pick 98 (.t 93) (.t 97) (.k (.v (.c .ff))))] (.tk 0 (.tk 1 (.tk 2 (.tk 3 (.tk 4 (.tk 5 (.tk 6 (.tk 7 (.tk 8 (.tk 9 (.tk 10 (.tk 11 (.tk 12 (.tk 13 (.tk 14 (.tk 15 (.tk 16 (.tk 17 (.tk 18 (.done none))))))))))))))))))))) (.cond (.t 98) (.seq (.reg [.s (.mv 2 (.k (.v (.c .ff))))]) (.ret)) (.skip)))) (.reg [.s (.mv 78 (.t 11)), .s (.bin 79 .add (.t 78) (.k (.v (.c (.int .i64 1))))), .s (.mv 11 (.t 79))]))
def pf_laws_FnSeen : PF := ⟨[.t 2], .seq (.reg [.s (.mv 2 (.k (.v (.c .ff))))]) (.seq (.seq (.reg [.s (.mv 12 (.t 0)), .s (.call (some 13) 10 [(.t 12)])]) (.cond (.t 13) (.seq (.reg [.s (.mv 2 (.k (.v (.c .tt))))]) (.ret)) (.skip))) (.seq (.reg [.s (.mv 15 (.t 0)), .s (.call (some 16) 23 [(.t 15)]), .s (.mv 14 (.t 16)), .s (.ext 17 (.t 14) 0), .s (.ext 18 (.t 14) 1), .s (.alloc 4 [.nils .word, .int .i64 0, .ff, .int .i64 0, .int .i64 0, .int .i64 0, .int .i64 0, .nils .word, .nils .bool, .int .i64 0]), .s (.mv 3 (.t 17)), .s (.store 10 (.t 4) (.t 18))]) (.seq (.reg [.s (.mv 20 (.t 3)), .s (.load 21 true 10 (.t 4)), .s (.call (some 22) 24 [(.t 20), (.t 21)]), .s (.mv 19 (.t 22)), .s (.ext 23 (.t 19) 0), .s (.ext 24 (.t 19) 1), .s (.alloc 5 [.int .i64 0, .int .i64 0, .int .i64 0, .int .i64 0]), .s (.store 4 (.t 5) (.t 23)), .s (.mv 6 (.t 24))]) (.seq (.reg [.s (.mv 26 (.t 3)), .s (.load 27 true 10 (.t 4)), .s (.call (some 28) 25 [(.t 26), (.t 27)]), .s (.mv 25 (.t 28)), .s (.ext 29 (.t 25) 0), .s (.ext 30 (.t 25) 1), .s (.alloc 7 [.int .i64 0, .int .i64 0, .int .i64 0, .int .i64 0]), .s (.store 4 (.t 7) (.t 29)), .s (.mv 8 (.t 30))]) (.seq (.seq (.reg [.s (.load 31 true 4 (.t 5)), .s (.load 32 true 4 (.t 7)), .s (.eqs 33 true [.i, .i, .i, .i] true (.t 31) (.t 32)), .s (.mv 34 (.t 33)), .g 34 false (some 35) (.mv 35 (.t 6)), .g 34 false (some 36) (.mv 36 (.t 8)), .g 34 false (some 37) (.eqs 37 false [.b] true (.t 35) (.t 36)), .s (.pick 38 (.t 34) (.k (.v (.c .tt))) (.t 37))]) (.cond (.t 38) (.seq (.reg [.s (.mv 2 (.k (.v (.c .ff))))]) (.ret)) (.skip))) (.seq (.seq (.reg [.s (.mv 39 (.t 6)), .s (.bnot 40 (.t 39))]) (.cond (.t 40) (.seq (.reg [.s (.load 41 true 10 (.t 4)), .s (.call (some 42) 12 [(.t 41)]), .s (.bnot 43 (.t 42)), .s (.mv 44 (.t 43)), .g 44 false (some 45) (.fa 45 (.t 4) 9), .g 44 false (some 46) (.load 46 false 1 (.t 45)), .g 44 false (some 47) (.bin 47 .neq (.t 46) (.k (.v (.c (.int .i64 0))))), .s (.pick 48 (.t 44) (.k (.v (.c .tt))) (.t 47)), .s (.mv 2 (.t 48))]) (.ret)) (.skip))) (.seq (.reg [.s (.mv 49 (.t 3)), .s (.load 50 true 10 (.t 4)), .s (.call (some 51) 16 [(.t 49), (.t 50)]), .s (.alloc 9 [.nils .word, .int .i64 0, .ff, .int .i64 0, .int .i64 0, .int .i64 0, .int .i64 0, .nils .word, .nils .bool, .int .i64 0]), .s (.store 10 (.t 9) (.t 51))]) (.seq (.seq (.reg [.s (.mv 10 (.k (.v (.c (.int .i64 0)))))]) (.blk 0 (.loop [4, 5, 9, 10] lb_laws_FnSeen_0))) (.seq (.seq (.reg [.s (.mv 11 (.k (.v (.c (.int .i64 0)))))]) (.blk 2 (.loop [4, 5, 9, 11] lb_laws_FnSeen_1))) (.seq (.reg [.s (.fa 99 (.t 9) 9), .s (.load 100 false 1 (.t 99)), .s (.fa 101 (.t 5) 3), .s (.load 102 false 1 (.t 101)), .s (.bin 103 .eql (.t 100) (.t 102)), .s (.mv 104 (.t 103)), .g 104 true (some 105) (.fa 105 (.t 5) 3), .g 104 true (some 106) (.load 106 false 1 (.t 105)), .g 104 true (some 107) (.bin 107 .eql (.t 106) (.k (.v (.c (.int .i64 0))))), .g 104 true (some 108) (.mv 108 (.t 107)), .g 108 false (some 109) (.fa 109 (.t 5) 1), .g 108 false (some 110) (.load 110 false 1 (.t 109)), .g 108 false (some 111) (.bin 111 .eql (.t 110) (.k (.v (.c (.int .i64 (-1)))))), .g 108 false (some 112) (.mv 112 (.t 111)), .g 112 true (some 113) (.fa 113 (.t 5) 2), .g 112 true (some 114) (.load 114 false 1 (.t 113)), .g 112 true (some 115) (.bin 115 .eql (.t 114) (.k (.v (.c (.int .i64 (-1)))))), .g 108 false (some 116) (.pick 116 (.t 112) (.t 115) (.k (.v (.c .ff)))), .g 104 true (some 117) (.pick 117 (.t 108) (.k (.v (.c .tt))) (.t 116)), .s (.pick 118 (.t 104) (.t 117) (.k (.v (.c .ff)))), .s (.mv 2 (.t 118))]) (.ret)))))))))))⟩
def c_laws_FnSeen : Fun := ⟨5, [], fun ts K => as1 ts fun t0 => arC (pL (.int .u8)) t0 fun code => chk (code.length ≤ 9223372036854775807) (K (tB true) [])⟩
theorem run_laws_FnSeen (code : List (FT.Ty (.int .u8))) (hpre : code.length ≤ 9223372036854775807) : runK [c_laws_big, c_impl_StateOk, c_impl_Step, c_spec_DrawSeenOf, c_impl_SeenOf, c_spec_SeenOf] (100) [] pf_laws_FnSeen [tL false (.int .u8) code] fun r o => r = tB true ∧ o = [] := by
  conv => whnf
  refine sel_i (fun h => ?_) (fun h => ?_) <;> conv => whnf
  · exact ⟨rfl, rfl⟩
  have hc : code.length ≤ 1048576 := by simp at h; omega
  clear h
  refine chk_i hc ?_
  conv => whnf
  repeat' (first | (refine sel_i (fun h => ?_) (fun h => ?_) <;> conv => whnf) | (refine chk_c ?_ ?_ <;> conv => whnf) | (refine And.intro ?_ rfl) | (refine And.intro ?_ ?_ <;> conv => whnf) | (intro x y z d hd; (try have g1 := And.left hd); (try have g2 := And.right hd); (try have g3 := And.left (And.right hd)); (try have g4 := And.right (And.right hd)); conv => whnf) | (intro x y d hd; (try have g1 := And.left hd); (try have g2 := And.right hd); (try have g3 := And.left (And.right hd)); (try have g4 := And.right (And.right hd)); conv => whnf) | (intro x d hd; (try have g1 := And.left hd); (try have g2 := And.right hd); (try have g3 := And.left (And.right hd)); (try have g4 := And.right (And.right hd)); conv => whnf) | (intro d hd; (try have g1 := And.left hd); (try have g2 := And.right hd); (try have g3 := And.left (And.right hd)); (try have g4 := And.right (And.right hd)); conv => whnf))
  all_goals (try simp only [etaKey, etaWord, etaMemory, etaState] at *)
  all_goals first
    | rfl
    | trivial
    | (exact ⟨rfl, rfl⟩)
    | (refine ⟨?_⟩; exact ⟨by omega, LState.mono hd.2 (by decide)⟩)
    | (refine ⟨?_⟩; exact LState.mono hd.2 (by decide))
    | (exfalso; simp at h; done)
    | (have e1 : (seenOf x d).2 = false := by simpa using (by assumption : (!(seenOf x d).2) = true)
       have e2 : stateOk d = true := by simpa using h
       have e3 : ¬ d.trap = 0 := fun q => by rw [seenOf_0 e2 q] at e1; cases e1
       simp [e3]; done)
    | skip
  have e1 : (seenOf x d).2 = true := by simpa using h
  obtain ⟨hs, h0⟩ := seen_of e1
  have e2 := seenOf_0 (l := x) hs h0
  obtain ⟨n1, n2, n3⟩ := stateOk_len hs
  obtain ⟨k1, k2, k3⟩ := stateOk_len (stepS_ok (l := x) hs)
  simp only [e2]
  rename_i q1 q2
  clear h e1 q1 q2 e2
  refine loop (α := Nat) (fun i => ⟨[(4, .v (.c (.ptr 0 0))), (5, .v (.c (.ptr 4 0))), (9, .v (.c (.ptr 5 0))), (10, .v (.c (.int .i64 (i : Int))))],
        [(8, some (.flat true .bool none (stepS x d).mem.gone)), (7, some (.flat true .word none (stepS x d).mem.words)), (6, some (.flat true .word none (stepS x d).regs)), (5, some (.box true (stC (stepS x d) 6 7 8 []))),
          (4, some (.box true [.int .i64 d.pc.n, .int .i64 (effE x d).r, .int .i64 (effE x d).addr, .int .i64 (effE x d).trap])),
          (3, some (.flat true .bool none d.mem.gone)), (2, some (.flat true .word none d.mem.words)), (1, some (.flat true .word none d.regs)), (0, some (.box true (stC d 1 2 3 [])))], nums.tail.tail.tail.tail.tail.tail.tail.tail.tail, [], false, []⟩)
      (fun i => i ≤ 8) (fun i => 8 - i) (fun i R hI hR => ?_) 0 _ (Nat.zero_le _) (by show 8 - 0 < 100; decide)
  conv => whnf
  repeat' (first | (refine sel_i (fun h => ?_) (fun h => ?_) <;> conv => whnf) | (refine chk_c ?_ ?_ <;> conv => whnf) | (refine And.intro ?_ rfl) | (refine And.intro ?_ ?_ <;> conv => whnf))
  all_goals (try simp only [eqWd, etaKey, etaWord, etaMemory, etaState, Int.toNat_natCast, Bool.not_eq_true', Bool.not_eq_false', decide_eq_true_eq, decide_eq_false_iff_not] at *)
  all_goals first
    | (refine ⟨?_⟩; omega)
    | (exfalso; have h5 : ((i : Int) != (effE x d).r) = true := (by assumption); have hr := seen_reg hs h0 (by assumption); rw [hr] at h5; simp at h5; done)
    | (rw [wrap_id (n := (i : Int) + 1) (by omega) (by omega)]; exact hR (i + 1) (by omega) (by omega))
    | skip
  clear hR hI
  refine loop (α := Nat) (fun i => ⟨[(4, .v (.c (.ptr 0 0))), (5, .v (.c (.ptr 4 0))), (9, .v (.c (.ptr 5 0))), (11, .v (.c (.int .i64 (i : Int))))],
        [(8, some (.flat true .bool none (stepS x d).mem.gone)), (7, some (.flat true .word none (stepS x d).mem.words)), (6, some (.flat true .word none (stepS x d).regs)), (5, some (.box true (stC (stepS x d) 6 7 8 []))),
          (4, some (.box true [.int .i64 d.pc.n, .int .i64 (effE x d).r, .int .i64 (effE x d).addr, .int .i64 (effE x d).trap])),
          (3, some (.flat true .bool none d.mem.gone)), (2, some (.flat true .word none d.mem.words)), (1, some (.flat true .word none d.regs)), (0, some (.box true (stC d 1 2 3 [])))], nums.tail.tail.tail.tail.tail.tail.tail.tail.tail, [], false, []⟩)
      (fun i => i ≤ 24) (fun i => 24 - i) (fun i R hI hR => ?_) 0 _ (Nat.zero_le _) (by show 24 - 0 < 100; decide)
  conv => whnf
  repeat' (first | (refine sel_i (fun h => ?_) (fun h => ?_) <;> conv => whnf) | (refine chk_c ?_ ?_ <;> conv => whnf) | (refine And.intro ?_ rfl) | (refine And.intro ?_ ?_ <;> conv => whnf))
  all_goals (try simp only [eqWd, etaKey, etaWord, etaMemory, etaState, Int.toNat_natCast, Bool.not_eq_true', Bool.not_eq_false', decide_eq_true_eq, decide_eq_false_iff_not] at *)
  all_goals first
    | (refine ⟨?_⟩; omega)
    | (exfalso; have h5 : ((i : Int) != (effE x d).addr) = true := (by assumption); have hr := seen_cell hs h0 (by assumption); rw [hr] at h5; simp at h5; done)
    | (rw [wrap_id (n := (i : Int) + 1) (by omega) (by omega)]; exact hR (i + 1) (by omega) (by omega))
    | (exfalso; rw [stepS_tr hs h0] at *; simp_all; done)
    | (have h5 : ((effE x d).trap == 0) = false := (by assumption)
       obtain ⟨q1, q2⟩ := effE_quiet (l := x) (s := d) (fun q => by rw [q] at h5; cases h5)
       first
         | (have h6 : ((effE x d).r == -1) = false := (by assumption); rw [q1] at h6; cases h6)
         | (rw [q2]; rfl))
    | trace_state
theorem ok_laws_FnSeen : FunOk Tryz.prog c_laws_FnSeen := funOk (E := [c_laws_big, c_impl_StateOk, c_impl_Step, c_spec_DrawSeenOf, c_impl_SeenOf, c_spec_SeenOf]) (envOk_cons ok_laws_big (envOk_cons ok_impl_StateOk (envOk_cons ok_impl_Step (envOk_cons ok_spec_DrawSeenOf (envOk_cons ok_impl_SeenOf (envOk_cons ok_spec_SeenOf (envOk_nil))))))) mixd Tryz.func5 (pf := pf_laws_FnSeen) (by kernel_rfl) fun ts K h => by
  obtain ⟨t0, e0, h⟩ := as1_out h
  subst e0
  obtain ⟨code, e1, hq⟩ := arC_out (rd_l (.int .u8)) h
  clear h
  subst e1
  have h := hq
  clear hq
  obtain ⟨hpre, h⟩ := chk_o h
  exact ⟨_, _, h, Nat.le_of_ble_eq_true (show Nat.ble 1 Tryz.f5.ntmps = true by kernel_rfl), _, run_laws_FnSeen code hpre⟩

end Go.Pi
namespace Go.Proofs.YtkiokbkbgjomeaaGreat
open Go.Pi
theorem fnSeen_lifted (os : Os) (started : os.Started) (H : Type) (enc : TypeId × Value → H) :
    ReturnsInHanded {} Tryz.checked os 5 .any (Rows.fnSeenSpec.pre6 enc Tryz.prog Tryz.f5 Rows.fnSeenRow.domain false) (Rows.fnSeenSpec.post enc Tryz.prog Tryz.f5 false true false false) :=
  lifted (C := Tryz.checked) (E := [c_laws_big, c_impl_StateOk, c_impl_Step, c_spec_DrawSeenOf, c_impl_SeenOf, c_spec_SeenOf]) (fuel := _) (pf := pf_laws_FnSeen) (shs := [(false, [.sl (.int .u8)])]) (tb := 4) (by kernel_rfl) started (by kernel_rfl) Tryz.func5
    (ChangeSpec.witness6 (enc := enc) (C := Tryz.checked) false ⟨#[], #[.slice none 0 0], []⟩ 12 (by kernel_rfl) (by kernel_rfl) (by kernel_rfl) (by kernel_rfl))
    mixd (envOk_cons ok_laws_big (envOk_cons ok_impl_StateOk (envOk_cons ok_impl_Step (envOk_cons ok_spec_DrawSeenOf (envOk_cons ok_impl_SeenOf (envOk_cons ok_spec_SeenOf (envOk_nil))))))) (by kernel_rfl) (by kernel_rfl) (by kernel_rfl) rfl (by kernel_rfl) rfl
    (fun ds h => by
      obtain _ | ⟨d0, ds⟩ := ds
      · simp at h
      obtain _ | ⟨x, ds⟩ := ds
      · rfl
      · simp at h)
    (fun ain h0 => by
      obtain ⟨T0, ain0, e, k0, h1⟩ := areCons h0
      subst e
      have e := areNil h1
      subst e
      obtain ⟨code, e, w0⟩ := isL k0
      subst e
      exact run_laws_FnSeen code (w0.2))
theorem fnSeen_over : Rows.fnSeenRow.holds Tryz.pinned (OpenSpec.ofChange Rows.fnSeenSpec) :=
  OpenClaim.holds_of_wide 5 Tryz.f5 rfl rfl rfl rfl rfl rfl rfl ⟨rfl, rfl, rfl, rfl, rfl⟩ rfl rfl rfl rfl rfl (by kernel_rfl) Tryz.func5 (by kernel_rfl)
    (of_decide_eq_true (by kernel_rfl)) (by unfold Func.isWrapper; first | (rw [if_pos (by decide +kernel)]; kernel_rfl) | (rw [if_neg (by decide +kernel)]; exact ⟨rfl, rfl⟩))
    (fun os started H enc _ => fnSeen_lifted os started H enc)
theorem fnSeen_holds : Rows.FnSeenSaid := fnSeen_over
#print axioms fnSeen_holds
end Go.Proofs.YtkiokbkbgjomeaaGreat
