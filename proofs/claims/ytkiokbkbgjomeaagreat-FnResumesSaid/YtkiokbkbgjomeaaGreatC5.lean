/- Contracts of functions, each out of its run by PI. No conditions. -/
import Derived.Test.YtkiokbkbgjomeaaGreatC4
namespace Go.Pi
open Go.Proofs
set_option linter.unusedVariables false
set_option linter.unusedSimpArgs false
set_option maxRecDepth 100000
attribute [local irreducible] iterN
theorem list9 {zs : List Int} (h : zs.length = 9) : ∃ a b c d e p q r s, zs = [a, b, c, d, e, p, q, r, s] := by
  match zs, h with
  | [a, b, c, d, e, p, q, r, s], _ => exact ⟨a, b, c, d, e, p, q, r, s, rfl⟩
def five (xss : List (List Int)) (k : Int → Int → Int → Int → Int → Int → Int → Int → Int → Prop) : Prop := match xss with
  | [[a, b], [c], [d, e], [p, q], [r, s]] => k a b c d e p q r s
  | _ => False
theorem five_out {xss : List (List Int)} {k : Int → Int → Int → Int → Int → Int → Int → Int → Int → Prop} (h : five xss k) : ∃ a b c d e p q r s, xss = [[a, b], [c], [d, e], [p, q], [r, s]] ∧ k a b c d e p q r s := by
  unfold five at h
  split at h
  · exact ⟨_, _, _, _, _, _, _, _, _, rfl, h⟩
  · exact h.elim
def noneL (xs : List Int) (k : Prop) : Prop := match xs with | [] => k | _ :: _ => False
theorem noneL_out {xs : List Int} {k : Prop} (h : noneL xs k) : xs = [] ∧ k := by
  cases xs with
  | nil => exact ⟨rfl, h⟩
  | cons _ _ => exact h.elim

def lb_bytes_Join_0 : PC := .seq (.reg [.s (.bin 45 .lss (.t 44) (.t 43))]) (.seq (.cond (.t 45) (.skip) (.exit 0)) (.seq (.blk 1 (.seq (.reg [.s (.iar 46 (.t 42) (.t 44)), .s (.load 47 false 1 (.t 46)), .s (.mv 7 (.t 47))]) (.seq (.seq (.reg [.s (.mv 48 (.t 7)), .s (.len 49 false (.t 48)), .s (.mv 50 (.t 5)), .s (.bin 51 .sub (.k (.v (.c (.int .i64 9223372036854775807)))) (.t 50)), .s (.bin 52 .gtr (.t 49) (.t 51))]) (.cond (.t 52) (.reg [.s (.no), .s (.no)]) (.skip))) (.reg [.s (.mv 54 (.t 5)), .s (.mv 55 (.t 7)), .s (.len 56 false (.t 55)), .s (.bin 57 .add (.t 54) (.t 56)), .s (.mv 5 (.t 57))])))) (.reg [.s (.bin 58 .add (.t 44) (.k (.v (.c (.int .i64 1))))), .s (.mv 44 (.t 58))])))
def lb_bytes_Join_1 : PC := .seq (.reg [.s (.bin 73 .lss (.t 72) (.t 71))]) (.seq (.cond (.t 73) (.skip) (.exit 2)) (.seq (.blk 3 (.seq (.reg [.s (.iar 74 (.t 70) (.t 72)), .s (.load 75 false 1 (.t 74)), .s (.mv 11 (.t 75))]) (.seq (.reg [.s (.mv 76 (.t 9)), .s (.mv 77 (.t 8)), .s (.mv 78 (.t 9)), .s (.slc 79 (.int .u8) (.t 77) (some (.t 78)) none), .s (.mv 80 (.t 1)), .s (.cpy (some 81) (.int .u8) (.t 79) (.t 80)), .s (.bin 82 .add (.t 76) (.t 81)), .s (.mv 9 (.t 82))]) (.reg [.s (.mv 83 (.t 9)), .s (.mv 84 (.t 8)), .s (.mv 85 (.t 9)), .s (.slc 86 (.int .u8) (.t 84) (some (.t 85)) none), .s (.mv 87 (.t 11)), .s (.cpy (some 88) (.int .u8) (.t 86) (.t 87)), .s (.bin 89 .add (.t 83) (.t 88)), .s (.mv 9 (.t 89))])))) (.reg [.s (.bin 90 .add (.t 72) (.k (.v (.c (.int .i64 1))))), .s (.mv 72 (.t 90))])))
def pf_bytes_Join : PF := ⟨[.t 4], .seq (.reg [.s (.mv 4 (.k (.v (.c (.nils (.int .u8))))))]) (.seq (.seq (.reg [.s (.mv 12 (.t 0)), .s (.lenr 13 (.t 12)), .s (.bin 14 .eql (.t 13) (.k (.v (.c (.int .i64 0)))))]) (.cond (.t 14) (.seq (.reg [.s (.bs 15 (.int .u8) []), .s (.mv 4 (.t 15))]) (.ret)) (.skip))) (.seq (.seq (.reg [.s (.mv 16 (.t 0)), .s (.lenr 17 (.t 16)), .s (.bin 18 .eql (.t 17) (.k (.v (.c (.int .i64 1)))))]) (.cond (.t 18) (.seq (.reg [.s (.mv 19 (.t 0)), .s (.iar 20 (.t 19) (.k (.v (.c (.int .i64 0))))), .s (.load 21 false 1 (.t 20)), .s (.app 22 (.int .u8) (.k (.v (.c (.nils (.int .u8))))) (.t 21)), .s (.mv 4 (.t 22))]) (.ret)) (.skip))) (.seq (.reg [.s (.mv 5 (.k (.v (.c (.int .i64 0)))))]) (.seq (.seq (.reg [.s (.mv 23 (.t 1)), .s (.len 24 false (.t 23)), .s (.bin 25 .gtr (.t 24) (.k (.v (.c (.int .i64 0)))))]) (.cond (.t 25) (.seq (.seq (.reg [.s (.mv 26 (.t 1)), .s (.len 27 false (.t 26)), .s (.mv 28 (.t 0)), .s (.lenr 29 (.t 28)), .s (.bin 30 .sub (.t 29) (.k (.v (.c (.int .i64 1))))), .s (.bin 31 .quo (.k (.v (.c (.int .i64 9223372036854775807)))) (.t 30)), .s (.bin 32 .geq (.t 27) (.t 31))]) (.cond (.t 32) (.reg [.s (.no), .s (.no)]) (.skip))) (.reg [.s (.mv 34 (.t 5)), .s (.mv 35 (.t 1)), .s (.len 36 false (.t 35)), .s (.mv 37 (.t 0)), .s (.lenr 38 (.t 37)), .s (.bin 39 .sub (.t 38) (.k (.v (.c (.int .i64 1))))), .s (.bin 40 .mul (.t 36) (.t 39)), .s (.bin 41 .add (.t 34) (.t 40)), .s (.mv 5 (.t 41))])) (.skip))) (.seq (.seq (.reg [.s (.mv 42 (.t 0)), .s (.lenr 43 (.t 42)), .s (.mv 44 (.k (.v (.c (.int .i64 0)))))]) (.blk 0 (.loop [0, 1, 5, 42, 43, 44] lb_bytes_Join_0))) (.seq (.reg [.s (.mv 59 (.t 5)), .s (.call (some 60) 219 [(.t 59)]), .s (.mv 61 (.t 5)), .s (.mv 62 (.t 5)), .s (.slc3 63 (.int .u8) (.t 60) (.t 61) (.t 62)), .s (.mv 8 (.t 63))]) (.seq (.reg [.s (.mv 64 (.t 8)), .s (.mv 65 (.t 0)), .s (.iar 66 (.t 65) (.k (.v (.c (.int .i64 0))))), .s (.load 67 false 1 (.t 66)), .s (.cpy (some 68) (.int .u8) (.t 64) (.t 67)), .s (.mv 9 (.t 68))]) (.seq (.seq (.reg [.s (.mv 69 (.t 0)), .s (.slr 70 (.t 69) (.k (.v (.c (.int .i64 1))))), .s (.lenr 71 (.t 70)), .s (.mv 72 (.k (.v (.c (.int .i64 0)))))]) (.blk 2 (.loop [1, 8, 9, 70, 71, 72] lb_bytes_Join_1))) (.seq (.reg [.s (.mv 91 (.t 8)), .s (.mv 4 (.t 91))]) (.ret))))))))))⟩
def c_bytes_Join : Fun := ⟨170, [], fun ts K => as2 ts fun t0 t1 => arRB t0 fun xss => arC (pL (.int .u8)) t1 fun sep => noneL sep (five xss fun a b c d e p q r s => K (tL true (.int .u8) [a, b, c, d, e, p, q, r, s]) [])⟩
set_option maxHeartbeats 4000000 in
theorem run_bytes_Join (a b c d e p q r s : Int) : runK [c_bytealg_MakeNoZero] 10 [] pf_bytes_Join [.rows 5 [tl false (.int .u8) [a, b], tl false (.int .u8) [c], tl false (.int .u8) [d, e], tl false (.int .u8) [p, q], tl false (.int .u8) [r, s]], tL false (.int .u8) []] fun x o => x = tL true (.int .u8) [a, b, c, d, e, p, q, r, s] ∧ o = [] := by
  conv => whnf
  repeat' (first | (refine sel_i (fun h => ?_) (fun h => ?_) <;> first | (exfalso; revert h; decide) | conv => whnf) | (refine chk_c ?_ ?_ <;> conv => whnf) | (refine iter_s ?_; conv => whnf) | (refine And.intro ?_ rfl) | (refine And.intro ?_ ?_ <;> conv => whnf))
  all_goals (try first
    | (refine ⟨?_⟩; decide)
    | (refine ⟨?_⟩; simp only [List.length_cons, List.length_nil]; decide)
    | (refine ⟨?_⟩; simp only [List.length_cons, List.length_nil, IntKind.wrap_i64]; omega)
    | (exfalso; simp only [List.length_cons, List.length_nil, decide_eq_true_eq, decide_eq_false_iff_not, gt_iff_lt, IntKind.wrap_i64] at h; omega))
  intro zs hz
  have hz : zs.length = 9 := by
    simp only [List.length_cons, List.length_nil] at hz
    exact hz.trans (by decide)
  obtain ⟨z0, z1, z2, z3, z4, z5, z6, z7, z8, rfl⟩ := list9 hz
  clear hz
  conv => whnf
  repeat' (first | (refine sel_i (fun h => ?_) (fun h => ?_) <;> conv => whnf) | (refine chk_c ?_ ?_ <;> conv => whnf) | (refine And.intro ?_ rfl) | (refine And.intro ?_ ?_ <;> conv => whnf))
  all_goals (try first
    | (refine ⟨?_⟩; decide)
    | (refine ⟨?_⟩; simp only [List.length_cons, List.length_nil]; decide)
    | (refine ⟨?_⟩; simp only [List.length_cons, List.length_nil, IntKind.wrap_i64]; omega)
    | (exfalso; simp only [List.length_cons, List.length_nil, decide_eq_true_eq, decide_eq_false_iff_not, gt_iff_lt, IntKind.wrap_i64] at h; omega))
  refine loop (α := Nat) (fun j => ⟨[(1, .v (.c (.sl false (.int .u8) 0))), (8, .v (.c (.sl false (.int .u8) 1))), (9, .v (.c (.int .i64 (([2, 3, 5, 7, 9] : List Int).getD j 0)))), (70, .rows 2 1 4), (71, .v (.c (.int .i64 4))), (72, .v (.c (.int .i64 (j : Int))))],
      [(7, some (.flat false (.int .u8) none [r, s])), (6, some (.flat false (.int .u8) none [p, q])), (5, some (.flat false (.int .u8) none [d, e])), (4, some (.flat false (.int .u8) none [c])), (3, some (.flat false (.int .u8) none [a, b])),
       (2, some (.box false [.sl false (.int .u8) 3, .sl false (.int .u8) 4, .sl false (.int .u8) 5, .sl false (.int .u8) 6, .sl false (.int .u8) 7])),
       (1, some (.flat true (.int .u8) none (match j with | 0 => [a, b, z2, z3, z4, z5, z6, z7, z8] | 1 => [a, b, c, z3, z4, z5, z6, z7, z8] | 2 => [a, b, c, d, e, z5, z6, z7, z8] | 3 => [a, b, c, d, e, p, q, z7, z8] | _ => [a, b, c, d, e, p, q, r, s]))),
       (0, some (.flat false (.int .u8) none []))], nums.tail.tail.tail.tail.tail.tail.tail.tail, [], false, []⟩) (fun j => j ≤ 4) (fun j => 4 - j) (fun j R hI hR => ?_) 0 _ (show (0 : Nat) ≤ 4 by decide) (show 4 - 0 < 10 by decide)
  have hj : j = 0 ∨ j = 1 ∨ j = 2 ∨ j = 3 ∨ j = 4 := by omega
  rcases hj with rfl | rfl | rfl | rfl | rfl
  · conv => whnf
    repeat' (first | (refine sel_i (fun h => ?_) (fun h => ?_) <;> first | (exfalso; revert h; decide) | conv => whnf) | (refine chk_c ?_ ?_ <;> conv => whnf) | (refine iter_s ?_; conv => whnf) | (refine And.intro ?_ rfl) | (refine And.intro ?_ ?_ <;> conv => whnf))
    all_goals first
      | (refine ⟨?_⟩; decide)
      | (refine ⟨?_⟩; exact (show (0 : Int) ≤ 2 ∧ (2 : Int) ≤ 9 by decide))
      | exact hR 1 (by decide) (by decide)
      | trace_state
  · conv => whnf
    repeat' (first | (refine sel_i (fun h => ?_) (fun h => ?_) <;> first | (exfalso; revert h; decide) | conv => whnf) | (refine chk_c ?_ ?_ <;> conv => whnf) | (refine iter_s ?_; conv => whnf) | (refine And.intro ?_ rfl) | (refine And.intro ?_ ?_ <;> conv => whnf))
    all_goals first
      | (refine ⟨?_⟩; decide)
      | (refine ⟨?_⟩; exact (show (0 : Int) ≤ 3 ∧ (3 : Int) ≤ 9 by decide))
      | exact hR 2 (by decide) (by decide)
      | trace_state
  · conv => whnf
    repeat' (first | (refine sel_i (fun h => ?_) (fun h => ?_) <;> first | (exfalso; revert h; decide) | conv => whnf) | (refine chk_c ?_ ?_ <;> conv => whnf) | (refine iter_s ?_; conv => whnf) | (refine And.intro ?_ rfl) | (refine And.intro ?_ ?_ <;> conv => whnf))
    all_goals first
      | (refine ⟨?_⟩; decide)
      | (refine ⟨?_⟩; exact (show (0 : Int) ≤ 5 ∧ (5 : Int) ≤ 9 by decide))
      | exact hR 3 (by decide) (by decide)
      | trace_state
  · conv => whnf
    repeat' (first | (refine sel_i (fun h => ?_) (fun h => ?_) <;> first | (exfalso; revert h; decide) | conv => whnf) | (refine chk_c ?_ ?_ <;> conv => whnf) | (refine iter_s ?_; conv => whnf) | (refine And.intro ?_ rfl) | (refine And.intro ?_ ?_ <;> conv => whnf))
    all_goals first
      | (refine ⟨?_⟩; decide)
      | (refine ⟨?_⟩; exact (show (0 : Int) ≤ 7 ∧ (7 : Int) ≤ 9 by decide))
      | exact hR 4 (by decide) (by decide)
      | trace_state
  · conv => whnf
    repeat' (first | (refine sel_i (fun h => ?_) (fun h => ?_) <;> first | (exfalso; revert h; decide) | conv => whnf) | (refine chk_c ?_ ?_ <;> conv => whnf) | (refine iter_s ?_; conv => whnf) | (refine And.intro ?_ rfl) | (refine And.intro ?_ ?_ <;> conv => whnf))
    all_goals first
      | (refine ⟨?_⟩; decide)
      | exact ⟨rfl, rfl⟩
      | rfl
      | trace_state
theorem ok_bytes_Join : FunOk Tryz.prog c_bytes_Join := funOk (E := [c_bytealg_MakeNoZero]) (envOk_cons ok_bytealg_MakeNoZero envOk_nil) mixd Tryz.func170 (pf := pf_bytes_Join) (by kernel_rfl) fun ts K h => by
  obtain ⟨t0, t1, e0, hp⟩ := as2_out h
  clear h
  subst e0
  obtain ⟨xss, e1, hq⟩ := arRB_out hp
  clear hp
  subst e1
  obtain ⟨sep, e2, hr⟩ := arC_out (rd_l (.int .u8)) hq
  clear hq
  subst e2
  obtain ⟨e3, h2⟩ := noneL_out hr
  clear hr
  have e3 : sep = [] := e3
  subst e3
  obtain ⟨a, b, c, d, e, p, q, r, s, e4, h3⟩ := five_out h2
  clear h2
  subst e4
  exact ⟨_, _, h3, Nat.le_of_ble_eq_true (show Nat.ble 2 Tryz.f170.ntmps = true by kernel_rfl), _, run_bytes_Join a b c d e p q r s⟩

theorem hi8s {n : Int} : IntKind.u8.wrap (n.fdiv (2 ^ min (Int.toNat 8) IntKind.i64.bits)) = (n / 256) % 256 := by
  rw [show (2 ^ min (Int.toNat 8) IntKind.i64.bits : Int) = 256 by decide, Int.fdiv_eq_ediv_of_nonneg _ (by decide)]
  rfl

def pf_impl_two : PF := ⟨[.t 2], .seq (.reg [.s (.mv 2 (.k (.v (.c (.nils (.int .u8))))))]) (.seq (.reg [.s (.mv 3 (.t 0)), .s (.bin 4 .shr (.t 3) (.k (.v (.c (.int .u64 8))))), .s (.conv 5 .u8 (.t 4)), .s (.mv 6 (.t 0)), .s (.conv 7 .u8 (.t 6)), .s (.bs 8 (.int .u8) [(.t 5), (.t 7)]), .s (.mv 2 (.t 8))]) (.ret))⟩
def c_impl_two : Fun := ⟨169, [], fun ts K => as1 ts fun t0 => arC (pI .i64) t0 fun n => K (tL true (.int .u8) [(n / 256) % 256, n % 256]) []⟩
theorem run_impl_two (n : Int) : runK [] (0) [] pf_impl_two [tI .i64 n] fun r o => r = tL true (.int .u8) [(n / 256) % 256, n % 256] ∧ o = [] := by
  conv => whnf
  repeat' (first | (refine sel_i (fun h => ?_) (fun h => ?_) <;> conv => whnf) | (refine chk_c ?_ ?_ <;> conv => whnf) | (refine And.intro ?_ rfl) | (refine And.intro ?_ ?_ <;> conv => whnf))
  all_goals (try simp only [hi8s])
  all_goals first
    | (refine ⟨?_⟩; decide)
    | rfl
    | trace_state
theorem ok_impl_two : FunOk Tryz.prog c_impl_two := funOk (E := []) (envOk_nil) mixd Tryz.func169 (pf := pf_impl_two) (by kernel_rfl) fun ts K h => by
  obtain ⟨t0, e0, h⟩ := as1_out h
  subst e0
  obtain ⟨n, e1, hq⟩ := arC_out (rd_int .i64) h
  clear h
  subst e1
  have h := hq
  clear hq
  exact ⟨_, _, h, Nat.le_of_ble_eq_true (show Nat.ble 1 Tryz.f169.ntmps = true by kernel_rfl), _, run_impl_two n⟩

def pf_impl_WordBytes : PF := ⟨[.t 2], .seq (.reg [.s (.box 1 (.t 0)), .s (.mv 2 (.k (.v (.c (.nils (.int .u8))))))]) (.seq (.seq (.reg [.s (.load 3 true 6 (.t 1)), .s (.call (some 4) 69 [(.t 3)]), .s (.bnot 5 (.t 4))]) (.cond (.t 5) (.seq (.reg [.s (.mv 2 (.k (.v (.c (.nils (.int .u8))))))]) (.ret)) (.skip))) (.seq (.seq (.reg [.s (.fa 6 (.t 1) 1), .s (.load 7 false 1 (.t 6)), .s (.bnot 8 (.t 7))]) (.cond (.t 8) (.seq (.reg [.s (.fa 9 (.t 1) 0), .s (.load 10 false 1 (.t 9)), .s (.call (some 11) 169 [(.t 10)]), .s (.bs 12 (.int .u8) [(.k (.v (.c (.int .u8 0))))]), .s (.app 13 (.int .u8) (.t 11) (.t 12)), .s (.mv 2 (.t 13))]) (.ret)) (.skip))) (.seq (.rgd [] [.s (.fa 14 (.t 1) 0), .s (.load 15 false 1 (.t 14)), .s (.call (some 16) 169 [(.t 15)]), .s (.bs 17 (.int .u8) [(.k (.v (.c (.int .u8 1))))]), .s (.fa 18 (.t 1) 2), .s (.fa 19 (.t 18) 0), .s (.load 20 false 1 (.t 19)), .s (.call (some 21) 169 [(.t 20)]), .s (.fa 22 (.t 1) 2), .s (.fa 23 (.t 22) 1), .s (.load 24 false 1 (.t 23)), .s (.call (some 25) 169 [(.t 24)]), .s (.fa 26 (.t 1) 2), .s (.fa 27 (.t 26) 2), .s (.load 28 false 1 (.t 27)), .s (.conv 29 .u8 (.t 28)), .s (.fa 30 (.t 1) 2), .s (.fa 31 (.t 30) 3), .s (.load 32 false 1 (.t 31)), .s (.conv 33 .u8 (.t 32)), .s (.bs 34 (.int .u8) [(.t 29), (.t 33)]), .s (.bsr 35 [(.t 16), (.t 17), (.t 21), (.t 25), (.t 34)]), .s (.call (some 36) 170 [(.t 35), (.k (.v (.c (.nils (.int .u8)))))]), .s (.mv 2 (.t 36))] (.tk 0 (.tk 1 (.tk 4 (.tk 5 (.tk 6 (.tk 8 (.tk 9 (.tk 10 (.tk 12 (.tk 13 (.tk 14 (.tk 15 (.tk 16 (.tk 17 (.tk 18 (.tk 19 (.alt 2 false (.alt 3 false (.alt 7 false (.alt 11 false (.one 20 false (.one 21 true (.one 22 true (.tk 23 (.done (some [2])))))) (.alt 20 false (.one 11 false (.one 21 true (.one 22 true (.tk 23 (.done (some [2])))))) (.nil))) (.alt 20 false (.one 7 false (.one 11 false (.one 21 true (.one 22 true (.tk 23 (.done (some [2]))))))) (.nil))) (.alt 7 false (.alt 3 false (.alt 11 false (.one 20 false (.one 21 true (.one 22 true (.tk 23 (.done (some [2])))))) (.alt 20 false (.one 11 false (.one 21 true (.one 22 true (.tk 23 (.done (some [2])))))) (.nil))) (.alt 11 false (.alt 3 false (.one 20 false (.one 21 true (.one 22 true (.tk 23 (.done (some [2])))))) (.alt 20 false (.one 3 false (.one 21 true (.one 22 true (.tk 23 (.done (some [2])))))) (.nil))) (.alt 20 false (.alt 3 false (.one 11 false (.one 21 true (.one 22 true (.tk 23 (.done (some [2])))))) (.alt 11 false (.one 3 false (.one 21 true (.one 22 true (.tk 23 (.done (some [2])))))) (.nil))) (.nil)))) (.alt 20 false (.alt 3 false (.one 7 false (.one 11 false (.one 21 true (.one 22 true (.tk 23 (.done (some [2]))))))) (.alt 7 false (.alt 3 false (.one 11 false (.one 21 true (.one 22 true (.tk 23 (.done (some [2])))))) (.alt 11 false (.one 3 false (.one 21 true (.one 22 true (.tk 23 (.done (some [2])))))) (.nil))) (.nil))) (.nil)))) (.alt 3 false (.alt 2 false (.alt 7 false (.alt 11 false (.one 20 false (.one 21 true (.one 22 true (.tk 23 (.done (some [2])))))) (.alt 20 false (.one 11 false (.one 21 true (.one 22 true (.tk 23 (.done (some [2])))))) (.nil))) (.alt 20 false (.one 7 false (.one 11 false (.one 21 true (.one 22 true (.tk 23 (.done (some [2]))))))) (.nil))) (.alt 20 false (.one 2 false (.one 7 false (.one 11 false (.one 21 true (.one 22 true (.tk 23 (.done (some [2])))))))) (.nil))) (.alt 20 false (.alt 2 false (.alt 3 false (.one 7 false (.one 11 false (.one 21 true (.one 22 true (.tk 23 (.done (some [2]))))))) (.alt 7 false (.alt 3 false (.one 11 false (.one 21 true (.one 22 true (.tk 23 (.done (some [2])))))) (.alt 11 false (.one 3 false (.one 21 true (.one 22 true (.tk 23 (.done (some [2])))))) (.nil))) (.nil))) (.alt 3 false (.one 2 false (.one 7 false (.one 11 false (.one 21 true (.one 22 true (.tk 23 (.done (some [2])))))))) (.nil))) (.nil))))))))))))))))))))) (.ret))))⟩
def c_impl_WordBytes : Fun := ⟨97, [], fun ts K => as1 ts fun t0 => arG pWordT t0 fun w => K (tL true (.int .u8) (wordBytes w)) []⟩
theorem run_impl_WordBytes (w : Word) : runK [c_impl_WordOk, c_impl_two, c_bytes_Join] (0) [] pf_impl_WordBytes [tG (w.tc [])] fun r o => r = tL true (.int .u8) (wordBytes w) ∧ o = [] := by
  conv => whnf
  repeat' (first | (refine sel_i (fun h => ?_) (fun h => ?_) <;> conv => whnf) | (refine chk_c ?_ ?_ <;> conv => whnf) | (refine And.intro ?_ rfl) | (refine And.intro ?_ ?_ <;> conv => whnf))
  all_goals (try simp only [etaKey, etaWord, Bool.not_eq_true', Bool.not_eq_false'] at *)
  all_goals first
    | (refine ⟨?_⟩; show 3 ≤ 2147483647; decide)
    | trivial
    | (simp only [wordBytes, *]; rfl)
    | (rename_i h1
       have h2 := h
       have hn := wordOk_n h1
       rw [show w.n / 256 % 256 = w.n / 256 by omega]
       simp only [wordBytes, h1, h2, if_true, Bool.false_eq_true, if_false]; rfl)
    | (have h1 : wordOk w = true := by assumption
       have h2 := h
       have hn := wordOk_n h1
       have hk := wordOk_key h1 h2
       rw [show w.n / 256 % 256 = w.n / 256 by omega, show w.key.base / 256 % 256 = w.key.base / 256 by omega, show w.key.top / 256 % 256 = w.key.top / 256 by omega, u8_id (n := w.key.perms) (by omega), u8_id (n := w.key.sealed) (by omega)]
       simp only [wordBytes, h1, h2, if_true]; done)
    | trace_state
theorem ok_impl_WordBytes : FunOk Tryz.prog c_impl_WordBytes := funOk (E := [c_impl_WordOk, c_impl_two, c_bytes_Join]) (envOk_cons ok_impl_WordOk (envOk_cons ok_impl_two (envOk_cons ok_bytes_Join (envOk_nil)))) mixd Tryz.func97 (pf := pf_impl_WordBytes) (by kernel_rfl) fun ts K h => by
  obtain ⟨t0, e0, h⟩ := as1_out h
  subst e0
  obtain ⟨w, e1, hq⟩ := arG_out rd_word h
  clear h
  subst e1
  have h := hq
  clear hq
  exact ⟨_, _, h, Nat.le_of_ble_eq_true (show Nat.ble 1 Tryz.f97.ntmps = true by kernel_rfl), _, run_impl_WordBytes w⟩

theorem wordBytes_len (w : Word) : (wordBytes w).length ≤ 9 := by
  unfold wordBytes
  split
  · split <;> simp
  · simp


def wordsBytes (ws : List Word) : List Int := ws.flatMap wordBytes
def goneByte (b : Bool) : Int := if b then 1 else 0
def goneBytes (g : List Bool) : List Int := g.map goneByte
def stateBytes (s : State) : List Int :=
  if stateOk s then wordsBytes s.regs ++ wordBytes s.pc ++ wordsBytes s.mem.words ++ goneBytes s.mem.gone ++ [s.trap] else []
theorem wordsBytes_len : ∀ ws : List Word, (wordsBytes ws).length ≤ 9 * ws.length
  | [] => Nat.le_refl _
  | w :: ws => by
    have h1 := wordsBytes_len ws
    have h2 := wordBytes_len w
    unfold wordsBytes at *
    simp only [List.flatMap_cons, List.length_append, List.length_cons]; omega
theorem wordsBytes_app (a b : List Word) : wordsBytes (a ++ b) = wordsBytes a ++ wordsBytes b := List.flatMap_append
theorem wordsBytes_one (w : Word) : wordsBytes [w] = wordBytes w := by simp [wordsBytes]
theorem goneBytes_len (g : List Bool) : (goneBytes g).length = g.length := by simp [goneBytes]
theorem take_next {α : Type} {xs : List α} {i : Nat} {z : α} (h : i < xs.length) : xs.take (i + 1) = xs.take i ++ [xs.getD i z] := by
  rw [List.take_succ_eq_append_getElem h]; simp [List.getD_eq_getElem?_getD, h]
theorem wordsBytes_step {ws : List Word} {i : Nat} {z : Word} (h : i < ws.length) : wordsBytes (ws.take (i + 1)) = wordsBytes (ws.take i) ++ wordBytes (ws.getD i z) := by
  rw [take_next (z := z) h, wordsBytes_app, wordsBytes_one]
theorem goneBytes_step {g : List Bool} {i : Nat} {z : Bool} (h : i < g.length) : goneBytes (g.take (i + 1)) = goneBytes (g.take i) ++ [goneByte (g.getD i z)] := by
  rw [take_next (z := z) h]; simp [goneBytes]
theorem stateBytes_no {s : State} (h : stateOk s = false) : stateBytes s = [] := by unfold stateBytes; rw [h]; rfl
theorem stateBytes_ok {s : State} (h : stateOk s = true) : stateBytes s = wordsBytes s.regs ++ wordBytes s.pc ++ wordsBytes s.mem.words ++ goneBytes s.mem.gone ++ [s.trap] := if_pos h

def lb_impl_StateBytes_0 : PC := .seq (.reg [.s (.bin 18 .lss (.t 17) (.t 16))]) (.seq (.cond (.t 18) (.skip) (.exit 0)) (.seq (.blk 1 (.seq (.reg [.s (.ia 19 .word (.t 15) (.t 17)), .s (.load 20 true 6 (.t 19)), .s (.alloc 5 [.int .i64 0, .ff, .int .i64 0, .int .i64 0, .int .i64 0, .int .i64 0]), .s (.store 6 (.t 5) (.t 20))]) (.reg [.s (.mv 21 (.t 3)), .s (.load 22 true 6 (.t 5)), .s (.call (some 23) 97 [(.t 22)]), .s (.app 24 (.int .u8) (.t 21) (.t 23)), .s (.mv 3 (.t 24))]))) (.reg [.s (.bin 25 .add (.t 17) (.k (.v (.c (.int .i64 1))))), .s (.mv 17 (.t 25))])))
def lb_impl_StateBytes_1 : PC := .seq (.reg [.s (.bin 36 .lss (.t 35) (.t 34))]) (.seq (.cond (.t 36) (.skip) (.exit 2)) (.seq (.blk 3 (.seq (.reg [.s (.ia 37 .word (.t 33) (.t 35)), .s (.load 38 true 6 (.t 37)), .s (.alloc 7 [.int .i64 0, .ff, .int .i64 0, .int .i64 0, .int .i64 0, .int .i64 0]), .s (.store 6 (.t 7) (.t 38))]) (.reg [.s (.mv 39 (.t 3)), .s (.load 40 true 6 (.t 7)), .s (.call (some 41) 97 [(.t 40)]), .s (.app 42 (.int .u8) (.t 39) (.t 41)), .s (.mv 3 (.t 42))]))) (.reg [.s (.bin 43 .add (.t 35) (.k (.v (.c (.int .i64 1))))), .s (.mv 35 (.t 43))])))
def lb_impl_StateBytes_2 : PC := .seq (.reg [.s (.bin 49 .lss (.t 48) (.t 47))]) (.seq (.cond (.t 49) (.skip) (.exit 4)) (.seq (.blk 5 (.seq (.reg [.s (.ia 50 .bool (.t 46) (.t 48)), .s (.load 51 false 1 (.t 50)), .s (.mv 9 (.t 51))]) (.seq (.reg [.s (.mv 52 (.t 9))]) (.cond (.t 52) (.reg [.s (.mv 53 (.t 3)), .s (.bs 54 (.int .u8) [(.k (.v (.c (.int .u8 1))))]), .s (.app 55 (.int .u8) (.t 53) (.t 54)), .s (.mv 3 (.t 55))]) (.reg [.s (.mv 56 (.t 3)), .s (.bs 57 (.int .u8) [(.k (.v (.c (.int .u8 0))))]), .s (.app 58 (.int .u8) (.t 56) (.t 57)), .s (.mv 3 (.t 58))]))))) (.reg [.s (.bin 59 .add (.t 48) (.k (.v (.c (.int .i64 1))))), .s (.mv 48 (.t 59))])))
def pf_impl_StateBytes : PF := ⟨[.t 2], .seq (.reg [.s (.box 1 (.t 0)), .s (.mv 2 (.k (.v (.c (.nils (.int .u8))))))]) (.seq (.seq (.reg [.s (.load 10 true 10 (.t 1)), .s (.call (some 11) 12 [(.t 10)]), .s (.bnot 12 (.t 11))]) (.cond (.t 12) (.seq (.reg [.s (.mv 2 (.k (.v (.c (.nils (.int .u8))))))]) (.ret)) (.skip))) (.seq (.reg [.s (.bs 13 (.int .u8) []), .s (.mv 3 (.t 13))]) (.seq (.seq (.reg [.s (.fa 14 (.t 1) 0), .s (.load 15 false 1 (.t 14)), .s (.len 16 false (.t 15)), .s (.mv 17 (.k (.v (.c (.int .i64 0)))))]) (.blk 0 (.loop [1, 3, 15, 16, 17] lb_impl_StateBytes_0))) (.seq (.reg [.s (.mv 26 (.t 3)), .s (.fa 27 (.t 1) 1), .s (.load 28 true 6 (.t 27)), .s (.call (some 29) 97 [(.t 28)]), .s (.app 30 (.int .u8) (.t 26) (.t 29)), .s (.mv 3 (.t 30))]) (.seq (.seq (.reg [.s (.fa 31 (.t 1) 7), .s (.fa 32 (.t 31) 0), .s (.load 33 false 1 (.t 32)), .s (.len 34 false (.t 33)), .s (.mv 35 (.k (.v (.c (.int .i64 0)))))]) (.blk 2 (.loop [1, 3, 33, 34, 35] lb_impl_StateBytes_1))) (.seq (.seq (.reg [.s (.fa 44 (.t 1) 7), .s (.fa 45 (.t 44) 1), .s (.load 46 false 1 (.t 45)), .s (.len 47 false (.t 46)), .s (.mv 48 (.k (.v (.c (.int .i64 0)))))]) (.blk 4 (.loop [1, 3, 46, 47, 48] lb_impl_StateBytes_2))) (.seq (.reg [.s (.mv 60 (.t 3)), .s (.fa 61 (.t 1) 9), .s (.load 62 false 1 (.t 61)), .s (.conv 63 .u8 (.t 62)), .s (.bs 64 (.int .u8) [(.t 63)]), .s (.app 65 (.int .u8) (.t 60) (.t 64)), .s (.mv 2 (.t 65))]) (.ret))))))))⟩
def c_impl_StateBytes : Fun := ⟨31, [], fun ts K => as1 ts fun t0 => arG pStateT t0 fun s => chk (LState s 2147483647) (K (tL true (.int .u8) (stateBytes s)) [])⟩
theorem run_impl_StateBytes (s : State) (hpre : LState s 2147483647) : runK [c_impl_StateOk, c_impl_WordBytes] (30) [] pf_impl_StateBytes [tG (s.tc false [])] fun r o => r = tL true (.int .u8) (stateBytes s) ∧ o = [] := by
  obtain ⟨l2, l3, l4⟩ := hpre
  conv => whnf
  refine chk_i ⟨l2, l3, l4⟩ ?_
  conv => whnf
  refine sel_i (fun h => ?_) (fun h => ?_)
  · conv => whnf
    rw [stateBytes_no (by simpa using h)]
    exact ⟨rfl, rfl⟩
  have hok : stateOk s = true := by simpa [etaKey, etaWord, etaMemory, etaState] using h
  obtain ⟨e1, e2, e3⟩ := stateOk_len hok
  have ht := stateOk_trap hok
  conv => whnf
  refine loop (α := Nat × List Int) (fun q => ⟨[(1, .v (.c (.ptr 0 0))), (3, .v (.c (.sl true (.int .u8) 4))), (15, .v (.c (.sl false .word 1))), (16, .v (.c (.int .i64 (s.regs.length : Int)))), (17, .v (.c (.int .i64 (q.1 : Int))))],
        [(4, some (.flat true (.int .u8) none q.2)), (3, some (.flat false .bool none s.mem.gone)), (2, some (.flat false .word none s.mem.words)), (1, some (.flat false .word none s.regs)), (0, some (.box true [.sl false .word 1, .int .i64 s.pc.n, .bool s.pc.is, .int .i64 s.pc.key.base, .int .i64 s.pc.key.top, .int .i64 s.pc.key.perms, .int .i64 s.pc.key.sealed, .sl false .word 2, .sl false .bool 3, .int .i64 s.trap]))], nums.tail.tail.tail.tail.tail, [], false, []⟩)
    (fun q => q.1 ≤ 8 ∧ q.2 = wordsBytes (s.regs.take q.1)) (fun q => 8 - q.1) (fun q R hI hR => ?_) (0, []) _ ⟨by simp, rfl⟩ (by simp)
  obtain ⟨i, xs⟩ := q
  obtain ⟨hi, hx⟩ := hI
  dsimp only at hi hx
  have hxl : xs.length ≤ 72 := by rw [hx]; have := wordsBytes_len (s.regs.take i); simp at this; omega
  conv => whnf
  refine sel_i (fun h2 => ?_) (fun h2 => ?_)
  · simp only [decide_eq_true_eq] at h2
    have hw := wordBytes_len (s.regs.getD i (FT.zero .word))
    conv => whnf
    repeat' (first | (refine sel_i (fun h => ?_) (fun h => ?_) <;> conv => whnf) | (refine chk_c ?_ ?_ <;> conv => whnf) | (refine And.intro ?_ rfl) | (refine And.intro ?_ ?_ <;> conv => whnf))
    all_goals (try simp only [etaKey, etaWord, etaMemory, etaState, Int.toNat_natCast] at *)
    all_goals first
      | (refine ⟨?_⟩; omega)
      | (rw [wrap_id (n := (i : Int) + 1) (by omega) (by omega)]; exact hR (i + 1, xs ++ wordBytes (s.regs.getD i (FT.zero .word))) ⟨by dsimp only; omega, by dsimp only; rw [wordsBytes_step (z := FT.zero .word) (by omega), hx]⟩ (by dsimp only; omega))
      | trace_state
  simp only [decide_eq_false_iff_not] at h2
  have hi8 : i = 8 := by omega
  have hx : xs = wordsBytes s.regs := by rw [hx, List.take_of_length_le (by omega)]
  clear h2 hR
  have hw := wordBytes_len s.pc
  conv => whnf
  refine chk_i (show xs.length + (wordBytes s.pc).length ≤ 2147483647 by omega) ?_
  conv => whnf
  refine loop (α := Nat × List Int) (fun q => ⟨[(1, .v (.c (.ptr 0 0))), (3, .v (.c (.sl true (.int .u8) 4))), (33, .v (.c (.sl false .word 2))), (34, .v (.c (.int .i64 (s.mem.words.length : Int)))), (35, .v (.c (.int .i64 (q.1 : Int))))],
        [(4, some (.flat true (.int .u8) none q.2)), (3, some (.flat false .bool none s.mem.gone)), (2, some (.flat false .word none s.mem.words)), (1, some (.flat false .word none s.regs)), (0, some (.box true [.sl false .word 1, .int .i64 s.pc.n, .bool s.pc.is, .int .i64 s.pc.key.base, .int .i64 s.pc.key.top, .int .i64 s.pc.key.perms, .int .i64 s.pc.key.sealed, .sl false .word 2, .sl false .bool 3, .int .i64 s.trap]))], nums.tail.tail.tail.tail.tail, [], false, []⟩)
    (fun q => q.1 ≤ 24 ∧ q.2 = xs ++ wordBytes s.pc ++ wordsBytes (s.mem.words.take q.1)) (fun q => 24 - q.1) (fun q R hI hR => ?_) (0, xs ++ wordBytes s.pc) _ ⟨by simp, by simp [wordsBytes]⟩ (by simp)
  obtain ⟨j, ys⟩ := q
  obtain ⟨hj, hy⟩ := hI
  dsimp only at hj hy
  have hyl : ys.length ≤ 300 := by rw [hy]; have := wordsBytes_len (s.mem.words.take j); simp at this ⊢; omega
  conv => whnf
  refine sel_i (fun h2 => ?_) (fun h2 => ?_)
  · simp only [decide_eq_true_eq] at h2
    have hw := wordBytes_len (s.mem.words.getD j (FT.zero .word))
    conv => whnf
    repeat' (first | (refine sel_i (fun h => ?_) (fun h => ?_) <;> conv => whnf) | (refine chk_c ?_ ?_ <;> conv => whnf) | (refine And.intro ?_ rfl) | (refine And.intro ?_ ?_ <;> conv => whnf))
    all_goals (try simp only [etaKey, etaWord, etaMemory, etaState, Int.toNat_natCast] at *)
    all_goals first
      | (refine ⟨?_⟩; omega)
      | (rw [wrap_id (n := (j : Int) + 1) (by omega) (by omega)]; exact hR (j + 1, ys ++ wordBytes (s.mem.words.getD j (FT.zero .word))) ⟨by dsimp only; omega, by dsimp only; rw [wordsBytes_step (z := FT.zero .word) (by omega), hy, List.append_assoc]⟩ (by dsimp only; omega))
      | trace_state
  simp only [decide_eq_false_iff_not] at h2
  have hy : ys = wordsBytes s.regs ++ wordBytes s.pc ++ wordsBytes s.mem.words := by rw [hy, hx, List.take_of_length_le (by omega)]
  clear h2 hR hx
  conv => whnf
  refine loop (α := Nat × List Int) (fun q => ⟨[(1, .v (.c (.ptr 0 0))), (3, .v (.c (.sl true (.int .u8) 4))), (46, .v (.c (.sl false .bool 3))), (47, .v (.c (.int .i64 (s.mem.gone.length : Int)))), (48, .v (.c (.int .i64 (q.1 : Int))))],
        [(4, some (.flat true (.int .u8) none q.2)), (3, some (.flat false .bool none s.mem.gone)), (2, some (.flat false .word none s.mem.words)), (1, some (.flat false .word none s.regs)), (0, some (.box true [.sl false .word 1, .int .i64 s.pc.n, .bool s.pc.is, .int .i64 s.pc.key.base, .int .i64 s.pc.key.top, .int .i64 s.pc.key.perms, .int .i64 s.pc.key.sealed, .sl false .word 2, .sl false .bool 3, .int .i64 s.trap]))], nums.tail.tail.tail.tail.tail, [], false, []⟩)
    (fun q => q.1 ≤ 24 ∧ q.2 = ys ++ goneBytes (s.mem.gone.take q.1)) (fun q => 24 - q.1) (fun q R hI hR => ?_) (0, ys) _ ⟨by simp, by simp [goneBytes]⟩ (by simp)
  obtain ⟨k, zs⟩ := q
  obtain ⟨hk, hz⟩ := hI
  dsimp only at hk hz
  have hzl : zs.length ≤ 400 := by rw [hz]; simp [goneBytes_len]; omega
  conv => whnf
  repeat' (first | (refine sel_i (fun h => ?_) (fun h => ?_) <;> conv => whnf) | (refine chk_c ?_ ?_ <;> conv => whnf) | (refine And.intro ?_ rfl) | (refine And.intro ?_ ?_ <;> conv => whnf))
  all_goals (try simp only [etaKey, etaWord, etaMemory, etaState, Int.toNat_natCast, decide_eq_true_eq, decide_eq_false_iff_not] at *)
  all_goals first
    | (refine ⟨?_⟩; omega)
    | (refine ⟨?_⟩; simp; omega)
    | (rw [wrap_id (n := (k : Int) + 1) (by omega) (by omega)]
       have e := goneBytes_step (g := s.mem.gone) (i := k) (z := FT.zero .bool) (by omega)
       exact hR (k + 1, zs ++ _) ⟨by dsimp only; omega, by dsimp only; rw [e, hz, List.append_assoc]; simp only [*, goneByte, if_true, Bool.false_eq_true, if_false]⟩ (by dsimp only; omega))
    | (rw [stateBytes_ok hok, hz, hy, List.take_of_length_le (by omega), u8_id (by omega)])
    | trace_state
theorem ok_impl_StateBytes : FunOk Tryz.prog c_impl_StateBytes := funOk (E := [c_impl_StateOk, c_impl_WordBytes]) (envOk_cons ok_impl_StateOk (envOk_cons ok_impl_WordBytes (envOk_nil))) mixd Tryz.func31 (pf := pf_impl_StateBytes) (by kernel_rfl) fun ts K h => by
  obtain ⟨t0, e0, h⟩ := as1_out h
  subst e0
  obtain ⟨s, e1, hq⟩ := arG_out rd_state h
  clear h
  subst e1
  have h := hq
  clear hq
  obtain ⟨hpre, h⟩ := chk_o h
  exact ⟨_, _, h, Nat.le_of_ble_eq_true (show Nat.ble 1 Tryz.f31.ntmps = true by kernel_rfl), _, run_impl_StateBytes s hpre⟩

def lb_spec_StateBytes_0 : PC := .seq (.seq (.reg [.s (.mv 26 (.t 5)), .s (.mv 27 (.t 4)), .s (.len 28 false (.t 27)), .s (.bin 29 .lss (.t 26) (.t 28))]) (.cond (.t 29) (.skip) (.exit 0))) (.seq (.blk 1 (.reg [.s (.mv 32 (.t 3)), .s (.mv 33 (.t 4)), .s (.mv 34 (.t 5)), .s (.ia 35 .word (.t 33) (.t 34)), .s (.load 36 true 6 (.t 35)), .s (.call (some 37) 165 [(.t 36)]), .s (.app 38 (.int .u8) (.t 32) (.t 37)), .s (.mv 3 (.t 38))])) (.reg [.s (.mv 30 (.t 5)), .s (.bin 31 .add (.t 30) (.k (.v (.c (.int .i64 1))))), .s (.mv 5 (.t 31))]))
def lb_spec_StateBytes_1 : PC := .seq (.seq (.reg [.s (.mv 39 (.t 6)), .s (.bin 40 .lss (.t 39) (.k (.v (.c (.int .i64 24)))))]) (.cond (.t 40) (.skip) (.exit 2))) (.seq (.blk 3 (.seq (.reg [.s (.mv 7 (.k (.v (.c (.int .u8 0)))))]) (.seq (.seq (.reg [.s (.fa 43 (.t 1) 7), .s (.fa 44 (.t 43) 1), .s (.load 45 false 1 (.t 44)), .s (.mv 46 (.t 6)), .s (.ia 47 .bool (.t 45) (.t 46)), .s (.load 48 false 1 (.t 47))]) (.cond (.t 48) (.reg [.s (.mv 7 (.k (.v (.c (.int .u8 1)))))]) (.skip))) (.reg [.s (.mv 49 (.t 3)), .s (.mv 50 (.t 7)), .s (.bs 51 (.int .u8) [(.t 50)]), .s (.app 52 (.int .u8) (.t 49) (.t 51)), .s (.mv 3 (.t 52))])))) (.reg [.s (.mv 41 (.t 6)), .s (.bin 42 .add (.t 41) (.k (.v (.c (.int .i64 1))))), .s (.mv 6 (.t 42))]))
def pf_spec_StateBytes : PF := ⟨[.t 2], .seq (.reg [.s (.box 1 (.t 0)), .s (.mv 2 (.k (.v (.c (.nils (.int .u8))))))]) (.seq (.reg [.s (.bs 8 (.int .u8) []), .s (.mv 3 (.t 8))]) (.seq (.seq (.reg [.s (.load 9 true 10 (.t 1)), .s (.call (some 10) 82 [(.t 9)]), .s (.bnot 11 (.t 10))]) (.cond (.t 11) (.seq (.reg [.s (.mv 12 (.t 3)), .s (.mv 2 (.t 12))]) (.ret)) (.skip))) (.seq (.rgd [] [.s (.bs 13 .word []), .s (.fa 14 (.t 1) 0), .s (.load 15 false 1 (.t 14)), .s (.app 16 .word (.t 13) (.t 15)), .s (.fa 17 (.t 1) 1), .s (.load 18 true 6 (.t 17)), .s (.bs 19 .word [(.t 18)]), .s (.app 20 .word (.t 16) (.t 19)), .s (.mv 4 (.t 20))] (.tk 1 (.tk 2 (.tk 4 (.tk 5 (.alt 0 false (.alt 3 false (.one 6 false (.one 7 true (.tk 8 (.done (some [1, 3, 4]))))) (.alt 6 false (.one 3 false (.one 7 true (.tk 8 (.done (some [1, 3, 4]))))) (.nil))) (.alt 6 false (.one 0 false (.one 3 false (.one 7 true (.tk 8 (.done (some [1, 3, 4])))))) (.nil)))))))) (.seq (.reg [.s (.mv 21 (.t 4)), .s (.fa 22 (.t 1) 7), .s (.fa 23 (.t 22) 0), .s (.load 24 false 1 (.t 23)), .s (.app 25 .word (.t 21) (.t 24)), .s (.mv 4 (.t 25))]) (.seq (.seq (.reg [.s (.mv 5 (.k (.v (.c (.int .i64 0)))))]) (.blk 0 (.loop [1, 3, 4, 5] lb_spec_StateBytes_0))) (.seq (.seq (.reg [.s (.mv 6 (.k (.v (.c (.int .i64 0)))))]) (.blk 2 (.loop [1, 3, 6] lb_spec_StateBytes_1))) (.seq (.reg [.s (.mv 53 (.t 3)), .s (.fa 54 (.t 1) 9), .s (.load 55 false 1 (.t 54)), .s (.conv 56 .u8 (.t 55)), .s (.bs 57 (.int .u8) [(.t 56)]), .s (.app 58 (.int .u8) (.t 53) (.t 57)), .s (.mv 2 (.t 58))]) (.ret))))))))⟩
def c_spec_StateBytes : Fun := ⟨91, [], fun ts K => as1 ts fun t0 => arG pStateT t0 fun s => chk (LState s 2147483647) (K (tL true (.int .u8) (stateBytes s)) [])⟩
theorem run_spec_StateBytes (s : State) (hpre : LState s 2147483647) : runK [c_spec_StateOk, c_spec_WordBytes] (40) [] pf_spec_StateBytes [tG (s.tc false [])] fun r o => r = tL true (.int .u8) (stateBytes s) ∧ o = [] := by
  obtain ⟨l2, l3, l4⟩ := hpre
  conv => whnf
  refine chk_i ⟨l2, l3, l4⟩ ?_
  conv => whnf
  refine sel_i (fun h => ?_) (fun h => ?_)
  · conv => whnf
    rw [stateBytes_no (by simpa using h)]
    exact ⟨rfl, rfl⟩
  have hok : stateOk s = true := by simpa [etaKey, etaWord, etaMemory, etaState] using h
  obtain ⟨e1, e2, e3⟩ := stateOk_len hok
  have ht := stateOk_trap hok
  have ha : ([] ++ s.regs ++ [s.pc] ++ s.mem.words).length = 33 := by simp; omega
  conv => whnf
  repeat' (first | (refine sel_i (fun h => ?_) (fun h => ?_) <;> conv => whnf) | (refine chk_c ?_ ?_ <;> conv => whnf) | (refine And.intro ?_ rfl) | (refine And.intro ?_ ?_ <;> conv => whnf))
  all_goals try (refine ⟨?_⟩; simp only [List.length_append, List.length_nil, List.length_cons]; omega)
  all_goals try exact True.intro
  refine loop (α := Nat × List Int) (fun q => ⟨[(1, .v (.c (.ptr 0 0))), (3, .v (.c (.sl true (.int .u8) 4))), (4, .v (.c (.sl true .word 5))), (5, .v (.c (.int .i64 (q.1 : Int))))],
        [(5, some (.flat true .word none ([] ++ s.regs ++ [s.pc] ++ s.mem.words))), (4, some (.flat true (.int .u8) none q.2)), (3, some (.flat false .bool none s.mem.gone)), (2, some (.flat false .word none s.mem.words)), (1, some (.flat false .word none s.regs)), (0, some (.box true [.sl false .word 1, .int .i64 s.pc.n, .bool s.pc.is, .int .i64 s.pc.key.base, .int .i64 s.pc.key.top, .int .i64 s.pc.key.perms, .int .i64 s.pc.key.sealed, .sl false .word 2, .sl false .bool 3, .int .i64 s.trap]))], nums.tail.tail.tail.tail.tail.tail, [], false, []⟩)
    (fun q => q.1 ≤ 33 ∧ q.2 = wordsBytes (([] ++ s.regs ++ [s.pc] ++ s.mem.words).take q.1)) (fun q => 33 - q.1) (fun q R hI hR => ?_) (0, []) _ ⟨by simp, by simp [wordsBytes]⟩ (by simp)
  obtain ⟨i, xs⟩ := q
  obtain ⟨hi, hx⟩ := hI
  dsimp only at hi hx
  have hxl : xs.length ≤ 300 := by rw [hx]; have := wordsBytes_len (([] ++ s.regs ++ [s.pc] ++ s.mem.words).take i); rw [List.length_take] at this; omega
  conv => whnf
  refine sel_i (fun h2 => ?_) (fun h2 => ?_)
  · have h2 : (i : Int) < (([] ++ s.regs ++ [s.pc] ++ s.mem.words).length : Int) := of_decide_eq_true h2
    rw [ha] at h2
    have hw := wordBytes_len (([] ++ s.regs ++ [s.pc] ++ s.mem.words).getD i (FT.zero .word))
    conv => whnf
    repeat' (first | (refine sel_i (fun h => ?_) (fun h => ?_) <;> conv => whnf) | (refine chk_c ?_ ?_ <;> conv => whnf) | (refine And.intro ?_ rfl) | (refine And.intro ?_ ?_ <;> conv => whnf))
    all_goals (try simp only [etaKey, etaWord, etaMemory, etaState, Int.toNat_natCast] at *)
    all_goals first
      | (refine ⟨?_⟩; omega)
      | (rw [wrap_id (n := (i : Int) + 1) (by omega) (by omega)]; exact hR (i + 1, xs ++ wordBytes (([] ++ s.regs ++ [s.pc] ++ s.mem.words).getD i (FT.zero .word))) ⟨by dsimp only; omega, by dsimp only; rw [wordsBytes_step (z := FT.zero .word) (by omega), hx]⟩ (by dsimp only; omega))
      | trace_state
  have h2 : ¬ (i : Int) < (([] ++ s.regs ++ [s.pc] ++ s.mem.words).length : Int) := of_decide_eq_false h2
  rw [ha] at h2
  have hx : xs = wordsBytes s.regs ++ wordBytes s.pc ++ wordsBytes s.mem.words := by
    rw [hx, List.take_of_length_le (by omega), wordsBytes_app, wordsBytes_app, wordsBytes_one, List.nil_append]
  clear h2 hR ha
  conv => whnf
  refine loop (α := Nat × List Int) (fun q => ⟨[(1, .v (.c (.ptr 0 0))), (3, .v (.c (.sl true (.int .u8) 4))), (6, .v (.c (.int .i64 (q.1 : Int))))],
        [(4, some (.flat true (.int .u8) none q.2)), (3, some (.flat false .bool none s.mem.gone)), (2, some (.flat false .word none s.mem.words)), (1, some (.flat false .word none s.regs)), (0, some (.box true [.sl false .word 1, .int .i64 s.pc.n, .bool s.pc.is, .int .i64 s.pc.key.base, .int .i64 s.pc.key.top, .int .i64 s.pc.key.perms, .int .i64 s.pc.key.sealed, .sl false .word 2, .sl false .bool 3, .int .i64 s.trap]))], nums.tail.tail.tail.tail.tail, [], false, []⟩)
    (fun q => q.1 ≤ 24 ∧ q.2 = xs ++ goneBytes (s.mem.gone.take q.1)) (fun q => 24 - q.1) (fun q R hI hR => ?_) (0, xs) _ ⟨by simp, by simp [goneBytes]⟩ (by simp)
  obtain ⟨k, zs⟩ := q
  obtain ⟨hk, hz⟩ := hI
  dsimp only at hk hz
  have hzl : zs.length ≤ 400 := by rw [hz]; simp [goneBytes_len]; omega
  conv => whnf
  repeat' (first | (refine sel_i (fun h => ?_) (fun h => ?_) <;> conv => whnf) | (refine chk_c ?_ ?_ <;> conv => whnf) | (refine And.intro ?_ rfl) | (refine And.intro ?_ ?_ <;> conv => whnf))
  all_goals (try simp only [etaKey, etaWord, etaMemory, etaState, Int.toNat_natCast, decide_eq_true_eq, decide_eq_false_iff_not] at *)
  all_goals first
    | (refine ⟨?_⟩; omega)
    | (refine ⟨?_⟩; simp; omega)
    | (rw [wrap_id (n := (k : Int) + 1) (by omega) (by omega)]
       have e := goneBytes_step (g := s.mem.gone) (i := k) (z := FT.zero .bool) (by omega)
       exact hR (k + 1, zs ++ _) ⟨by dsimp only; omega, by dsimp only; rw [e, hz, List.append_assoc]; simp only [*, goneByte, if_true, Bool.false_eq_true, if_false]⟩ (by dsimp only; omega))
    | (rw [stateBytes_ok hok, hz, hx, List.take_of_length_le (by omega), u8_id (by omega)])
    | trace_state
theorem ok_spec_StateBytes : FunOk Tryz.prog c_spec_StateBytes := funOk (E := [c_spec_StateOk, c_spec_WordBytes]) (envOk_cons ok_spec_StateOk (envOk_cons ok_spec_WordBytes (envOk_nil))) mixd Tryz.func91 (pf := pf_spec_StateBytes) (by kernel_rfl) fun ts K h => by
  obtain ⟨t0, e0, h⟩ := as1_out h
  subst e0
  obtain ⟨s, e1, hq⟩ := arG_out rd_state h
  clear h
  subst e1
  have h := hq
  clear hq
  obtain ⟨hpre, h⟩ := chk_o h
  exact ⟨_, _, h, Nat.le_of_ble_eq_true (show Nat.ble 1 Tryz.f91.ntmps = true by kernel_rfl), _, run_spec_StateBytes s hpre⟩

theorem stateBytes_len (s : State) : (stateBytes s).length ≤ 400 := by
  by_cases h : stateOk s = true
  · obtain ⟨e1, e2, e3⟩ := stateOk_len h
    have h1 := wordsBytes_len s.regs
    have h2 := wordsBytes_len s.mem.words
    have h3 := wordBytes_len s.pc
    rw [stateBytes_ok h]
    simp only [List.length_append, goneBytes_len, List.length_cons, List.length_nil]; omega
  · rw [stateBytes_no (by simpa using h)]; simp

def stateOfGo (b : List Int) : Nat → List Word → Int → Option (List Word × Int)
  | 0, ws, a => some (ws, a)
  | k + 1, ws, a => match wordOf b a with | some (w, e) => stateOfGo b k (ws ++ [w]) e | none => none
def stateAt (b : List Int) (ws : List Word) (a : Nat) : State := ⟨ws.take 8, ws.getD 8 (FT.zero .word), ⟨ws.drop 9, (win b a 24).map (fun v => v == 1)⟩, b.getD (a + 24) 0⟩
def stateOf (b : List Int) : Option State :=
  match stateOfGo b 33 [] 0 with
  | some (ws, a) => if (b.length : Int) = a + 25 ∧ stateBytes (stateAt b ws a.toNat) = b then some (stateAt b ws a.toNat) else none
  | none => none
def stateOfT (o : Option State) : Tree := .tup [.g ((o.getD zState).tc true []), .c (.bool o.isSome)]
theorem wf64 {a : Int} (h : 0 ≤ a ∧ a ≤ 1000000000) : wfI .i64 a := by
  show (decide (IntKind.i64.min ≤ a) && decide (a ≤ IntKind.i64.max)) = true
  have e1 : IntKind.i64.min = -9223372036854775808 := rfl
  have e2 : IntKind.i64.max = 9223372036854775807 := rfl
  simp; omega
theorem wordOf_some {b : List Int} {a e : Int} {w : Word} (h : wordOf b a = some (w, e)) : 0 ≤ a ∧ (e = a + 3 ∨ e = a + 9) ∧ e ≤ b.length := by
  unfold wordOf at h
  split at h
  · rename_i h1
    have h1 : 0 ≤ a ∧ a ≤ b.length - 3 := by simpa [inR] using h1
    split at h
    · cases h; omega
    · split at h
      · rename_i h3; cases h; omega
      · cases h
  · cases h

def pf_bytes_Equal : PF := ⟨[.t 4], .seq (.reg [.s (.mv 4 (.k (.v (.c .ff))))]) (.seq (.reg [.s (.mv 5 (.t 0)), .s (.b2s 6 (.t 5)), .s (.mv 7 (.t 1)), .s (.b2s 8 (.t 7)), .s (.eqs 9 false [.s] false (.t 6) (.t 8)), .s (.mv 4 (.t 9))]) (.ret))⟩
def c_bytes_Equal : Fun := ⟨96, [], fun ts K => as2 ts fun t0 t1 => arC (pL (.int .u8)) t0 fun a => arC (pL (.int .u8)) t1 fun b => chk (U8s a ∧ U8s b) (K (tB (decide (a = b))) [])⟩
theorem run_bytes_Equal (a : List (FT.Ty (.int .u8))) (b : List (FT.Ty (.int .u8))) (hpre : U8s a ∧ U8s b) : runK [] (0) [] pf_bytes_Equal [tL false (.int .u8) a, tL false (.int .u8) b] fun r o => r = tB (decide (a = b)) ∧ o = [] := by
  conv => whnf
  repeat' (first | (refine sel_i (fun h => ?_) (fun h => ?_) <;> conv => whnf) | (refine chk_c ?_ ?_ <;> conv => whnf) | (refine And.intro ?_ rfl) | (refine And.intro ?_ ?_ <;> conv => whnf))
  rw [strI_eq hpre.1 hpre.2]
theorem ok_bytes_Equal : FunOk Tryz.prog c_bytes_Equal := funOk (E := []) (envOk_nil) mixd Tryz.func96 (pf := pf_bytes_Equal) (by kernel_rfl) fun ts K h => by
  obtain ⟨t0, t1, e0, h⟩ := as2_out h
  subst e0
  obtain ⟨a, e1, hq⟩ := arC_out (rd_l (.int .u8)) h
  clear h
  subst e1
  have h := hq
  clear hq
  obtain ⟨b, e1, hq⟩ := arC_out (rd_l (.int .u8)) h
  clear h
  subst e1
  have h := hq
  clear hq
  obtain ⟨hpre, h⟩ := chk_o h
  exact ⟨_, _, h, Nat.le_of_ble_eq_true (show Nat.ble 2 Tryz.f96.ntmps = true by kernel_rfl), _, run_bytes_Equal a b hpre⟩

theorem stateBytes_u8 (s : State) : U8s (stateBytes s) := by
  by_cases h : stateOk s = true
  · have ht := stateOk_trap h
    rw [stateBytes_ok h]
    intro x hx
    simp only [List.mem_append, List.mem_singleton] at hx
    have hws : ∀ ws : List Word, x ∈ wordsBytes ws → 0 ≤ x ∧ x ≤ 255 := fun ws hx => by
      obtain ⟨w, _, hw⟩ := List.mem_flatMap.1 hx
      exact wordBytes_u8 w x hw
    rcases hx with (((hx | hx) | hx) | hx) | hx
    · exact hws _ hx
    · exact wordBytes_u8 _ x hx
    · exact hws _ hx
    · obtain ⟨g, _, rfl⟩ := List.mem_map.1 hx
      unfold goneByte; split <;> omega
    · omega
  · rw [stateBytes_no (by simpa using h)]; intro x hx; cases hx
theorem gone_step {b : List Int} {a k : Nat} (h : a + 24 ≤ b.length) (hk : k < 24) : ((win b a 24).map (fun v => v == 1)).take (k + 1) = ((win b a 24).map (fun v => v == 1)).take k ++ [b.getD (a + k) 0 == 1] := by
  have hl : (win b a 24).length = 24 := win_len h
  rw [take_next (z := false) (by simp [hl]; exact hk)]
  have e := win_at (b := b) (o := a) hk
  rw [List.getD_eq_getElem?_getD, List.getElem?_eq_getElem (by omega), Option.getD_some] at e
  rw [← e, List.getD_eq_getElem?_getD, List.getElem?_map, List.getElem?_eq_getElem (by omega)]
  rfl
theorem tn9 : Int.toNat 9 = 9 := rfl
abbrev zWI : Word × Int := (⟨0, false, ⟨0, 0, 0, 0⟩⟩, 0)
theorem stateOfGo_step {b : List Int} {i : Nat} {ws : List Word} {a : Int} {o : Option (List Word × Int)} (hg : stateOfGo b (33 - i) ws a = o) (hi : i < 33) (h : (wordOf b a).isSome = true) :
    stateOfGo b (33 - (i + 1)) (ws ++ [((wordOf b a).getD zWI).1]) ((wordOf b a).getD zWI).2 = o := by
  rw [show 33 - i = (33 - (i + 1)) + 1 by omega] at hg
  cases e : wordOf b a with
  | none => rw [e] at h; cases h
  | some p => unfold stateOfGo at hg; rw [e] at hg; exact hg
theorem stateOfGo_stop {b : List Int} {i : Nat} {ws : List Word} {a : Int} {o : Option (List Word × Int)} (hg : stateOfGo b (33 - i) ws a = o) (hi : i < 33) (h : (wordOf b a).isSome = false) : o = none := by
  rw [show 33 - i = (33 - (i + 1)) + 1 by omega] at hg
  cases e : wordOf b a with
  | none => unfold stateOfGo at hg; rw [e] at hg; exact hg.symm
  | some p => rw [e] at h; cases h
theorem stateOfGo_in {b : List Int} {a : Int} (h : (wordOf b a).isSome = true) (h0 : 0 ≤ a) : 0 ≤ ((wordOf b a).getD zWI).2 ∧ ((wordOf b a).getD zWI).2 ≤ b.length := by
  cases e : wordOf b a with
  | none => rw [e] at h; cases h
  | some p => obtain ⟨w, k⟩ := p; have := wordOf_some e; simp only [Option.getD_some]; omega
theorem stateOf_none {b : List Int} (h : stateOfGo b 33 [] 0 = none) : stateOf b = none := by unfold stateOf; rw [h]
theorem stateOf_len {b : List Int} {ws : List Word} {a : Int} (h : stateOfGo b 33 [] 0 = some (ws, a)) (h2 : ¬ (b.length : Int) = a + 25) : stateOf b = none := by
  unfold stateOf; rw [h]; exact if_neg (fun q => h2 q.1)
theorem stateOf_ne {b : List Int} {ws : List Word} {a : Nat} (h : stateOfGo b 33 [] 0 = some (ws, (a : Int))) (h2 : ¬ stateBytes (stateAt b ws a) = b) : stateOf b = none := by
  unfold stateOf; rw [h]; exact if_neg (fun q => h2 q.2)
theorem stateOf_ok {b : List Int} {ws : List Word} {a : Nat} (h : stateOfGo b 33 [] 0 = some (ws, (a : Int))) (h1 : (b.length : Int) = a + 25) (h2 : stateBytes (stateAt b ws a) = b) : stateOf b = some (stateAt b ws a) := by
  unfold stateOf; rw [h]; exact if_pos ⟨h1, h2⟩

def lb_impl_StateOf_0 : PC := .seq (.reg [.s (.bin 14 .lss (.t 13) (.k (.v (.c (.int .i64 33)))))]) (.seq (.cond (.t 14) (.skip) (.exit 0)) (.seq (.blk 1 (.seq (.reg [.s (.mv 16 (.t 0)), .s (.mv 17 (.t 5)), .s (.call (some 18) 95 [(.t 16), (.t 17)]), .s (.mv 15 (.t 18)), .s (.ext 19 (.t 15) 0), .s (.ext 20 (.t 15) 1), .s (.ext 21 (.t 15) 2), .s (.alloc 6 [.int .i64 0, .ff, .int .i64 0, .int .i64 0, .int .i64 0, .int .i64 0]), .s (.store 6 (.t 6) (.t 19)), .s (.mv 7 (.t 20)), .s (.mv 8 (.t 21))]) (.seq (.seq (.reg [.s (.mv 22 (.t 8)), .s (.bnot 23 (.t 22))]) (.cond (.t 23) (.seq (.reg [.s (.build 24 [.nils .word, .int .i64 0, .ff, .int .i64 0, .int .i64 0, .int .i64 0, .int .i64 0, .nils .word, .nils .bool, .int .i64 0] []), .s (.store 10 (.t 2) (.t 24)), .s (.mv 3 (.k (.v (.c .ff))))]) (.ret)) (.skip))) (.seq (.reg [.s (.mv 25 (.t 4)), .s (.load 26 true 6 (.t 6)), .s (.bs 27 .word [(.t 26)]), .s (.app 28 .word (.t 25) (.t 27)), .s (.mv 4 (.t 28))]) (.reg [.s (.mv 29 (.t 7)), .s (.mv 5 (.t 29))]))))) (.reg [.s (.bin 30 .add (.t 13) (.k (.v (.c (.int .i64 1))))), .s (.mv 13 (.t 30))])))
def lb_impl_StateOf_1 : PC := .seq (.reg [.s (.bin 69 .lss (.t 68) (.t 67))]) (.seq (.cond (.t 69) (.skip) (.exit 2)) (.seq (.blk 3 (.seq (.reg [.s (.ia 70 (.int .u8) (.t 66) (.t 68)), .s (.load 71 false 1 (.t 70)), .s (.mv 11 (.t 71))]) (.reg [.s (.fa 72 (.t 9) 7), .s (.fa 73 (.t 72) 1), .s (.load 74 false 1 (.t 73)), .s (.mv 75 (.t 11)), .s (.bin 76 .eql (.t 75) (.k (.v (.c (.int .u8 1))))), .s (.bs 77 .bool [(.t 76)]), .s (.app 78 .bool (.t 74) (.t 77)), .s (.fa 79 (.t 9) 7), .s (.fa 80 (.t 79) 1), .s (.store 1 (.t 80) (.t 78))]))) (.reg [.s (.bin 81 .add (.t 68) (.k (.v (.c (.int .i64 1))))), .s (.mv 68 (.t 81))])))
def pf_impl_StateOf : PF := ⟨[.c 2 true 10, .t 3], .seq (.reg [.s (.alloc 2 [.nils .word, .int .i64 0, .ff, .int .i64 0, .int .i64 0, .int .i64 0, .int .i64 0, .nils .word, .nils .bool, .int .i64 0]), .s (.mv 3 (.k (.v (.c .ff))))]) (.seq (.reg [.s (.bs 12 .word []), .s (.mv 4 (.t 12))]) (.seq (.reg [.s (.mv 5 (.k (.v (.c (.int .i64 0)))))]) (.seq (.seq (.reg [.s (.mv 13 (.k (.v (.c (.int .i64 0)))))]) (.blk 0 (.loop [0, 2, 4, 5, 13] lb_impl_StateOf_0))) (.seq (.seq (.reg [.s (.mv 31 (.t 0)), .s (.len 32 false (.t 31)), .s (.mv 33 (.t 5)), .s (.bin 34 .add (.t 33) (.k (.v (.c (.int .i64 24))))), .s (.bin 35 .add (.t 34) (.k (.v (.c (.int .i64 1))))), .s (.bin 36 .neq (.t 32) (.t 35))]) (.cond (.t 36) (.seq (.reg [.s (.build 37 [.nils .word, .int .i64 0, .ff, .int .i64 0, .int .i64 0, .int .i64 0, .int .i64 0, .nils .word, .nils .bool, .int .i64 0] []), .s (.store 10 (.t 2) (.t 37)), .s (.mv 3 (.k (.v (.c .ff))))]) (.ret)) (.skip))) (.seq (.rgd [] [.s (.mv 38 (.t 4)), .s (.ia 39 .word (.t 38) (.k (.v (.c (.int .i64 8))))), .s (.load 40 true 6 (.t 39)), .s (.mv 41 (.t 0)), .s (.mv 42 (.t 5)), .s (.bin 43 .add (.t 42) (.k (.v (.c (.int .i64 24))))), .s (.ia 44 (.int .u8) (.t 41) (.t 43)), .s (.load 45 false 1 (.t 44)), .s (.conv 46 .i64 (.t 45)), .s (.build 47 [.nils .word, .int .i64 0, .ff, .int .i64 0, .int .i64 0, .int .i64 0, .int .i64 0, .nils .word, .nils .bool, .int .i64 0] [(1, 6, (.t 40)), (9, 1, (.t 46))]), .s (.alloc 9 [.nils .word, .int .i64 0, .ff, .int .i64 0, .int .i64 0, .int .i64 0, .int .i64 0, .nils .word, .nils .bool, .int .i64 0]), .s (.store 10 (.t 9) (.t 47))] (.tk 0 (.tk 1 (.tk 2 (.tk 3 (.tk 4 (.tk 5 (.tk 6 (.tk 7 (.tk 8 (.tk 9 (.one 10 false (.one 11 true (.done none)))))))))))))) (.seq (.rgd [] [.s (.fa 48 (.t 9) 0), .s (.load 49 false 1 (.t 48)), .s (.mv 50 (.t 4)), .s (.slc 51 .word (.t 50) none (some (.k (.v (.c (.int .i64 8)))))), .s (.app 52 .word (.t 49) (.t 51)), .s (.fa 53 (.t 9) 0), .s (.store 1 (.t 53) (.t 52))] (.tk 0 (.tk 1 (.tk 2 (.one 3 false (.one 4 true (.tk 5 (.one 6 true (.done none))))))))) (.seq (.rgd [] [.s (.fa 54 (.t 9) 7), .s (.fa 55 (.t 54) 0), .s (.load 56 false 1 (.t 55)), .s (.mv 57 (.t 4)), .s (.slc 58 .word (.t 57) (some (.k (.v (.c (.int .i64 9))))) none), .s (.app 59 .word (.t 56) (.t 58)), .s (.fa 60 (.t 9) 7), .s (.fa 61 (.t 60) 0), .s (.store 1 (.t 61) (.t 59))] (.tk 0 (.tk 1 (.tk 2 (.tk 3 (.one 4 false (.one 5 true (.tk 6 (.tk 7 (.one 8 true (.done none))))))))))) (.seq (.seq (.reg [.s (.mv 62 (.t 0)), .s (.mv 63 (.t 5)), .s (.mv 64 (.t 5)), .s (.bin 65 .add (.t 64) (.k (.v (.c (.int .i64 24))))), .s (.slc 66 (.int .u8) (.t 62) (some (.t 63)) (some (.t 65))), .s (.len 67 false (.t 66)), .s (.mv 68 (.k (.v (.c (.int .i64 0)))))]) (.blk 2 (.loop [0, 2, 9, 66, 67, 68] lb_impl_StateOf_1))) (.seq (.seq (.reg [.s (.load 82 true 10 (.t 9)), .s (.call (some 83) 31 [(.t 82)]), .s (.mv 84 (.t 0)), .s (.call (some 85) 96 [(.t 83), (.t 84)]), .s (.bnot 86 (.t 85))]) (.cond (.t 86) (.seq (.reg [.s (.build 87 [.nils .word, .int .i64 0, .ff, .int .i64 0, .int .i64 0, .int .i64 0, .int .i64 0, .nils .word, .nils .bool, .int .i64 0] []), .s (.store 10 (.t 2) (.t 87)), .s (.mv 3 (.k (.v (.c .ff))))]) (.ret)) (.skip))) (.seq (.reg [.s (.load 88 true 10 (.t 9)), .s (.store 10 (.t 2) (.t 88)), .s (.mv 3 (.k (.v (.c .tt))))]) (.ret)))))))))))⟩
def c_impl_StateOf : Fun := ⟨29, [], fun ts K => as1 ts fun t0 => arC (pL (.int .u8)) t0 fun b => chk (b.length ≤ 1048576 ∧ U8s b) (K (stateOfT (stateOf b)) [])⟩
theorem run_impl_StateOf (b : List (FT.Ty (.int .u8))) (hpre : b.length ≤ 1048576 ∧ U8s b) : runK [c_impl_StateBytes, c_impl_WordOf, c_bytes_Equal] (40) [] pf_impl_StateOf [tL false (.int .u8) b] fun r o => r = stateOfT (stateOf b) ∧ o = [] := by
  obtain ⟨l1, l2⟩ := hpre
  conv => whnf
  refine loop (α := Nat × List Word × Int) (fun q => ⟨[(0, .v (.c (.sl false (.int .u8) 0))), (2, .v (.c (.ptr 1 0))), (4, .v (.c (.sl true .word 2))), (5, .v (.c (.int .i64 q.2.2))), (13, .v (.c (.int .i64 (q.1 : Int))))],
        [(2, some (.flat true .word none q.2.1)), (1, some (.box true [.nils .word, .int .i64 0, .ff, .int .i64 0, .int .i64 0, .int .i64 0, .int .i64 0, .nils .word, .nils .bool, .int .i64 0])), (0, some (.flat false (.int .u8) none b))], nums.tail.tail.tail, [], false, []⟩)
    (fun q => q.1 ≤ 33 ∧ q.2.1.length = q.1 ∧ 0 ≤ q.2.2 ∧ q.2.2 ≤ b.length ∧ stateOfGo b (33 - q.1) q.2.1 q.2.2 = stateOfGo b 33 [] 0) (fun q => 33 - q.1) (fun q R hI hR => ?_) (0, [], 0) _ ⟨by simp, by simp, by simp, by simp, rfl⟩ (by simp)
  obtain ⟨i, ws, a⟩ := q
  obtain ⟨hi, hw, ha0, ha1, hg⟩ := hI
  dsimp only at hi hw ha0 ha1 hg
  dsimp only
  conv => whnf
  refine sel_i (fun h2 => ?_) (fun h2 => ?_)
  · simp only [decide_eq_true_eq] at h2
    conv => whnf
    repeat' (first | (refine sel_i (fun h => ?_) (fun h => ?_) <;> conv => whnf) | (refine chk_c ?_ ?_ <;> conv => whnf) | (refine And.intro ?_ rfl) | (refine And.intro ?_ ?_ <;> conv => whnf))
    all_goals first
      | (refine ⟨?_⟩; exact ⟨l1, l2, wf64 (by omega)⟩)
      | (refine ⟨?_⟩; simp only [List.length_cons, List.length_nil]; omega)
      | (rw [wrap_id (n := (i : Int) + 1) (by omega) (by omega)]
         have h : (wordOf b a).isSome = true := by simpa using h
         exact hR (i + 1, ws ++ [((wordOf b a).getD zWI).1], ((wordOf b a).getD zWI).2) ⟨by dsimp only; omega, by simp [hw], (stateOfGo_in h ha0).1, (stateOfGo_in h ha0).2, stateOfGo_step hg (by omega) h⟩ (by dsimp only; omega))
      | (rw [stateOf_none (stateOfGo_stop hg (by omega) (by simpa using h))]; rfl)
      | trace_state
  simp only [decide_eq_false_iff_not] at h2
  have hg : stateOfGo b 33 [] 0 = some (ws, a) := by rw [← hg, show 33 - i = 0 by omega]; rfl
  have hw : ws.length = 33 := by omega
  obtain ⟨a, rfl⟩ := Int.eq_ofNat_of_zero_le ha0
  clear h2 hR hi
  have w24 : IntKind.i64.wrap ((a : Int) + 24) = (a : Int) + 24 := wrap_id (by omega) (by omega)
  have w25 : IntKind.i64.wrap ((a : Int) + 24 + 1) = (a : Int) + 25 := by rw [wrap_id (by omega) (by omega)]; omega
  have n24 : ((a : Int) + 24).toNat = a + 24 := by omega
  have d24 : ((a : Int) + 24 - (a : Int)).toNat = 24 := by omega
  have v8 : win ws 0 8 = ws.take 8 := rfl
  have v9 : win ws 9 ((ws.length : Int) - 9).toNat = ws.drop 9 := by unfold win; rw [List.take_of_length_le (by simp; omega)]
  conv => whnf
  refine sel_i (fun h2 => ?_) (fun h2 => ?_)
  · conv => whnf
    rw [w24, w25] at h2
    rw [stateOf_len hg (by simpa using h2)]; exact ⟨rfl, rfl⟩
  rw [w24, w25] at h2
  have hb : (b.length : Int) = a + 25 := by simpa using h2
  clear h2
  conv => whnf
  repeat' (first | (refine sel_i (fun h => ?_) (fun h => ?_) <;> conv => whnf) | (refine chk_c ?_ ?_ <;> conv => whnf) | (refine And.intro ?_ rfl) | (refine And.intro ?_ ?_ <;> conv => whnf))
  all_goals try (refine ⟨?_⟩; first | (show (0 : Int) ≤ 8 ∧ 8 < (ws.length : Int); omega) | (show 8 < ws.length; omega) | (show (0 : Int) ≤ 8 ∧ 8 ≤ (ws.length : Int); omega) | (show (0 : Int) ≤ 9 ∧ 9 ≤ (ws.length : Int); omega) | (simp only [w24, n24]; omega) | (simp [win]; omega))
  have wt : IntKind.i64.wrap (b.getD (a + 24) (FT.zero (.int .u8))) = b.getD (a + 24) 0 := wrap_id (n := b.getD (a + 24) 0) (by have := l2.at (a + 24); omega) (by have := l2.at (a + 24); omega)
  simp only [w24, n24, d24, tn8, tn9, Nat.zero_add, Int.toNat_natCast, v8, v9, wt]
  refine iter_s ?_
  conv => whnf
  refine sel_i (fun h0 => ?_) (fun h0 => absurd h0 (by decide))
  conv => whnf
  repeat' (first | (refine sel_i (fun h => ?_) (fun h => ?_) <;> conv => whnf) | (refine chk_c ?_ ?_ <;> conv => whnf) | (refine And.intro ?_ rfl) | (refine And.intro ?_ ?_ <;> conv => whnf))
  all_goals try (refine ⟨?_⟩; first | decide | (show a + 0 < b.length; omega) | (simp; done))
  rw [show IntKind.i64.wrap (0 + 1) = ((1 : Nat) : Int) from rfl]
  refine loop (α := Nat × List Bool) (fun q => ⟨[(0, .v (.c (.sl false (.int .u8) 0))), (2, .v (.c (.ptr 1 0))), (9, .v (.c (.ptr 2 0))), (66, .v (.c (.slp false (.int .u8) 0 a 24))), (67, .v (.c (.int .i64 ((24 : Nat) : Int)))), (68, .v (.c (.int .i64 (q.1 : Int))))],
        [(5, some (.flat true .bool none q.2)), (4, some (.flat true .word none (List.drop 9 ws))), (3, some (.flat true .word none (List.take 8 ws))), (2, some (.box true [.sl false .word 3, .int .i64 (ws.getD 8 (FT.zero .word)).n, .bool (ws.getD 8 (FT.zero .word)).is, .int .i64 (ws.getD 8 (FT.zero .word)).key.base, .int .i64 (ws.getD 8 (FT.zero .word)).key.top, .int .i64 (ws.getD 8 (FT.zero .word)).key.perms, .int .i64 (ws.getD 8 (FT.zero .word)).key.sealed, .sl false .word 4, .sl false .bool 5, .int .i64 (b.getD (a + 24) 0)])), (1, some (.box true [.nils .word, .int .i64 0, .ff, .int .i64 0, .int .i64 0, .int .i64 0, .int .i64 0, .nils .word, .nils .bool, .int .i64 0])), (0, some (.flat false (.int .u8) none b))], nums.tail.tail.tail.tail.tail.tail, [], false, []⟩)
    (fun q => 1 ≤ q.1 ∧ q.1 ≤ 24 ∧ q.2 = ((win b a 24).map (fun v => v == 1)).take q.1) (fun q => 24 - q.1) (fun q R hI hR => ?_) (1, [b.getD (a + 0) 0 == 1]) _ ⟨by simp, by simp, by rw [gone_step (by omega) (by omega)]; rfl⟩ (by simp)
  obtain ⟨k, gs⟩ := q
  obtain ⟨hk0, hk, hgs⟩ := hI
  dsimp only at hk0 hk hgs
  have hgl : gs.length ≤ 24 := by rw [hgs]; simp [win]; omega
  dsimp only
  conv => whnf
  repeat' (first | (refine sel_i (fun h => ?_) (fun h => ?_) <;> conv => whnf) | (refine chk_c ?_ ?_ <;> conv => whnf) | (refine And.intro ?_ rfl) | (refine And.intro ?_ ?_ <;> conv => whnf))
  all_goals (try simp only [etaKey, etaWord, etaMemory, etaState, Int.toNat_natCast, zu8] at *)
  all_goals first
    | (refine ⟨?_⟩; simp at h; omega)
    | (refine ⟨?_⟩; simp; omega)
    | (rw [wrap_id (n := (k : Int) + 1) (by omega) (by omega)]
       have h : k < 24 := by simp at h; omega
       exact hR (k + 1, gs ++ [b.getD (a + k) 0 == 1]) ⟨by dsimp only; omega, by dsimp only; omega, by rw [gone_step (by omega) h, hgs]⟩ (by dsimp only; omega))
    | (refine ⟨?_⟩; exact ⟨by simp; omega, by simp; omega, by dsimp only; omega⟩)
    | (refine ⟨?_⟩; exact ⟨stateBytes_u8 _, l2⟩)
    | skip
  all_goals (
    have hk24 : k = 24 := by rename_i h1; simp at h1; omega
    subst hk24
    have hgs : gs = (win b a 24).map (fun v => v == 1) := by rw [hgs, List.take_of_length_le (by simp [win]; omega)]
    subst hgs)
  · rw [stateOf_ne hg (nd_f (p := stateBytes (stateAt b ws a) = b) h)]; rfl
  · rw [stateOf_ok hg hb (nd_t (p := stateBytes (stateAt b ws a) = b) h)]; rfl
theorem ok_impl_StateOf : FunOk Tryz.prog c_impl_StateOf := funOk (E := [c_impl_StateBytes, c_impl_WordOf, c_bytes_Equal]) (envOk_cons ok_impl_StateBytes (envOk_cons ok_impl_WordOf (envOk_cons ok_bytes_Equal (envOk_nil)))) mixd Tryz.func29 (pf := pf_impl_StateOf) (by kernel_rfl) fun ts K h => by
  obtain ⟨t0, e0, h⟩ := as1_out h
  subst e0
  obtain ⟨b, e1, hq⟩ := arC_out (rd_l (.int .u8)) h
  clear h
  subst e1
  have h := hq
  clear hq
  obtain ⟨hpre, h⟩ := chk_o h
  exact ⟨_, _, h, Nat.le_of_ble_eq_true (show Nat.ble 1 Tryz.f29.ntmps = true by kernel_rfl), _, run_impl_StateOf b hpre⟩

def lb_spec_StateOf_0 : PC := .seq (.seq (.reg [.s (.mv 14 (.t 6)), .s (.len 15 false (.t 14)), .s (.bin 16 .lss (.t 15) (.k (.v (.c (.int .i64 33)))))]) (.cond (.t 16) (.skip) (.exit 0))) (.blk 1 (.seq (.reg [.s (.mv 18 (.t 0)), .s (.mv 19 (.t 5)), .s (.call (some 20) 167 [(.t 18), (.t 19)]), .s (.mv 17 (.t 20)), .s (.ext 21 (.t 17) 0), .s (.ext 22 (.t 17) 1), .s (.ext 23 (.t 17) 2), .s (.alloc 7 [.int .i64 0, .ff, .int .i64 0, .int .i64 0, .int .i64 0, .int .i64 0]), .s (.store 6 (.t 7) (.t 21)), .s (.mv 8 (.t 22)), .s (.mv 9 (.t 23))]) (.seq (.seq (.reg [.s (.mv 24 (.t 9)), .s (.bnot 25 (.t 24))]) (.cond (.t 25) (.seq (.reg [.s (.build 26 [.nils .word, .int .i64 0, .ff, .int .i64 0, .int .i64 0, .int .i64 0, .int .i64 0, .nils .word, .nils .bool, .int .i64 0] []), .s (.store 10 (.t 2) (.t 26)), .s (.mv 3 (.k (.v (.c .ff))))]) (.ret)) (.skip))) (.seq (.reg [.s (.mv 27 (.t 6)), .s (.load 28 true 6 (.t 7)), .s (.bs 29 .word [(.t 28)]), .s (.app 30 .word (.t 27) (.t 29)), .s (.mv 6 (.t 30))]) (.reg [.s (.mv 31 (.t 8)), .s (.mv 5 (.t 31))])))))
def lb_spec_StateOf_1 : PC := .seq (.seq (.reg [.s (.mv 48 (.t 10)), .s (.bin 49 .lss (.t 48) (.k (.v (.c (.int .i64 24)))))]) (.cond (.t 49) (.skip) (.exit 2))) (.seq (.blk 3 (.seq (.rgd [] [.s (.fa 52 (.t 4) 7), .s (.fa 53 (.t 52) 0), .s (.load 54 false 1 (.t 53)), .s (.mv 55 (.t 10)), .s (.mv 56 (.t 6)), .s (.mv 57 (.t 10)), .s (.bin 58 .add (.k (.v (.c (.int .i64 9)))) (.t 57)), .s (.ia 59 .word (.t 56) (.t 58)), .s (.load 60 true 6 (.t 59)), .s (.ia 61 .word (.t 54) (.t 55)), .s (.store 6 (.t 61) (.t 60))] (.tk 0 (.tk 1 (.tk 2 (.tk 3 (.tk 4 (.tk 5 (.tk 6 (.tk 7 (.tk 8 (.tk 9 (.one 10 true (.done none))))))))))))) (.rgd [] [.s (.fa 62 (.t 4) 7), .s (.fa 63 (.t 62) 1), .s (.load 64 false 1 (.t 63)), .s (.mv 65 (.t 10)), .s (.mv 66 (.t 0)), .s (.mv 67 (.t 5)), .s (.mv 68 (.t 10)), .s (.bin 69 .add (.t 67) (.t 68)), .s (.ia 70 (.int .u8) (.t 66) (.t 69)), .s (.load 71 false 1 (.t 70)), .s (.bin 72 .eql (.t 71) (.k (.v (.c (.int .u8 1))))), .s (.ia 73 .bool (.t 64) (.t 65)), .s (.store 1 (.t 73) (.t 72))] (.tk 0 (.tk 1 (.tk 2 (.tk 3 (.tk 4 (.tk 5 (.tk 6 (.tk 7 (.tk 8 (.tk 9 (.tk 10 (.tk 11 (.one 12 true (.done none))))))))))))))))) (.reg [.s (.mv 50 (.t 10)), .s (.bin 51 .add (.t 50) (.k (.v (.c (.int .i64 1))))), .s (.mv 10 (.t 51))]))
def pf_spec_StateOf : PF := ⟨[.c 2 true 10, .t 3], .seq (.reg [.s (.alloc 2 [.nils .word, .int .i64 0, .ff, .int .i64 0, .int .i64 0, .int .i64 0, .int .i64 0, .nils .word, .nils .bool, .int .i64 0]), .s (.mv 3 (.k (.v (.c .ff))))]) (.seq (.reg [.s (.call (some 11) 166 []), .s (.build 12 [.nils .word, .int .i64 0, .ff, .int .i64 0, .int .i64 0, .int .i64 0, .int .i64 0, .nils .word, .nils .bool, .int .i64 0] [(7, 2, (.t 11))]), .s (.alloc 4 [.nils .word, .int .i64 0, .ff, .int .i64 0, .int .i64 0, .int .i64 0, .int .i64 0, .nils .word, .nils .bool, .int .i64 0]), .s (.store 10 (.t 4) (.t 12))]) (.seq (.reg [.s (.mv 5 (.k (.v (.c (.int .i64 0)))))]) (.seq (.reg [.s (.bs 13 .word []), .s (.mv 6 (.t 13))]) (.seq (.blk 0 (.loop [0, 2, 4, 5, 6] lb_spec_StateOf_0)) (.seq (.seq (.reg [.s (.mv 32 (.t 0)), .s (.len 33 false (.t 32)), .s (.mv 34 (.t 5)), .s (.bin 35 .add (.t 34) (.k (.v (.c (.int .i64 24))))), .s (.bin 36 .add (.t 35) (.k (.v (.c (.int .i64 1))))), .s (.bin 37 .neq (.t 33) (.t 36))]) (.cond (.t 37) (.seq (.reg [.s (.build 38 [.nils .word, .int .i64 0, .ff, .int .i64 0, .int .i64 0, .int .i64 0, .int .i64 0, .nils .word, .nils .bool, .int .i64 0] []), .s (.store 10 (.t 2) (.t 38)), .s (.mv 3 (.k (.v (.c .ff))))]) (.ret)) (.skip))) (.seq (.reg [.s (.bs 39 .word []), .s (.mv 40 (.t 6)), .s (.slc 41 .word (.t 40) none (some (.k (.v (.c (.int .i64 8)))))), .s (.app 42 .word (.t 39) (.t 41)), .s (.fa 43 (.t 4) 0), .s (.store 1 (.t 43) (.t 42))]) (.seq (.reg [.s (.mv 44 (.t 6)), .s (.ia 45 .word (.t 44) (.k (.v (.c (.int .i64 8))))), .s (.load 46 true 6 (.t 45)), .s (.fa 47 (.t 4) 1), .s (.store 6 (.t 47) (.t 46))]) (.seq (.seq (.reg [.s (.mv 10 (.k (.v (.c (.int .i64 0)))))]) (.blk 2 (.loop [0, 2, 4, 5, 6, 10] lb_spec_StateOf_1))) (.seq (.reg [.s (.mv 74 (.t 0)), .s (.mv 75 (.t 5)), .s (.bin 76 .add (.t 75) (.k (.v (.c (.int .i64 24))))), .s (.ia 77 (.int .u8) (.t 74) (.t 76)), .s (.load 78 false 1 (.t 77)), .s (.conv 79 .i64 (.t 78)), .s (.fa 80 (.t 4) 9), .s (.store 1 (.t 80) (.t 79))]) (.seq (.seq (.rgd [] [.s (.load 81 true 10 (.t 4)), .s (.call (some 82) 91 [(.t 81)]), .s (.b2s 83 (.t 82)), .s (.mv 84 (.t 0)), .s (.b2s 85 (.t 84)), .s (.eqs 86 false [.s] true (.t 83) (.t 85))] (.tk 0 (.tk 3 (.alt 1 false (.alt 2 false (.one 4 false (.tk 5 (.done (some [2, 4, 86])))) (.alt 4 false (.one 2 true (.tk 5 (.done (some [2, 4, 86])))) (.nil))) (.alt 4 false (.one 1 true (.one 2 true (.tk 5 (.done (some [2, 4, 86]))))) (.nil)))))) (.cond (.t 86) (.seq (.reg [.s (.build 87 [.nils .word, .int .i64 0, .ff, .int .i64 0, .int .i64 0, .int .i64 0, .int .i64 0, .nils .word, .nils .bool, .int .i64 0] []), .s (.store 10 (.t 2) (.t 87)), .s (.mv 3 (.k (.v (.c .ff))))]) (.ret)) (.skip))) (.seq (.reg [.s (.load 88 true 10 (.t 4)), .s (.store 10 (.t 2) (.t 88)), .s (.mv 3 (.k (.v (.c .tt))))]) (.ret))))))))))))⟩
def c_spec_StateOf : Fun := ⟨94, [], fun ts K => as1 ts fun t0 => arC (pL (.int .u8)) t0 fun b => chk (b.length ≤ 1048576 ∧ U8s b) (K (stateOfT (stateOf b)) [])⟩
theorem run_spec_StateOf (b : List (FT.Ty (.int .u8))) (hpre : b.length ≤ 1048576 ∧ U8s b) : runK [c_spec_StateBytes, c_spec_MemoryNew, c_spec_WordOf] (40) [] pf_spec_StateOf [tL false (.int .u8) b] fun r o => r = stateOfT (stateOf b) ∧ o = [] := by
  obtain ⟨l1, l2⟩ := hpre
  conv => whnf
  refine loop (α := Nat × List Word × Int) (fun q => ⟨[(0, .v (.c (.sl false (.int .u8) 0))), (2, .v (.c (.ptr 1 0))), (4, .v (.c (.ptr 2 0))), (5, .v (.c (.int .i64 q.2.2))), (6, .v (.c (.sl true .word 5)))],
        [(5, some (.flat true .word none q.2.1)), (4, some (.flat true .bool none memNew.gone)), (3, some (.flat true .word none memNew.words)), (2, some (.box true [.nils .word, .int .i64 0, .ff, .int .i64 0, .int .i64 0, .int .i64 0, .int .i64 0, .sl false .word 3, .sl false .bool 4, .int .i64 0])), (1, some (.box true [.nils .word, .int .i64 0, .ff, .int .i64 0, .int .i64 0, .int .i64 0, .int .i64 0, .nils .word, .nils .bool, .int .i64 0])), (0, some (.flat false (.int .u8) none b))], nums.tail.tail.tail.tail.tail.tail, [], false, []⟩)
    (fun q => q.1 ≤ 33 ∧ q.2.1.length = q.1 ∧ 0 ≤ q.2.2 ∧ q.2.2 ≤ b.length ∧ stateOfGo b (33 - q.1) q.2.1 q.2.2 = stateOfGo b 33 [] 0) (fun q => 33 - q.1) (fun q R hI hR => ?_) (0, [], 0) _ ⟨by simp, by simp, by simp, by simp, rfl⟩ (by simp)
  obtain ⟨i, ws, a⟩ := q
  obtain ⟨hi, hw, ha0, ha1, hg⟩ := hI
  dsimp only at hi hw ha0 ha1 hg
  dsimp only
  conv => whnf
  refine sel_i (fun h2 => ?_) (fun h2 => ?_)
  · have h2 : (ws.length : Int) < 33 := of_decide_eq_true h2
    conv => whnf
    repeat' (first | (refine sel_i (fun h => ?_) (fun h => ?_) <;> conv => whnf) | (refine chk_c ?_ ?_ <;> conv => whnf) | (refine And.intro ?_ rfl) | (refine And.intro ?_ ?_ <;> conv => whnf))
    all_goals first
      | (refine ⟨?_⟩; exact ⟨l1, l2, wf64 (by omega)⟩)
      | (refine ⟨?_⟩; simp only [List.length_cons, List.length_nil]; omega)
      | (have h : (wordOf b a).isSome = true := by simpa using h
         exact hR (i + 1, ws ++ [((wordOf b a).getD zWI).1], ((wordOf b a).getD zWI).2) ⟨by dsimp only; omega, by simp [hw], (stateOfGo_in h ha0).1, (stateOfGo_in h ha0).2, stateOfGo_step hg (by omega) h⟩ (by dsimp only; omega))
      | (rw [stateOf_none (stateOfGo_stop hg (by omega) (by simpa using h))]; rfl)
      | trace_state
  have h2 : ¬ (ws.length : Int) < 33 := of_decide_eq_false h2
  have hg : stateOfGo b 33 [] 0 = some (ws, a) := by rw [← hg, show 33 - i = 0 by omega]; rfl
  have hw : ws.length = 33 := by omega
  obtain ⟨a, rfl⟩ := Int.eq_ofNat_of_zero_le ha0
  clear h2 hR hi
  have w24 : IntKind.i64.wrap ((a : Int) + 24) = (a : Int) + 24 := wrap_id (by omega) (by omega)
  have w25 : IntKind.i64.wrap ((a : Int) + 24 + 1) = (a : Int) + 25 := by rw [wrap_id (by omega) (by omega)]; omega
  have n24 : ((a : Int) + 24).toNat = a + 24 := by omega
  have v8 : win ws 0 8 = ws.take 8 := rfl
  conv => whnf
  refine sel_i (fun h2 => ?_) (fun h2 => ?_)
  · conv => whnf
    rw [w24, w25] at h2
    rw [stateOf_len hg (by simpa using h2)]; exact ⟨rfl, rfl⟩
  rw [w24, w25] at h2
  have hb : (b.length : Int) = a + 25 := by simpa using h2
  clear h2
  conv => whnf
  repeat' (first | (refine sel_i (fun h => ?_) (fun h => ?_) <;> conv => whnf) | (refine chk_c ?_ ?_ <;> conv => whnf) | (refine And.intro ?_ rfl) | (refine And.intro ?_ ?_ <;> conv => whnf))
  all_goals try (refine ⟨?_⟩; first | (show (0 : Int) ≤ 8 ∧ 8 < (ws.length : Int); omega) | (show 8 < ws.length; omega) | (show (0 : Int) ≤ 8 ∧ 8 ≤ (ws.length : Int); omega) | (simp [win]; omega))
  simp only [tn8, v8, List.nil_append]
  refine loop (α := Nat × List Word × List Bool) (fun q => ⟨[(0, .v (.c (.sl false (.int .u8) 0))), (2, .v (.c (.ptr 1 0))), (4, .v (.c (.ptr 2 0))), (5, .v (.c (.int .i64 (a : Int)))), (6, .v (.c (.sl true .word 6))), (10, .v (.c (.int .i64 (q.1 : Int))))],
        [(6, some (.flat true .word none ws)), (5, some (.flat true .bool none q.2.2)), (4, some (.flat true .word none q.2.1)), (3, some (.flat true .word none (List.take 8 ws))), (2, some (.box true [.sl true .word 3, .int .i64 (ws.getD 8 (FT.zero .word)).n, .bool (ws.getD 8 (FT.zero .word)).is, .int .i64 (ws.getD 8 (FT.zero .word)).key.base, .int .i64 (ws.getD 8 (FT.zero .word)).key.top, .int .i64 (ws.getD 8 (FT.zero .word)).key.perms, .int .i64 (ws.getD 8 (FT.zero .word)).key.sealed, .sl false .word 4, .sl false .bool 5, .int .i64 0])), (1, some (.box true [.nils .word, .int .i64 0, .ff, .int .i64 0, .int .i64 0, .int .i64 0, .int .i64 0, .nils .word, .nils .bool, .int .i64 0])), (0, some (.flat false (.int .u8) none b))], nums.tail.tail.tail.tail.tail.tail.tail, [], false, []⟩)
    (fun q => q.1 ≤ 24 ∧ q.2.1 = (ws.drop 9).take q.1 ++ memNew.words.drop q.1 ∧ q.2.2 = ((win b a 24).map (fun v => v == 1)).take q.1 ++ memNew.gone.drop q.1) (fun q => 24 - q.1) (fun q R hI hR => ?_) (0, memNew.words, memNew.gone) _ ⟨by simp, by simp, by simp⟩ (by simp)
  obtain ⟨k, us, gs⟩ := q
  obtain ⟨hk, hus, hgs⟩ := hI
  dsimp only at hk hus hgs
  have hl : (win b a 24).length = 24 := win_len (by omega)
  have hul : us.length = 24 := by rw [hus]; simp [memNew]; omega
  have hgl : gs.length = 24 := by rw [hgs]; simp [memNew, hl]; omega
  dsimp only
  conv => whnf
  refine sel_i (fun h2 => ?_) (fun h2 => ?_)
  · have h2 : (k : Int) < 24 := of_decide_eq_true h2
    have w9 : IntKind.i64.wrap (9 + (k : Int)) = 9 + (k : Int) := wrap_id (by omega) (by omega)
    have n9 : (9 + (k : Int)).toNat = 9 + k := by omega
    have wk2 : IntKind.i64.wrap ((a : Int) + (k : Int)) = (a : Int) + (k : Int) := wrap_id (by omega) (by omega)
    have nk2 : ((a : Int) + (k : Int)).toNat = a + k := by omega
    conv => whnf
    repeat' (first | (refine sel_i (fun h => ?_) (fun h => ?_) <;> conv => whnf) | (refine chk_c ?_ ?_ <;> conv => whnf) | (refine And.intro ?_ rfl) | (refine And.intro ?_ ?_ <;> conv => whnf))
    all_goals (try simp only [w9, n9, wk2, nk2, Int.toNat_natCast, etaKey, etaWord, zu8] at *)
    all_goals first
      | (refine ⟨?_⟩; omega)
      | (rw [wrap_id (n := (k : Int) + 1) (by omega) (by omega)]
         exact hR (k + 1, us.set k (ws.getD (9 + k) (FT.zero .word)), gs.set k (b.getD (a + k) 0 == 1)) ⟨by dsimp only; omega, by
            dsimp only; rw [hus]; refine set_mid (by simp [memNew]; omega) (by simp [memNew]; omega) ?_
            rw [List.getElem?_drop, List.getElem?_eq_getElem (by omega), List.getD_eq_getElem?_getD, List.getElem?_eq_getElem (by omega)]; rfl, by
            dsimp only; rw [hgs]; refine set_mid (by simp [memNew, hl]) (by simp [memNew]; omega) ?_
            have e := win_at (b := b) (o := a) (i := k) (n := 24) (by omega)
            rw [List.getD_eq_getElem?_getD, List.getElem?_eq_getElem (by omega), Option.getD_some] at e
            rw [← e, List.getElem?_map, List.getElem?_eq_getElem (by omega)]; rfl⟩ (by dsimp only; omega))
      | trace_state
  have h2 : ¬ (k : Int) < 24 := of_decide_eq_false h2
  have hk24 : k = 24 := by omega
  subst hk24
  have hus : us = ws.drop 9 := by rw [hus, show List.drop 24 memNew.words = [] from rfl, List.append_nil, List.take_of_length_le (by rw [List.length_drop]; omega)]
  have hgs : gs = (win b a 24).map (fun v => v == 1) := by rw [hgs, show List.drop 24 memNew.gone = [] from rfl, List.append_nil, List.take_of_length_le (by rw [List.length_map]; omega)]
  subst hus hgs
  clear h2 hR
  have wt : IntKind.i64.wrap (b.getD (a + 24) (FT.zero (.int .u8))) = b.getD (a + 24) 0 := wrap_id (n := b.getD (a + 24) 0) (by have := l2.at (a + 24); omega) (by have := l2.at (a + 24); omega)
  conv => whnf
  repeat' (first | (refine sel_i (fun h => ?_) (fun h => ?_) <;> conv => whnf) | (refine chk_c ?_ ?_ <;> conv => whnf) | (refine And.intro ?_ rfl) | (refine And.intro ?_ ?_ <;> conv => whnf))
  all_goals (try simp only [w24, n24, wt, etaKey, etaWord, etaMemory, etaState] at *)
  all_goals first
    | (refine ⟨?_⟩; omega)
    | (refine ⟨?_⟩; exact ⟨by simp; omega, by simp; omega, by dsimp only; omega⟩)
    | skip
  all_goals (rw [strI_eq (stateBytes_u8 _) l2] at h)
  · rw [stateOf_ne hg (nd_f (p := stateBytes (stateAt b ws a) = b) h)]; rfl
  · rw [stateOf_ok hg hb (nd_t (p := stateBytes (stateAt b ws a) = b) h)]; rfl
theorem ok_spec_StateOf : FunOk Tryz.prog c_spec_StateOf := funOk (E := [c_spec_StateBytes, c_spec_MemoryNew, c_spec_WordOf]) (envOk_cons ok_spec_StateBytes (envOk_cons ok_spec_MemoryNew (envOk_cons ok_spec_WordOf (envOk_nil)))) mixd Tryz.func94 (pf := pf_spec_StateOf) (by kernel_rfl) fun ts K h => by
  obtain ⟨t0, e0, h⟩ := as1_out h
  subst e0
  obtain ⟨b, e1, hq⟩ := arC_out (rd_l (.int .u8)) h
  clear h
  subst e1
  have h := hq
  clear hq
  obtain ⟨hpre, h⟩ := chk_o h
  exact ⟨_, _, h, Nat.le_of_ble_eq_true (show Nat.ble 1 Tryz.f94.ntmps = true by kernel_rfl), _, run_spec_StateOf b hpre⟩

theorem stateOf_some {b : List Int} {s : State} (h : stateOf b = some s) : stateBytes s = b := by
  unfold stateOf at h
  split at h
  · split at h
    · rename_i h2; cases h; exact h2.2
    · cases h
  · cases h
theorem stateBytes_stateOk {s : State} (h : stateBytes s ≠ []) : stateOk s = true := by
  cases e : stateOk s with
  | true => rfl
  | false => exact absurd (stateBytes_no e) h
theorem stateOf_len8 {b : List Int} : LState ((stateOf b).getD zState) 2147483647 := by
  cases e : stateOf b with
  | none => exact ⟨Nat.zero_le _, Nat.zero_le _, Nat.zero_le _⟩
  | some s =>
    have h := stateOf_some e
    have hl : b.length ≠ 0 := by
      unfold stateOf at e
      split at e
      · split at e
        · rename_i ws a _ h2
          rename_i hg
          intro h0
          rw [show b = [] from List.eq_nil_of_length_eq_zero h0] at hg
          have h9 : stateOfGo [] 33 [] 0 = none := rfl
          rw [h9] at hg; cases hg
        · cases e
      · cases e
    have h8 := stateOk_len (stateBytes_stateOk (s := s) (fun q => hl (by rw [← h, q]; rfl)))
    exact h8.l

def inGo (l : List Inst) : Nat → State → State × Nat
  | 0, s => (s, 0)
  | k + 1, s => if s.trap = 0 then ((inGo l k (stepS l s)).1, (inGo l k (stepS l s)).2 + 1) else (s, 0)
def inOrder (l : List Inst) (s : State) (n : Int) : State × Int :=
  if stateOk s = false then (zState, 0) else ((inGo l (min n 600).toNat s).1, ((inGo l (min n 600).toNat s).2 : Int))
theorem inOrder_no {l : List Inst} {s : State} {n : Int} (h : stateOk s = false) : inOrder l s n = (zState, 0) := if_pos h
theorem inGo_len {l : List Inst} {n : Nat} : ∀ {k : Nat} {s : State}, LState s n → LState (inGo l k s).1 n
  | 0, _, h => h
  | k + 1, s, h => by
    unfold inGo; split
    · exact inGo_len (stepS_len h)
    · exact h
theorem inOrder_len {l : List Inst} {s : State} {n : Int} {m : Nat} (h : LState s m) : LState (inOrder l s n).1 m := by
  unfold inOrder; split
  · exact ⟨Nat.zero_le _, Nat.zero_le _, Nat.zero_le _⟩
  · exact inGo_len h
theorem inGo_step {l : List Inst} {s v : State} {N k : Nat} (h : inGo l N s = ((inGo l (N - k) v).1, (inGo l (N - k) v).2 + k)) (hk : k < N) (ht : v.trap = 0) :
    inGo l N s = ((inGo l (N - (k + 1)) (stepS l v)).1, (inGo l (N - (k + 1)) (stepS l v)).2 + (k + 1)) := by
  rw [h, show N - k = (N - (k + 1)) + 1 by omega]
  rw [show inGo l ((N - (k + 1)) + 1) v = ((inGo l (N - (k + 1)) (stepS l v)).1, (inGo l (N - (k + 1)) (stepS l v)).2 + 1) from if_pos ht]
  simp only [Prod.mk.injEq, true_and]; omega
theorem inGo_end {l : List Inst} {s v : State} {N k : Nat} (h : inGo l N s = ((inGo l (N - k) v).1, (inGo l (N - k) v).2 + k)) (hk : ¬ k < N) : inGo l N s = (v, k) := by
  rw [h, show N - k = 0 by omega]; simp [inGo]
theorem inGo_trap {l : List Inst} {s v : State} {N k : Nat} (h : inGo l N s = ((inGo l (N - k) v).1, (inGo l (N - k) v).2 + k)) (ht : ¬ v.trap = 0) : inGo l N s = (v, k) := by
  rw [h]
  cases e : N - k with
  | zero => simp [inGo]
  | succ m => rw [show inGo l (m + 1) v = (v, 0) from if_neg ht]; simp
theorem inOrder_of {l : List Inst} {s v : State} {n : Int} {k : Nat} (h : stateOk s = true) (hg : inGo l (min n 600).toNat s = (v, k)) : inOrder l s n = (v, (k : Int)) := by
  unfold inOrder; rw [if_neg (by rw [h]; decide), hg]

def stC (v : State) (i j k : Nat) (r : List Cell) : List Cell := .sl false .word i :: v.pc.flat (.sl false .word j :: .sl false .bool k :: .int .i64 v.trap :: r)
def zSC : List Cell := [.nils .word, .int .i64 0, .ff, .int .i64 0, .int .i64 0, .int .i64 0, .int .i64 0, .nils .word, .nils .bool, .int .i64 0]

def lb_impl_InOrder_0 : PC := .seq (.seq (.reg [.s (.mv 16 (.t 9)), .s (.mv 17 (.t 2)), .s (.mm 18 false (.t 17) (.k (.v (.c (.int .i64 600))))), .s (.bin 19 .lss (.t 16) (.t 18)), .s (.mv 20 (.t 19)), .g 20 true (some 21) (.fa 21 (.t 8) 9), .g 20 true (some 22) (.load 22 false 1 (.t 21)), .g 20 true (some 23) (.bin 23 .eql (.t 22) (.k (.v (.c (.int .i64 0))))), .s (.pick 24 (.t 20) (.t 23) (.k (.v (.c .ff))))]) (.cond (.t 24) (.skip) (.exit 0))) (.blk 1 (.seq (.reg [.s (.mv 25 (.t 0)), .s (.load 26 true 10 (.t 8)), .s (.call (some 27) 16 [(.t 25), (.t 26)]), .s (.store 10 (.t 8) (.t 27))]) (.reg [.s (.mv 28 (.t 9)), .s (.bin 29 .add (.t 28) (.k (.v (.c (.int .i64 1))))), .s (.mv 9 (.t 29))])))
def pf_impl_InOrder : PF := ⟨[.c 6 true 10, .t 7], .seq (.reg [.s (.box 4 (.t 1)), .s (.alloc 6 [.nils .word, .int .i64 0, .ff, .int .i64 0, .int .i64 0, .int .i64 0, .int .i64 0, .nils .word, .nils .bool, .int .i64 0]), .s (.mv 7 (.k (.v (.c (.int .i64 0)))))]) (.seq (.seq (.reg [.s (.load 10 true 10 (.t 4)), .s (.call (some 11) 12 [(.t 10)]), .s (.bnot 12 (.t 11))]) (.cond (.t 12) (.seq (.reg [.s (.build 13 [.nils .word, .int .i64 0, .ff, .int .i64 0, .int .i64 0, .int .i64 0, .int .i64 0, .nils .word, .nils .bool, .int .i64 0] []), .s (.store 10 (.t 6) (.t 13)), .s (.mv 7 (.k (.v (.c (.int .i64 0)))))]) (.ret)) (.skip))) (.seq (.reg [.s (.load 14 true 10 (.t 4)), .s (.call (some 15) 77 [(.t 14)]), .s (.alloc 8 [.nils .word, .int .i64 0, .ff, .int .i64 0, .int .i64 0, .int .i64 0, .int .i64 0, .nils .word, .nils .bool, .int .i64 0]), .s (.store 10 (.t 8) (.t 15))]) (.seq (.reg [.s (.mv 9 (.k (.v (.c (.int .i64 0)))))]) (.seq (.blk 0 (.loop [0, 2, 6, 8, 9] lb_impl_InOrder_0)) (.seq (.reg [.s (.load 30 true 10 (.t 8)), .s (.mv 31 (.t 9)), .s (.store 10 (.t 6) (.t 30)), .s (.mv 7 (.t 31))]) (.ret))))))⟩
def c_impl_InOrder : Fun := ⟨19, [], fun ts K => as3 ts fun t0 t1 t2 => arC (pL .inst) t0 fun l => arG pStateT t1 fun s => arC (pI .i64) t2 fun n => chk (l.length ≤ 2147483647 ∧ LState s 2147483647) (K (.tup [.g ((inOrder l s n).1.tc true []), .c (.int .i64 (inOrder l s n).2)]) [])⟩
theorem run_impl_InOrder (l : List (FT.Ty .inst)) (s : State) (n : Int) (hpre : l.length ≤ 2147483647 ∧ LState s 2147483647) : runK [c_impl_StateOk, c_impl_Step, c_impl_cloneState] (602) [] pf_impl_InOrder [tL false .inst l, tG (s.tc false []), tI .i64 n] fun r o => r = .tup [.g ((inOrder l s n).1.tc true []), .c (.int .i64 (inOrder l s n).2)] ∧ o = [] := by
  obtain ⟨l1, l2⟩ := hpre
  conv => whnf
  refine chk_i l2 ?_
  conv => whnf
  refine sel_i (fun h => ?_) (fun h => ?_)
  · conv => whnf
    rw [inOrder_no (by simpa using h)]
    exact ⟨rfl, rfl⟩
  have hok : stateOk s = true := by simpa [etaKey, etaWord, etaMemory, etaState] using h
  clear h
  conv => whnf
  refine chk_i l2 ?_
  conv => whnf
  refine loop (α := Nat × State) (fun q => ⟨[(0, .v (.c (.sl false .inst 0))), (2, .v (.c (.int .i64 n))), (6, .v (.c (.ptr 1 0))), (8, .v (.c (.ptr 2 0))), (9, .v (.c (.int .i64 (q.1 : Int))))],
        [(5, some (.flat true .bool none q.2.mem.gone)), (4, some (.flat true .word none q.2.mem.words)), (3, some (.flat true .word none q.2.regs)), (2, some (.box true (stC q.2 3 4 5 []))), (1, some (.box true zSC)), (0, some (.flat false .inst none l))], nums.tail.tail.tail.tail.tail.tail, [], false, []⟩)
    (fun q => q.1 ≤ (min n 600).toNat ∧ LState q.2 2147483647 ∧ inGo l (min n 600).toNat s = ((inGo l ((min n 600).toNat - q.1) q.2).1, (inGo l ((min n 600).toNat - q.1) q.2).2 + q.1)) (fun q => 601 - q.1) (fun q R hI hR => ?_) (0, s) _ ⟨by simp, l2, rfl⟩ (by simp)
  obtain ⟨k, v⟩ := q
  obtain ⟨hk, hl, hg⟩ := hI
  dsimp only at hk hl hg
  dsimp only
  conv => whnf
  repeat' (first | (refine sel_i (fun h => ?_) (fun h => ?_) <;> conv => whnf) | (refine chk_c ?_ ?_ <;> conv => whnf) | (refine And.intro ?_ rfl) | (refine And.intro ?_ ?_ <;> conv => whnf))
  all_goals (try simp only [etaKey, etaWord, etaMemory, etaState, decide_eq_true_eq, decide_eq_false_iff_not, beq_iff_eq, beq_eq_false_iff_ne, ne_eq, Bool.false_eq_true] at *)
  all_goals first
    | (refine ⟨?_⟩; exact ⟨by assumption, by assumption⟩)
    | (rw [wrap_id (n := (k : Int) + 1) (by omega) (by omega)]; exact hR (k + 1, stepS l v) ⟨by dsimp only; omega, stepS_len hl, inGo_step hg (by omega) (by assumption)⟩ (by dsimp only; omega))
    | (rw [inOrder_of hok (inGo_end hg (by omega))]; rfl)
    | (rw [inOrder_of hok (inGo_trap hg (by assumption))]; rfl)
    | trace_state
theorem ok_impl_InOrder : FunOk Tryz.prog c_impl_InOrder := funOk (E := [c_impl_StateOk, c_impl_Step, c_impl_cloneState]) (envOk_cons ok_impl_StateOk (envOk_cons ok_impl_Step (envOk_cons ok_impl_cloneState (envOk_nil)))) mixd Tryz.func19 (pf := pf_impl_InOrder) (by kernel_rfl) fun ts K h => by
  obtain ⟨t0, t1, t2, e0, h⟩ := as3_out h
  subst e0
  obtain ⟨l, e1, hq⟩ := arC_out (rd_l .inst) h
  clear h
  subst e1
  have h := hq
  clear hq
  obtain ⟨s, e1, hq⟩ := arG_out rd_state h
  clear h
  subst e1
  have h := hq
  clear hq
  obtain ⟨n, e1, hq⟩ := arC_out (rd_int .i64) h
  clear h
  subst e1
  have h := hq
  clear hq
  obtain ⟨hpre, h⟩ := chk_o h
  exact ⟨_, _, h, Nat.le_of_ble_eq_true (show Nat.ble 3 Tryz.f19.ntmps = true by kernel_rfl), _, run_impl_InOrder l s n hpre⟩

def lb_spec_InOrder_0 : PC := .seq (.seq (.reg [.s (.mv 16 (.t 9)), .s (.mv 17 (.t 2)), .s (.call (some 18) 84 [(.t 17), (.k (.v (.c (.int .i64 600))))]), .s (.bin 19 .lss (.t 16) (.t 18)), .s (.mv 20 (.t 19)), .g 20 true (some 21) (.fa 21 (.t 8) 9), .g 20 true (some 22) (.load 22 false 1 (.t 21)), .g 20 true (some 23) (.bin 23 .eql (.t 22) (.k (.v (.c (.int .i64 0))))), .s (.pick 24 (.t 20) (.t 23) (.k (.v (.c .ff))))]) (.cond (.t 24) (.skip) (.exit 0))) (.blk 1 (.seq (.reg [.s (.mv 25 (.t 0)), .s (.load 26 true 10 (.t 8)), .s (.call (some 27) 85 [(.t 25), (.t 26)]), .s (.store 10 (.t 8) (.t 27))]) (.reg [.s (.mv 28 (.t 9)), .s (.bin 29 .add (.t 28) (.k (.v (.c (.int .i64 1))))), .s (.mv 9 (.t 29))])))
def pf_spec_InOrder : PF := ⟨[.c 6 true 10, .t 7], .seq (.reg [.s (.box 4 (.t 1)), .s (.alloc 6 [.nils .word, .int .i64 0, .ff, .int .i64 0, .int .i64 0, .int .i64 0, .int .i64 0, .nils .word, .nils .bool, .int .i64 0]), .s (.mv 7 (.k (.v (.c (.int .i64 0)))))]) (.seq (.seq (.reg [.s (.load 10 true 10 (.t 4)), .s (.call (some 11) 82 [(.t 10)]), .s (.bnot 12 (.t 11))]) (.cond (.t 12) (.seq (.reg [.s (.build 13 [.nils .word, .int .i64 0, .ff, .int .i64 0, .int .i64 0, .int .i64 0, .int .i64 0, .nils .word, .nils .bool, .int .i64 0] []), .s (.store 10 (.t 6) (.t 13)), .s (.mv 7 (.k (.v (.c (.int .i64 0)))))]) (.ret)) (.skip))) (.seq (.reg [.s (.load 14 true 10 (.t 4)), .s (.call (some 15) 83 [(.t 14)]), .s (.alloc 8 [.nils .word, .int .i64 0, .ff, .int .i64 0, .int .i64 0, .int .i64 0, .int .i64 0, .nils .word, .nils .bool, .int .i64 0]), .s (.store 10 (.t 8) (.t 15))]) (.seq (.reg [.s (.mv 9 (.k (.v (.c (.int .i64 0)))))]) (.seq (.blk 0 (.loop [0, 2, 6, 8, 9] lb_spec_InOrder_0)) (.seq (.reg [.s (.load 30 true 10 (.t 8)), .s (.mv 31 (.t 9)), .s (.store 10 (.t 6) (.t 30)), .s (.mv 7 (.t 31))]) (.ret))))))⟩
def c_spec_InOrder : Fun := ⟨20, [], fun ts K => as3 ts fun t0 t1 t2 => arC (pL .inst) t0 fun l => arG pStateT t1 fun s => arC (pI .i64) t2 fun n => chk (l.length ≤ 2147483647 ∧ LState s 2147483647) (K (.tup [.g ((inOrder l s n).1.tc true []), .c (.int .i64 (inOrder l s n).2)]) [])⟩
theorem run_spec_InOrder (l : List (FT.Ty .inst)) (s : State) (n : Int) (hpre : l.length ≤ 2147483647 ∧ LState s 2147483647) : runK [c_spec_StateOk, c_spec_l9Copy, c_spec_l1Min, c_spec_Step] (602) [] pf_spec_InOrder [tL false .inst l, tG (s.tc false []), tI .i64 n] fun r o => r = .tup [.g ((inOrder l s n).1.tc true []), .c (.int .i64 (inOrder l s n).2)] ∧ o = [] := by
  obtain ⟨l1, l2⟩ := hpre
  conv => whnf
  refine chk_i l2 ?_
  conv => whnf
  refine sel_i (fun h => ?_) (fun h => ?_)
  · conv => whnf
    rw [inOrder_no (by simpa using h)]
    exact ⟨rfl, rfl⟩
  have hok : stateOk s = true := by simpa [etaKey, etaWord, etaMemory, etaState] using h
  clear h
  conv => whnf
  refine chk_i l2 ?_
  conv => whnf
  refine loop (α := Nat × State) (fun q => ⟨[(0, .v (.c (.sl false .inst 0))), (2, .v (.c (.int .i64 n))), (6, .v (.c (.ptr 1 0))), (8, .v (.c (.ptr 2 0))), (9, .v (.c (.int .i64 (q.1 : Int))))],
        [(5, some (.flat true .bool none q.2.mem.gone)), (4, some (.flat true .word none q.2.mem.words)), (3, some (.flat true .word none q.2.regs)), (2, some (.box true (stC q.2 3 4 5 []))), (1, some (.box true zSC)), (0, some (.flat false .inst none l))], nums.tail.tail.tail.tail.tail.tail, [], false, []⟩)
    (fun q => q.1 ≤ (min n 600).toNat ∧ LState q.2 2147483647 ∧ inGo l (min n 600).toNat s = ((inGo l ((min n 600).toNat - q.1) q.2).1, (inGo l ((min n 600).toNat - q.1) q.2).2 + q.1)) (fun q => 601 - q.1) (fun q R hI hR => ?_) (0, s) _ ⟨by simp, l2, rfl⟩ (by simp)
  obtain ⟨k, v⟩ := q
  obtain ⟨hk, hl, hg⟩ := hI
  dsimp only at hk hl hg
  dsimp only
  conv => whnf
  repeat' (first | (refine sel_i (fun h => ?_) (fun h => ?_) <;> conv => whnf) | (refine chk_c ?_ ?_ <;> conv => whnf) | (refine And.intro ?_ rfl) | (refine And.intro ?_ ?_ <;> conv => whnf))
  all_goals (try simp only [etaKey, etaWord, etaMemory, etaState, decide_eq_true_eq, decide_eq_false_iff_not, beq_iff_eq, beq_eq_false_iff_ne, ne_eq, Bool.false_eq_true] at *)
  all_goals first
    | (refine ⟨?_⟩; exact ⟨by assumption, by assumption⟩)
    | (rw [wrap_id (n := (k : Int) + 1) (by omega) (by omega)]; exact hR (k + 1, stepS l v) ⟨by dsimp only; omega, stepS_len hl, inGo_step hg (by omega) (by assumption)⟩ (by dsimp only; omega))
    | (rw [inOrder_of hok (inGo_end hg (by omega))]; rfl)
    | (rw [inOrder_of hok (inGo_trap hg (by assumption))]; rfl)
    | trace_state
theorem ok_spec_InOrder : FunOk Tryz.prog c_spec_InOrder := funOk (E := [c_spec_StateOk, c_spec_l9Copy, c_spec_l1Min, c_spec_Step]) (envOk_cons ok_spec_StateOk (envOk_cons ok_spec_l9Copy (envOk_cons ok_spec_l1Min (envOk_cons ok_spec_Step (envOk_nil))))) mixd Tryz.func20 (pf := pf_spec_InOrder) (by kernel_rfl) fun ts K h => by
  obtain ⟨t0, t1, t2, e0, h⟩ := as3_out h
  subst e0
  obtain ⟨l, e1, hq⟩ := arC_out (rd_l .inst) h
  clear h
  subst e1
  have h := hq
  clear hq
  obtain ⟨s, e1, hq⟩ := arG_out rd_state h
  clear h
  subst e1
  have h := hq
  clear hq
  obtain ⟨n, e1, hq⟩ := arC_out (rd_int .i64) h
  clear h
  subst e1
  have h := hq
  clear hq
  obtain ⟨hpre, h⟩ := chk_o h
  exact ⟨_, _, h, Nat.le_of_ble_eq_true (show Nat.ble 3 Tryz.f20.ntmps = true by kernel_rfl), _, run_spec_InOrder l s n hpre⟩

def goes (l : List Inst) (b : List Int) (n : Int) : List Int × Bool :=
  match stateOf b with
  | some s => (stateBytes (inOrder l s n).1, true)
  | none => ([], false)
theorem goes_no {l : List Inst} {b : List Int} {n : Int} (h : (stateOf b).isSome = false) : goes l b n = ([], false) := by
  unfold goes; cases e : stateOf b with
  | none => rfl
  | some s => rw [e] at h; cases h
theorem goes_ok {l : List Inst} {b : List Int} {n : Int} (h : (stateOf b).isSome = true) : goes l b n = (stateBytes (inOrder l ((stateOf b).getD zState) n).1, true) := by
  unfold goes; cases e : stateOf b with
  | none => rw [e] at h; cases h
  | some s => rfl
def pf_impl_Goes : PF := ⟨[.t 6, .t 7], .seq (.reg [.s (.mv 6 (.k (.v (.c (.nils (.int .u8)))))), .s (.mv 7 (.k (.v (.c .ff))))]) (.seq (.reg [.s (.mv 13 (.t 1)), .s (.call (some 14) 29 [(.t 13)]), .s (.mv 12 (.t 14)), .s (.ext 15 (.t 12) 0), .s (.ext 16 (.t 12) 1), .s (.alloc 8 [.nils .word, .int .i64 0, .ff, .int .i64 0, .int .i64 0, .int .i64 0, .int .i64 0, .nils .word, .nils .bool, .int .i64 0]), .s (.store 10 (.t 8) (.t 15)), .s (.mv 9 (.t 16))]) (.seq (.seq (.reg [.s (.mv 17 (.t 9)), .s (.bnot 18 (.t 17))]) (.cond (.t 18) (.seq (.reg [.s (.mv 6 (.k (.v (.c (.nils (.int .u8)))))), .s (.mv 7 (.k (.v (.c .ff))))]) (.ret)) (.skip))) (.seq (.reg [.s (.mv 20 (.t 0)), .s (.load 21 true 10 (.t 8)), .s (.mv 22 (.t 2)), .s (.call (some 23) 19 [(.t 20), (.t 21), (.t 22)]), .s (.mv 19 (.t 23)), .s (.ext 24 (.t 19) 0), .s (.ext 25 (.t 19) 1), .s (.alloc 10 [.nils .word, .int .i64 0, .ff, .int .i64 0, .int .i64 0, .int .i64 0, .int .i64 0, .nils .word, .nils .bool, .int .i64 0]), .s (.store 10 (.t 10) (.t 24)), .s (.mv 11 (.t 25))]) (.seq (.reg [.s (.load 26 true 10 (.t 10)), .s (.call (some 27) 31 [(.t 26)]), .s (.mv 6 (.t 27)), .s (.mv 7 (.k (.v (.c .tt))))]) (.ret)))))⟩
def c_impl_Goes : Fun := ⟨27, [], fun ts K => as3 ts fun t0 t1 t2 => arC (pL .inst) t0 fun l => arC (pL (.int .u8)) t1 fun b => arC (pI .i64) t2 fun n => chk (l.length ≤ 2147483647 ∧ b.length ≤ 1048576 ∧ U8s b) (K (.tup [.c (tl true (.int .u8) (goes l b n).1), .c (.bool (goes l b n).2)]) [])⟩
theorem run_impl_Goes (l : List (FT.Ty .inst)) (b : List (FT.Ty (.int .u8))) (n : Int) (hpre : l.length ≤ 2147483647 ∧ b.length ≤ 1048576 ∧ U8s b) : runK [c_impl_InOrder, c_impl_StateOf, c_impl_StateBytes] (0) [] pf_impl_Goes [tL false .inst l, tL false (.int .u8) b, tI .i64 n] fun r o => r = .tup [.c (tl true (.int .u8) (goes l b n).1), .c (.bool (goes l b n).2)] ∧ o = [] := by
  obtain ⟨l1, l2⟩ := hpre
  have hl := stateOf_len8 (b := b)
  have h2 := inOrder_len (l := l) (n := n) hl
  conv => whnf
  repeat' (first | (refine sel_i (fun h => ?_) (fun h => ?_) <;> conv => whnf) | (refine chk_c ?_ ?_ <;> conv => whnf) | (refine And.intro ?_ rfl) | (refine And.intro ?_ ?_ <;> conv => whnf))
  all_goals (try simp only [etaKey, etaWord, etaMemory, etaState] at *)
  all_goals first
    | (refine ⟨?_⟩; assumption)
    | (refine ⟨?_⟩; exact ⟨l1, hl⟩)
    | (rw [goes_no (by simpa using h)])
    | (rw [goes_ok (by simpa using h)])
    | trace_state
theorem ok_impl_Goes : FunOk Tryz.prog c_impl_Goes := funOk (E := [c_impl_InOrder, c_impl_StateOf, c_impl_StateBytes]) (envOk_cons ok_impl_InOrder (envOk_cons ok_impl_StateOf (envOk_cons ok_impl_StateBytes (envOk_nil)))) mixd Tryz.func27 (pf := pf_impl_Goes) (by kernel_rfl) fun ts K h => by
  obtain ⟨t0, t1, t2, e0, h⟩ := as3_out h
  subst e0
  obtain ⟨l, e1, hq⟩ := arC_out (rd_l .inst) h
  clear h
  subst e1
  have h := hq
  clear hq
  obtain ⟨b, e1, hq⟩ := arC_out (rd_l (.int .u8)) h
  clear h
  subst e1
  have h := hq
  clear hq
  obtain ⟨n, e1, hq⟩ := arC_out (rd_int .i64) h
  clear h
  subst e1
  have h := hq
  clear hq
  obtain ⟨hpre, h⟩ := chk_o h
  exact ⟨_, _, h, Nat.le_of_ble_eq_true (show Nat.ble 3 Tryz.f27.ntmps = true by kernel_rfl), _, run_impl_Goes l b n hpre⟩

def pf_spec_Goes : PF := ⟨[.t 6, .t 7], .seq (.reg [.s (.mv 6 (.k (.v (.c (.nils (.int .u8)))))), .s (.mv 7 (.k (.v (.c .ff))))]) (.seq (.reg [.s (.mv 13 (.t 1)), .s (.call (some 14) 94 [(.t 13)]), .s (.mv 12 (.t 14)), .s (.ext 15 (.t 12) 0), .s (.ext 16 (.t 12) 1), .s (.alloc 8 [.nils .word, .int .i64 0, .ff, .int .i64 0, .int .i64 0, .int .i64 0, .int .i64 0, .nils .word, .nils .bool, .int .i64 0]), .s (.store 10 (.t 8) (.t 15)), .s (.mv 9 (.t 16))]) (.seq (.seq (.reg [.s (.mv 17 (.t 9)), .s (.bnot 18 (.t 17))]) (.cond (.t 18) (.seq (.reg [.s (.bs 19 (.int .u8) []), .s (.mv 6 (.t 19)), .s (.mv 7 (.k (.v (.c .ff))))]) (.ret)) (.skip))) (.seq (.reg [.s (.mv 21 (.t 0)), .s (.load 22 true 10 (.t 8)), .s (.mv 23 (.t 2)), .s (.call (some 24) 20 [(.t 21), (.t 22), (.t 23)]), .s (.mv 20 (.t 24)), .s (.ext 25 (.t 20) 0), .s (.ext 26 (.t 20) 1), .s (.alloc 10 [.nils .word, .int .i64 0, .ff, .int .i64 0, .int .i64 0, .int .i64 0, .int .i64 0, .nils .word, .nils .bool, .int .i64 0]), .s (.store 10 (.t 10) (.t 25)), .s (.mv 11 (.t 26))]) (.seq (.reg [.s (.load 27 true 10 (.t 10)), .s (.call (some 28) 91 [(.t 27)]), .s (.mv 6 (.t 28)), .s (.mv 7 (.k (.v (.c .tt))))]) (.ret)))))⟩
def c_spec_Goes : Fun := ⟨28, [], fun ts K => as3 ts fun t0 t1 t2 => arC (pL .inst) t0 fun l => arC (pL (.int .u8)) t1 fun b => arC (pI .i64) t2 fun n => chk (l.length ≤ 2147483647 ∧ b.length ≤ 1048576 ∧ U8s b) (K (.tup [.c (tl true (.int .u8) (goes l b n).1), .c (.bool (goes l b n).2)]) [])⟩
theorem run_spec_Goes (l : List (FT.Ty .inst)) (b : List (FT.Ty (.int .u8))) (n : Int) (hpre : l.length ≤ 2147483647 ∧ b.length ≤ 1048576 ∧ U8s b) : runK [c_spec_InOrder, c_spec_StateBytes, c_spec_StateOf] (0) [] pf_spec_Goes [tL false .inst l, tL false (.int .u8) b, tI .i64 n] fun r o => r = .tup [.c (tl true (.int .u8) (goes l b n).1), .c (.bool (goes l b n).2)] ∧ o = [] := by
  obtain ⟨l1, l2⟩ := hpre
  have hl := stateOf_len8 (b := b)
  have h2 := inOrder_len (l := l) (n := n) hl
  conv => whnf
  repeat' (first | (refine sel_i (fun h => ?_) (fun h => ?_) <;> conv => whnf) | (refine chk_c ?_ ?_ <;> conv => whnf) | (refine And.intro ?_ rfl) | (refine And.intro ?_ ?_ <;> conv => whnf))
  all_goals (try simp only [etaKey, etaWord, etaMemory, etaState] at *)
  all_goals first
    | (refine ⟨?_⟩; assumption)
    | (refine ⟨?_⟩; exact ⟨l1, hl⟩)
    | (rw [goes_no (by simpa using h)])
    | (rw [goes_ok (by simpa using h)])
    | trace_state
theorem ok_spec_Goes : FunOk Tryz.prog c_spec_Goes := funOk (E := [c_spec_InOrder, c_spec_StateBytes, c_spec_StateOf]) (envOk_cons ok_spec_InOrder (envOk_cons ok_spec_StateBytes (envOk_cons ok_spec_StateOf (envOk_nil)))) mixd Tryz.func28 (pf := pf_spec_Goes) (by kernel_rfl) fun ts K h => by
  obtain ⟨t0, t1, t2, e0, h⟩ := as3_out h
  subst e0
  obtain ⟨l, e1, hq⟩ := arC_out (rd_l .inst) h
  clear h
  subst e1
  have h := hq
  clear hq
  obtain ⟨b, e1, hq⟩ := arC_out (rd_l (.int .u8)) h
  clear h
  subst e1
  have h := hq
  clear hq
  obtain ⟨n, e1, hq⟩ := arC_out (rd_int .i64) h
  clear h
  subst e1
  have h := hq
  clear hq
  obtain ⟨hpre, h⟩ := chk_o h
  exact ⟨_, _, h, Nat.le_of_ble_eq_true (show Nat.ble 3 Tryz.f28.ntmps = true by kernel_rfl), _, run_spec_Goes l b n hpre⟩

/-! words that are right, and what they are under -/
theorem wrap_bv (n : Int) : BitVec.ofInt IntKind.i64.bits (IntKind.i64.wrap n) = BitVec.ofInt IntKind.i64.bits n := by
  apply BitVec.eq_of_toNat_eq
  simp only [BitVec.toNat_ofInt, IntKind.wrap_i64]
  show (_ % (18446744073709551616 : Int)).toNat = (n % (18446744073709551616 : Int)).toNat
  omega
theorem andI_bv (a b : Int) : BitVec.ofInt IntKind.i64.bits (andI a b) = BitVec.ofInt IntKind.i64.bits a &&& BitVec.ofInt IntKind.i64.bits b := by
  unfold andI
  rw [wrap_bv, BitVec.ofInt_natCast, BitVec.ofNat_toNat, BitVec.setWidth_eq]
theorem andI_comm (a b : Int) : andI a b = andI b a := by unfold andI; rw [BitVec.and_comm]
theorem andI_assoc (a b c : Int) : andI (andI a b) c = andI a (andI b c) := by
  have h1 : andI (andI a b) c = IntKind.i64.wrap ((BitVec.ofInt IntKind.i64.bits a &&& BitVec.ofInt IntKind.i64.bits b) &&& BitVec.ofInt IntKind.i64.bits c).toNat := by rw [← andI_bv]; rfl
  have h2 : andI a (andI b c) = IntKind.i64.wrap (BitVec.ofInt IntKind.i64.bits a &&& (BitVec.ofInt IntKind.i64.bits b &&& BitVec.ofInt IntKind.i64.bits c)).toNat := by rw [← andI_bv]; rfl
  rw [h1, h2, BitVec.and_assoc]
theorem andI_zero (a : Int) : andI a 0 = 0 := by
  unfold andI
  rw [show BitVec.ofInt IntKind.i64.bits 0 = 0#_ from rfl, BitVec.and_zero]; rfl
theorem andI_nat {m n : Nat} (h : n < 9223372036854775808) : andI (m : Int) (n : Int) = ((m % 18446744073709551616 &&& n : Nat) : Int) := by
  unfold andI
  rw [BitVec.ofInt_natCast, BitVec.ofInt_natCast, BitVec.toNat_and, BitVec.toNat_ofNat, BitVec.toNat_ofNat]
  show IntKind.i64.wrap ((m % 18446744073709551616 &&& n % 18446744073709551616 : Nat) : Int) = _
  rw [Nat.mod_eq_of_lt (a := n) (by omega)]
  have : m % 18446744073709551616 &&& n ≤ n := Nat.and_le_right
  exact wrap_id (by omega) (by omega)
theorem andI_le (a : Int) {p : Int} (h : 0 ≤ p) (h2 : p < 9223372036854775808) : 0 ≤ andI a p ∧ andI a p ≤ p := by
  obtain ⟨n, rfl⟩ := Int.eq_ofNat_of_zero_le h
  unfold andI
  have h1 : (BitVec.ofInt IntKind.i64.bits a &&& BitVec.ofInt IntKind.i64.bits (n : Int)).toNat ≤ n := by
    rw [BitVec.toNat_and, BitVec.ofInt_natCast, BitVec.toNat_ofNat]
    refine Nat.le_trans Nat.and_le_right (Nat.mod_le _ _)
  rw [wrap_id (by omega) (by omega)]; omega
theorem andI_le' {p : Int} (a : Int) (h : 0 ≤ p) (h2 : p < 9223372036854775808) : 0 ≤ andI p a ∧ andI p a ≤ p := by rw [andI_comm]; exact andI_le a h h2
theorem andI_same (a b : Int) : andI a (andI a b) = andI a b := by
  rw [← andI_assoc]
  have h1 : andI (andI a a) b = IntKind.i64.wrap ((BitVec.ofInt IntKind.i64.bits a &&& BitVec.ofInt IntKind.i64.bits a) &&& BitVec.ofInt IntKind.i64.bits b).toNat := by rw [← andI_bv]; rfl
  rw [h1, BitVec.and_self]; rfl
theorem andI_self {a : Int} (h : 0 ≤ a) (h2 : a < 9223372036854775808) : andI a a = a := by
  obtain ⟨n, rfl⟩ := Int.eq_ofNat_of_zero_le h
  rw [andI_nat (by omega), Nat.mod_eq_of_lt (by omega), Nat.and_self]
theorem andI_bit {a b p : Int} (h : andI a b = b) (hp : ¬ andI b p = 0) : ¬ andI a p = 0 := fun h0 => hp (by
  rw [← h, andI_comm a b, andI_assoc, h0, andI_zero])

/-! ### bounds -/
theorem packGo_some {b t : Int} {p : Packed} : ∀ {n e0 : Nat}, packGo b t n e0 = some p → ∃ e : Nat, e0 ≤ e ∧ e < e0 + n ∧ p = ⟨e, packB b e, packL b t e⟩ ∧ packOk b t e = true
  | 0, e0, h => by cases h
  | n + 1, e0, h => by
    unfold packGo at h
    split at h
    · rename_i h1; cases h; exact ⟨e0, by omega, by omega, rfl, h1⟩
    · obtain ⟨e, h1, h2, h3, h4⟩ := packGo_some h; exact ⟨e, by omega, by omega, h3, h4⟩
theorem packGo_find {b t : Int} {e : Nat} (hp : packOk b t e = true) : ∀ {n e0 : Nat}, e0 ≤ e → e < e0 + n → ∃ f : Nat, e0 ≤ f ∧ f ≤ e ∧ packGo b t n e0 = some ⟨f, packB b f, packL b t f⟩ ∧ packOk b t f = true
  | 0, e0, h1, h2 => by omega
  | n + 1, e0, h1, h2 => by
    by_cases h : packOk b t e0 = true
    · exact ⟨e0, by omega, h1, packGo_t h, h⟩
    · have hne : e0 ≠ e := fun q => h (q ▸ hp)
      obtain ⟨f, g1, g2, g3, g4⟩ := packGo_find hp (n := n) (e0 := e0 + 1) (by omega) (by omega)
      exact ⟨f, by omega, g2, by rw [packGo_f (by simpa using h)]; exact g3, g4⟩
theorem packOk_n {b t : Int} {e : Nat} (h : packOk b t e = true) : packB b e ≤ 63 ∧ packL b t e ≤ 63 := by simpa [packOk] using h
theorem wide_e {b t : Int} (h : boundsOk b t = true) {e : Nat} (he : e ≤ 6) (hp : pack b t = some ⟨e, packB b e, packL b t e⟩) (ho : packOk b t e = true) :
    wide b t = (packB b e * 2 ^ e, min 4096 ((packB b e + packL b t e) * 2 ^ e)) := by
  obtain ⟨h0, h1, h2⟩ := bounds_n h
  obtain ⟨o1, o2⟩ := packOk_n ho
  have hu : unpackOk ⟨e, packB b e, packL b t e⟩ = true := by
    simp only [unpackOk, Bool.and_eq_true, inR_t]
    unfold packB packL at *
    rcases e_cases he with rfl | rfl | rfl | rfl | rfl | rfl | rfl <;> simp only [Int.reducePow, Int.pow_zero] at * <;> omega
  unfold wide
  rw [if_pos h, hp]
  simp only [Option.isSome_some, if_true, Option.getD_some]
  rw [unpack_yes hu]
  simp only [Int.toNat_natCast]
theorem wide_cases {b t : Int} (h : boundsOk b t = true) : wide b t = (0, 4096) ∨ ∃ e : Nat, e ≤ 6 ∧ packOk b t e = true ∧ wide b t = (packB b e * 2 ^ e, min 4096 ((packB b e + packL b t e) * 2 ^ e)) := by
  cases hp : pack b t with
  | none => left; unfold wide; rw [if_pos h, hp]; rfl
  | some p =>
    have hp2 := hp
    rw [pack_yes h] at hp2
    obtain ⟨e, h1, h2, rfl, h4⟩ := packGo_some hp2
    exact .inr ⟨e, by omega, h4, wide_e h (by omega) hp h4⟩
theorem wide_parts {e : Nat} (he : e ≤ 6) {lo hi B L : Int} (hB : 0 ≤ B ∧ B ≤ 63) (hL : 0 ≤ L ∧ L ≤ 63) (h1 : lo = B * 2 ^ e) (h2 : hi = min 4096 ((B + L) * 2 ^ e)) : boundsOk lo hi = true ∧ wide lo hi = (lo, hi) := by
  have hb : boundsOk lo hi = true := by
    simp only [boundsOk, Bool.and_eq_true, decide_eq_true_eq]
    rcases e_cases he with rfl | rfl | rfl | rfl | rfl | rfl | rfl <;> simp only [Int.reducePow, Int.pow_zero] at * <;> omega
  refine ⟨hb, ?_⟩
  have ho : packOk lo hi e = true := by
    simp only [packOk, Bool.and_eq_true, decide_eq_true_eq]
    unfold packB packL
    rcases e_cases he with rfl | rfl | rfl | rfl | rfl | rfl | rfl <;> simp only [Int.reducePow, Int.pow_zero] at * <;> omega
  obtain ⟨f, f1, f2, f3, f4⟩ := packGo_find ho (n := 7) (e0 := 0) (by omega) (by omega)
  rw [wide_e hb (e := f) (by omega) (by rw [pack_yes hb]; exact f3) f4]
  unfold packB packL
  rcases e_cases he with rfl | rfl | rfl | rfl | rfl | rfl | rfl <;> rcases e_cases (e := f) (by omega) with rfl | rfl | rfl | rfl | rfl | rfl | rfl <;>
    first
      | (exfalso; omega)
      | (simp only [Int.reducePow, Int.pow_zero, Prod.mk.injEq] at *; omega)
theorem wide_ok {b t : Int} (h : boundsOk b t = true) : 0 ≤ (wide b t).1 ∧ (wide b t).1 ≤ b ∧ t ≤ (wide b t).2 ∧ (wide b t).2 ≤ 4096 ∧ exact_ (wide b t).1 (wide b t).2 = true := by
  obtain ⟨h0, h1, h2⟩ := bounds_n h
  rcases wide_cases h with e | ⟨e, he, ho, hw⟩
  · rw [e]; exact ⟨by decide, by omega, by omega, by decide, by decide +kernel⟩
  · obtain ⟨o1, o2⟩ := packOk_n ho
    have hB : 0 ≤ packB b e ∧ packB b e ≤ 63 := ⟨by
      unfold packB
      rcases e_cases he with rfl | rfl | rfl | rfl | rfl | rfl | rfl <;> simp only [Int.reducePow, Int.pow_zero] <;> omega, o1⟩
    have hL : 0 ≤ packL b t e ∧ packL b t e ≤ 63 := ⟨by
      unfold packL
      rcases e_cases he with rfl | rfl | rfl | rfl | rfl | rfl | rfl <;> simp only [Int.reducePow, Int.pow_zero] <;> omega, o2⟩
    obtain ⟨g1, g2⟩ := wide_parts he hB hL rfl rfl
    rw [hw]
    refine ⟨?_, ?_, ?_, by dsimp only; omega, by simp only [exact_, g1, g2, decide_true, Bool.and_self]⟩
    all_goals
      dsimp only
      unfold packB packL at *
      rcases e_cases he with rfl | rfl | rfl | rfl | rfl | rfl | rfl <;> simp only [Int.reducePow, Int.pow_zero] at * <;> omega
/-! ### keys and words -/
theorem keyOk_n {k : Key} (h : keyOk k = true) : 0 ≤ k.base ∧ k.base ≤ k.top ∧ k.top ≤ 4096 ∧ 0 ≤ k.perms ∧ k.perms ≤ 63 ∧ 0 ≤ k.sealed ∧ k.sealed ≤ 7 := by
  simp only [keyOk, Bool.and_eq_true, exact_, inR_t] at h
  have := bounds_n h.1.1.1.1
  omega
theorem keyOk_mk {k : Key} (h : exact_ k.base k.top = true) (h1 : 0 ≤ k.perms ∧ k.perms ≤ 63) (h2 : 0 ≤ k.sealed ∧ k.sealed ≤ 7) : keyOk k = true := by
  simp only [keyOk, Bool.and_eq_true, inR_t]; exact ⟨⟨h, h1⟩, h2⟩
theorem keyOk_exact {k : Key} (h : keyOk k = true) : exact_ k.base k.top = true := by simp only [keyOk, Bool.and_eq_true] at h; exact h.1.1
theorem wordOk_is {w : Word} (h : wordOk w = true) (h2 : w.is = true) : keyOk w.key = true := by
  simp only [wordOk, h2, if_true, Bool.and_eq_true] at h; exact h.2
theorem wordOk_mk {n : Int} {k : Key} (h : 0 ≤ n ∧ n ≤ 65535) (h2 : keyOk k = true) : wordOk ⟨n, true, k⟩ = true := by
  simp only [wordOk, if_true, Bool.and_eq_true, inR_t]; exact ⟨h, h2⟩
theorem and65 (n : Int) : 0 ≤ andI n 65535 ∧ andI n 65535 ≤ 65535 := andI_le n (by decide) (by decide)
theorem plainW_ok (n : Int) : wordOk (plainW n) = true := by
  simp only [wordOk, plainW, Bool.and_eq_true, inR_t, Bool.false_eq_true, if_false, decide_true, and_true]
  exact and65 n
def coversK (a b : Key) : Bool := keyOk a && keyOk b && decide (a.base ≤ b.base) && decide (b.top ≤ a.top) && decide (andI a.perms b.perms = b.perms)
theorem coversK_iff {a b : Key} : coversK a b = true ↔ keyOk a = true ∧ keyOk b = true ∧ a.base ≤ b.base ∧ b.top ≤ a.top ∧ andI a.perms b.perms = b.perms := by
  simp only [coversK, Bool.and_eq_true, decide_eq_true_eq, and_assoc]
theorem coversK_refl {a : Key} (h : keyOk a = true) : coversK a a = true :=
  coversK_iff.2 ⟨h, h, Int.le_refl _, Int.le_refl _, andI_self (by have := keyOk_n h; omega) (by have := keyOk_n h; omega)⟩
theorem coversK_trans {a b c : Key} (h : coversK a b = true) (k : coversK b c = true) : coversK a c = true := by
  obtain ⟨h1, h2, h3, h4, h5⟩ := coversK_iff.1 h
  obtain ⟨k1, k2, k3, k4, k5⟩ := coversK_iff.1 k
  exact coversK_iff.2 ⟨h1, k2, by omega, by omega, by rw [← k5, ← andI_assoc, h5]⟩
def undersW (w : Word) (l : List Word) : Bool := !w.is || l.any (fun x => x.is && coversK x.key w.key)
theorem undersW_iff {w : Word} {l : List Word} : undersW w l = true ↔ (w.is = true → ∃ c ∈ l, c.is = true ∧ coversK c.key w.key = true) := by
  simp only [undersW, Bool.or_eq_true, Bool.not_eq_true', List.any_eq_true, Bool.and_eq_true]
  cases w.is <;> simp
def Und (C : List Word) (w : Word) : Prop := w.is = true → ∃ c ∈ C, c.is = true ∧ coversK c.key w.key = true
theorem und_bare (C : List Word) (n : Int) : Und C (plainW n) := fun h => by cases h
theorem und_zero (C : List Word) : Und C zW := fun h => by cases h
theorem und_of {C : List Word} {w v : Word} (h : Und C w) (hw : w.is = true) (hk : coversK w.key v.key = true) : Und C v := fun _ => by
  obtain ⟨c, h1, h2, h3⟩ := h hw
  exact ⟨c, h1, h2, coversK_trans h3 hk⟩
theorem openW_iff {w : Word} : openW w = true ↔ wordOk w = true ∧ w.is = true ∧ w.key.sealed = 0 := by
  simp only [openW, Bool.and_eq_true, beq_iff_eq, and_assoc]
theorem sealsB_n {y : Word} (h : sealsB y = true) : openW y = true ∧ ¬ andI y.key.perms 32 = 0 ∧ 1 ≤ y.n ∧ y.n ≤ 7 := by
  simp only [sealsB, Bool.and_eq_true, bne_iff_ne, inR_t] at h
  exact ⟨h.1.1.1.1, h.1.1.1.2, h.2.1, h.2.2⟩
def Fine (w v : Word) : Prop := wordOk v = true ∧ (v.is = true → w.is = true ∧ coversK w.key v.key = true)
theorem fine_bare (w : Word) (n : Int) : Fine w (plainW n) := ⟨plainW_ok n, fun h => by cases h⟩
theorem fine_self {w : Word} (h : wordOk w = true) : Fine w w := ⟨h, fun hi => ⟨hi, coversK_refl (wordOk_is h hi)⟩⟩
theorem Fine.und {C : List Word} {w v : Word} (h : Fine w v) (hu : Und C w) : Und C v := fun hi => by
  obtain ⟨h1, h2⟩ := h.2 hi
  exact und_of hu h1 h2 hi
theorem weakenW_fine (w : Word) (m : Int) : Fine w (weakenW w m) := by
  unfold weakenW
  split
  · rename_i h
    obtain ⟨h1, h2, h3⟩ := openW_iff.1 h
    have hk := wordOk_is h1 h2
    have hn := keyOk_n hk
    have hp := andI_le' (andI m 63) (p := w.key.perms) (by omega) (by omega)
    have hk' : keyOk { w.key with perms := andI w.key.perms (andI m 63) } = true := keyOk_mk (k := ⟨w.key.base, w.key.top, andI w.key.perms (andI m 63), w.key.sealed⟩) (keyOk_exact (k := w.key) hk) ⟨hp.1, by dsimp only; omega⟩ (by dsimp only; omega)
    refine ⟨?_, fun _ => ⟨h2, coversK_iff.2 ⟨hk, hk', Int.le_refl _, Int.le_refl _, andI_same _ _⟩⟩⟩
    have hw := wordOk_n h1
    simp only [wordOk, h2, if_true, Bool.and_eq_true, inR_t]
    exact ⟨hw, hk'⟩
  · exact fine_bare w _
theorem narrowW_fine (w : Word) (n : Int) : Fine w (narrowW w n) := by
  unfold narrowW
  split
  · rename_i h
    simp only [Bool.and_eq_true] at h
    obtain ⟨⟨h, _⟩, hb⟩ := h
    obtain ⟨h1, h2, h3⟩ := openW_iff.1 h
    have hk := wordOk_is h1 h2
    have hn := keyOk_n hk
    split
    · exact fine_bare w _
    · rename_i hr
      obtain ⟨w1, w2, w3, w4, w5⟩ := wide_ok hb
      have hk' : keyOk { w.key with base := (wide w.n (IntKind.i64.wrap (w.n + n))).1, top := (wide w.n (IntKind.i64.wrap (w.n + n))).2 } = true := keyOk_mk w5 (by dsimp only; omega) (by dsimp only; omega)
      refine ⟨?_, fun _ => ⟨h2, coversK_iff.2 ⟨hk, hk', by dsimp only; omega, by dsimp only; omega, andI_self (by omega) (by omega)⟩⟩⟩
      have hw := wordOk_n h1
      simp only [wordOk, h2, if_true, Bool.and_eq_true, inR_t]
      exact ⟨hw, hk'⟩
  · exact fine_bare w _
theorem pointW_fine (w : Word) (n : Int) : Fine w (pointW w n) := by
  unfold pointW
  split
  · rename_i h
    obtain ⟨h1, h2, h3⟩ := openW_iff.1 h
    exact ⟨wordOk_mk (and65 n) (wordOk_is h1 h2), fun _ => ⟨h2, coversK_refl (wordOk_is h1 h2)⟩⟩
  · exact fine_bare w _
theorem seal_fine {w : Word} (h1 : wordOk w = true) (h2 : w.is = true) {s : Int} (hs : 0 ≤ s ∧ s ≤ 7) : Fine w { w with key := { w.key with sealed := s } } := by
  have hk := wordOk_is h1 h2
  have hn := keyOk_n hk
  have hk' : keyOk { w.key with sealed := s } = true := keyOk_mk (k := ⟨w.key.base, w.key.top, w.key.perms, s⟩) (keyOk_exact (k := w.key) hk) (by dsimp only; omega) hs
  refine ⟨?_, fun _ => ⟨h2, coversK_iff.2 ⟨hk, hk', Int.le_refl _, Int.le_refl _, andI_self (by omega) (by omega)⟩⟩⟩
  have hw := wordOk_n h1
  simp only [wordOk, h2, if_true, Bool.and_eq_true, inR_t]
  exact ⟨hw, hk'⟩
theorem sealBy_fine (w y : Word) : Fine w (sealBy w y) := by
  unfold sealBy
  split
  · rename_i h
    simp only [Bool.and_eq_true] at h
    obtain ⟨h1, h2, h3⟩ := openW_iff.1 h.1
    exact seal_fine h1 h2 (by have := sealsB_n h.2; omega)
  · exact fine_bare w _
theorem openBy_fine (w y : Word) : Fine w (openBy w y) := by
  unfold openBy
  split
  · rename_i h
    simp only [Bool.and_eq_true] at h
    exact seal_fine h.1.1.1 h.1.1.2 (by decide)
  · exact fine_bare w _
theorem takenW_fine {y w : Word} (h : wordOk w = true) : Fine w (takenW y w) := by
  unfold takenW
  split
  · exact fine_bare w _
  · exact fine_self h
theorem filterW_fine {g : List Bool} {w : Word} (h : wordOk w = true) : Fine w (filterW g w) := by
  unfold filterW
  split
  · exact fine_bare w _
  · exact fine_self h
theorem zW_ok : wordOk zW = true := by decide
theorem tryW_0 {w : Word} {n p : Int} (h : tryW w n p = 0) : wordOk w = true ∧ w.is = true ∧ w.key.sealed = 0 ∧ andI w.key.perms p = p ∧ w.key.base ≤ n ∧ n < w.key.top := by
  unfold tryW at h
  split at h
  · cases h
  · rename_i h1
    split at h
    · cases h
    · rename_i h2
      split at h
      · cases h
      · rename_i h3
        split at h
        · cases h
        · rename_i h4
          exact ⟨by cases e : wordOk w with | true => rfl | false => exact absurd (.inr e) h1, by cases e : w.is with | true => rfl | false => exact absurd (.inl e) h1, by omega, by omega, by omega, by omega⟩
theorem tryW_in (w : Word) (n p : Int) : 0 ≤ tryW w n p ∧ tryW w n p ≤ 4 := by
  unfold tryW
  repeat' split
  all_goals omega
theorem getD_ok {ws : List Word} (h : ∀ w ∈ ws, wordOk w = true) (i : Nat) : wordOk (ws.getD i (FT.zero .word)) = true := by
  rw [List.getD_eq_getElem?_getD]
  cases e : ws[i]? with
  | none => exact zW_ok
  | some w => exact h w (List.mem_of_getElem? e)
theorem getD_und {C ws : List Word} (h : ∀ w ∈ ws, Und C w) (i : Nat) : Und C (ws.getD i (FT.zero .word)) := by
  rw [List.getD_eq_getElem?_getD]
  cases e : ws[i]? with
  | none => exact und_zero C
  | some w => exact h w (List.mem_of_getElem? e)
end Go.Pi
