/- Contracts of functions, each out of its run by PI. No conditions. -/
import Derived.Test.YthkhmkdkgjdjhaaC4
namespace Go.Pi
open Go.Proofs
set_option linter.unusedVariables false
set_option linter.unusedSimpArgs false
set_option maxRecDepth 100000
attribute [local irreducible] iterN
theorem list9 {zs : List Int} (h : zs.length = 9) : ∃ a b c d e p q r s, zs = [a, b, c, d, e, p, q, r, s] := by
  match zs, h with
  | [a, b, c, d, e, p, q, r, s], _ => exact ⟨a, b, c, d, e, p, q, r, s, rfl⟩
def five (xss : List (List Int)) (k : Int → Int → Int → Int → Int → Int → Int → Int → Int → Prop) : Prop := match xss with
  | [[a, b], [c], [d, e], [p, q], [r, s]] => k a b c d e p q r s
  | _ => False
theorem five_out {xss : List (List Int)} {k : Int → Int → Int → Int → Int → Int → Int → Int → Int → Prop} (h : five xss k) : ∃ a b c d e p q r s, xss = [[a, b], [c], [d, e], [p, q], [r, s]] ∧ k a b c d e p q r s := by
  unfold five at h
  split at h
  · exact ⟨_, _, _, _, _, _, _, _, _, rfl, h⟩
  · exact h.elim
def noneL (xs : List Int) (k : Prop) : Prop := match xs with | [] => k | _ :: _ => False
theorem noneL_out {xs : List Int} {k : Prop} (h : noneL xs k) : xs = [] ∧ k := by
  cases xs with
  | nil => exact ⟨rfl, h⟩
  | cons _ _ => exact h.elim

def lb_bytes_Join_0 : PC := .seq (.reg [.s (.bin 45 .lss (.t 44) (.t 43))]) (.seq (.cond (.t 45) (.skip) (.exit 0)) (.seq (.blk 1 (.seq (.reg [.s (.iar 46 (.t 42) (.t 44)), .s (.load 47 false 1 (.t 46)), .s (.mv 7 (.t 47))]) (.seq (.seq (.reg [.s (.mv 48 (.t 7)), .s (.len 49 false (.t 48)), .s (.mv 50 (.t 5)), .s (.bin 51 .sub (.k (.v (.c (.int .i64 9223372036854775807)))) (.t 50)), .s (.bin 52 .gtr (.t 49) (.t 51))]) (.cond (.t 52) (.reg [.s (.no), .s (.no)]) (.skip))) (.reg [.s (.mv 54 (.t 5)), .s (.mv 55 (.t 7)), .s (.len 56 false (.t 55)), .s (.bin 57 .add (.t 54) (.t 56)), .s (.mv 5 (.t 57))])))) (.reg [.s (.bin 58 .add (.t 44) (.k (.v (.c (.int .i64 1))))), .s (.mv 44 (.t 58))])))
def lb_bytes_Join_1 : PC := .seq (.reg [.s (.bin 73 .lss (.t 72) (.t 71))]) (.seq (.cond (.t 73) (.skip) (.exit 2)) (.seq (.blk 3 (.seq (.reg [.s (.iar 74 (.t 70) (.t 72)), .s (.load 75 false 1 (.t 74)), .s (.mv 11 (.t 75))]) (.seq (.reg [.s (.mv 76 (.t 9)), .s (.mv 77 (.t 8)), .s (.mv 78 (.t 9)), .s (.slc 79 (.int .u8) (.t 77) (some (.t 78)) none), .s (.mv 80 (.t 1)), .s (.cpy (some 81) (.int .u8) (.t 79) (.t 80)), .s (.bin 82 .add (.t 76) (.t 81)), .s (.mv 9 (.t 82))]) (.reg [.s (.mv 83 (.t 9)), .s (.mv 84 (.t 8)), .s (.mv 85 (.t 9)), .s (.slc 86 (.int .u8) (.t 84) (some (.t 85)) none), .s (.mv 87 (.t 11)), .s (.cpy (some 88) (.int .u8) (.t 86) (.t 87)), .s (.bin 89 .add (.t 83) (.t 88)), .s (.mv 9 (.t 89))])))) (.reg [.s (.bin 90 .add (.t 72) (.k (.v (.c (.int .i64 1))))), .s (.mv 72 (.t 90))])))
def pf_bytes_Join : PF := ⟨[.t 4], .seq (.reg [.s (.mv 4 (.k (.v (.c (.nils (.int .u8))))))]) (.seq (.seq (.reg [.s (.mv 12 (.t 0)), .s (.lenr 13 (.t 12)), .s (.bin 14 .eql (.t 13) (.k (.v (.c (.int .i64 0)))))]) (.cond (.t 14) (.seq (.reg [.s (.bs 15 (.int .u8) []), .s (.mv 4 (.t 15))]) (.ret)) (.skip))) (.seq (.seq (.reg [.s (.mv 16 (.t 0)), .s (.lenr 17 (.t 16)), .s (.bin 18 .eql (.t 17) (.k (.v (.c (.int .i64 1)))))]) (.cond (.t 18) (.seq (.reg [.s (.mv 19 (.t 0)), .s (.iar 20 (.t 19) (.k (.v (.c (.int .i64 0))))), .s (.load 21 false 1 (.t 20)), .s (.app 22 (.int .u8) (.k (.v (.c (.nils (.int .u8))))) (.t 21)), .s (.mv 4 (.t 22))]) (.ret)) (.skip))) (.seq (.reg [.s (.mv 5 (.k (.v (.c (.int .i64 0)))))]) (.seq (.seq (.reg [.s (.mv 23 (.t 1)), .s (.len 24 false (.t 23)), .s (.bin 25 .gtr (.t 24) (.k (.v (.c (.int .i64 0)))))]) (.cond (.t 25) (.seq (.seq (.reg [.s (.mv 26 (.t 1)), .s (.len 27 false (.t 26)), .s (.mv 28 (.t 0)), .s (.lenr 29 (.t 28)), .s (.bin 30 .sub (.t 29) (.k (.v (.c (.int .i64 1))))), .s (.bin 31 .quo (.k (.v (.c (.int .i64 9223372036854775807)))) (.t 30)), .s (.bin 32 .geq (.t 27) (.t 31))]) (.cond (.t 32) (.reg [.s (.no), .s (.no)]) (.skip))) (.reg [.s (.mv 34 (.t 5)), .s (.mv 35 (.t 1)), .s (.len 36 false (.t 35)), .s (.mv 37 (.t 0)), .s (.lenr 38 (.t 37)), .s (.bin 39 .sub (.t 38) (.k (.v (.c (.int .i64 1))))), .s (.bin 40 .mul (.t 36) (.t 39)), .s (.bin 41 .add (.t 34) (.t 40)), .s (.mv 5 (.t 41))])) (.skip))) (.seq (.seq (.reg [.s (.mv 42 (.t 0)), .s (.lenr 43 (.t 42)), .s (.mv 44 (.k (.v (.c (.int .i64 0)))))]) (.blk 0 (.loop [0, 1, 5, 42, 43, 44] lb_bytes_Join_0))) (.seq (.reg [.s (.mv 59 (.t 5)), .s (.call (some 60) 120 [(.t 59)]), .s (.mv 61 (.t 5)), .s (.mv 62 (.t 5)), .s (.slc3 63 (.int .u8) (.t 60) (.t 61) (.t 62)), .s (.mv 8 (.t 63))]) (.seq (.reg [.s (.mv 64 (.t 8)), .s (.mv 65 (.t 0)), .s (.iar 66 (.t 65) (.k (.v (.c (.int .i64 0))))), .s (.load 67 false 1 (.t 66)), .s (.cpy (some 68) (.int .u8) (.t 64) (.t 67)), .s (.mv 9 (.t 68))]) (.seq (.seq (.reg [.s (.mv 69 (.t 0)), .s (.slr 70 (.t 69) (.k (.v (.c (.int .i64 1))))), .s (.lenr 71 (.t 70)), .s (.mv 72 (.k (.v (.c (.int .i64 0)))))]) (.blk 2 (.loop [1, 8, 9, 70, 71, 72] lb_bytes_Join_1))) (.seq (.reg [.s (.mv 91 (.t 8)), .s (.mv 4 (.t 91))]) (.ret))))))))))⟩
def c_bytes_Join : Fun := ⟨68, [], fun ts K => as2 ts fun t0 t1 => arRB t0 fun xss => arC (pL (.int .u8)) t1 fun sep => noneL sep (five xss fun a b c d e p q r s => K (tL true (.int .u8) [a, b, c, d, e, p, q, r, s]) [])⟩
set_option maxHeartbeats 4000000 in
theorem run_bytes_Join (a b c d e p q r s : Int) : runK [c_bytealg_MakeNoZero] 10 [] pf_bytes_Join [.rows 5 [tl false (.int .u8) [a, b], tl false (.int .u8) [c], tl false (.int .u8) [d, e], tl false (.int .u8) [p, q], tl false (.int .u8) [r, s]], tL false (.int .u8) []] fun x o => x = tL true (.int .u8) [a, b, c, d, e, p, q, r, s] ∧ o = [] := by
  conv => whnf
  repeat' (first | (refine sel_i (fun h => ?_) (fun h => ?_) <;> first | (exfalso; revert h; decide) | conv => whnf) | (refine chk_c ?_ ?_ <;> conv => whnf) | (refine iter_s ?_; conv => whnf) | (refine And.intro ?_ rfl) | (refine And.intro ?_ ?_ <;> conv => whnf))
  all_goals (try first
    | (refine ⟨?_⟩; decide)
    | (refine ⟨?_⟩; simp only [List.length_cons, List.length_nil]; decide)
    | (refine ⟨?_⟩; simp only [List.length_cons, List.length_nil, IntKind.wrap_i64]; omega)
    | (exfalso; simp only [List.length_cons, List.length_nil, decide_eq_true_eq, decide_eq_false_iff_not, gt_iff_lt, IntKind.wrap_i64] at h; omega))
  intro zs hz
  have hz : zs.length = 9 := by
    simp only [List.length_cons, List.length_nil] at hz
    exact hz.trans (by decide)
  obtain ⟨z0, z1, z2, z3, z4, z5, z6, z7, z8, rfl⟩ := list9 hz
  clear hz
  conv => whnf
  repeat' (first | (refine sel_i (fun h => ?_) (fun h => ?_) <;> conv => whnf) | (refine chk_c ?_ ?_ <;> conv => whnf) | (refine And.intro ?_ rfl) | (refine And.intro ?_ ?_ <;> conv => whnf))
  all_goals (try first
    | (refine ⟨?_⟩; decide)
    | (refine ⟨?_⟩; simp only [List.length_cons, List.length_nil]; decide)
    | (refine ⟨?_⟩; simp only [List.length_cons, List.length_nil, IntKind.wrap_i64]; omega)
    | (exfalso; simp only [List.length_cons, List.length_nil, decide_eq_true_eq, decide_eq_false_iff_not, gt_iff_lt, IntKind.wrap_i64] at h; omega))
  refine loop (α := Nat) (fun j => ⟨[(1, .v (.c (.sl false (.int .u8) 0))), (8, .v (.c (.sl false (.int .u8) 1))), (9, .v (.c (.int .i64 (([2, 3, 5, 7, 9] : List Int).getD j 0)))), (70, .rows 2 1 4), (71, .v (.c (.int .i64 4))), (72, .v (.c (.int .i64 (j : Int))))],
      [(7, some (.flat false (.int .u8) none [r, s])), (6, some (.flat false (.int .u8) none [p, q])), (5, some (.flat false (.int .u8) none [d, e])), (4, some (.flat false (.int .u8) none [c])), (3, some (.flat false (.int .u8) none [a, b])),
       (2, some (.box false [.sl false (.int .u8) 3, .sl false (.int .u8) 4, .sl false (.int .u8) 5, .sl false (.int .u8) 6, .sl false (.int .u8) 7])),
       (1, some (.flat true (.int .u8) none (match j with | 0 => [a, b, z2, z3, z4, z5, z6, z7, z8] | 1 => [a, b, c, z3, z4, z5, z6, z7, z8] | 2 => [a, b, c, d, e, z5, z6, z7, z8] | 3 => [a, b, c, d, e, p, q, z7, z8] | _ => [a, b, c, d, e, p, q, r, s]))),
       (0, some (.flat false (.int .u8) none []))], nums.tail.tail.tail.tail.tail.tail.tail.tail, [], false, []⟩) (fun j => j ≤ 4) (fun j => 4 - j) (fun j R hI hR => ?_) 0 _ (show (0 : Nat) ≤ 4 by decide) (show 4 - 0 < 10 by decide)
  have hj : j = 0 ∨ j = 1 ∨ j = 2 ∨ j = 3 ∨ j = 4 := by omega
  rcases hj with rfl | rfl | rfl | rfl | rfl
  · conv => whnf
    repeat' (first | (refine sel_i (fun h => ?_) (fun h => ?_) <;> first | (exfalso; revert h; decide) | conv => whnf) | (refine chk_c ?_ ?_ <;> conv => whnf) | (refine iter_s ?_; conv => whnf) | (refine And.intro ?_ rfl) | (refine And.intro ?_ ?_ <;> conv => whnf))
    all_goals first
      | (refine ⟨?_⟩; decide)
      | (refine ⟨?_⟩; exact (show (0 : Int) ≤ 2 ∧ (2 : Int) ≤ 9 by decide))
      | exact hR 1 (by decide) (by decide)
      | trace_state
  · conv => whnf
    repeat' (first | (refine sel_i (fun h => ?_) (fun h => ?_) <;> first | (exfalso; revert h; decide) | conv => whnf) | (refine chk_c ?_ ?_ <;> conv => whnf) | (refine iter_s ?_; conv => whnf) | (refine And.intro ?_ rfl) | (refine And.intro ?_ ?_ <;> conv => whnf))
    all_goals first
      | (refine ⟨?_⟩; decide)
      | (refine ⟨?_⟩; exact (show (0 : Int) ≤ 3 ∧ (3 : Int) ≤ 9 by decide))
      | exact hR 2 (by decide) (by decide)
      | trace_state
  · conv => whnf
    repeat' (first | (refine sel_i (fun h => ?_) (fun h => ?_) <;> first | (exfalso; revert h; decide) | conv => whnf) | (refine chk_c ?_ ?_ <;> conv => whnf) | (refine iter_s ?_; conv => whnf) | (refine And.intro ?_ rfl) | (refine And.intro ?_ ?_ <;> conv => whnf))
    all_goals first
      | (refine ⟨?_⟩; decide)
      | (refine ⟨?_⟩; exact (show (0 : Int) ≤ 5 ∧ (5 : Int) ≤ 9 by decide))
      | exact hR 3 (by decide) (by decide)
      | trace_state
  · conv => whnf
    repeat' (first | (refine sel_i (fun h => ?_) (fun h => ?_) <;> first | (exfalso; revert h; decide) | conv => whnf) | (refine chk_c ?_ ?_ <;> conv => whnf) | (refine iter_s ?_; conv => whnf) | (refine And.intro ?_ rfl) | (refine And.intro ?_ ?_ <;> conv => whnf))
    all_goals first
      | (refine ⟨?_⟩; decide)
      | (refine ⟨?_⟩; exact (show (0 : Int) ≤ 7 ∧ (7 : Int) ≤ 9 by decide))
      | exact hR 4 (by decide) (by decide)
      | trace_state
  · conv => whnf
    repeat' (first | (refine sel_i (fun h => ?_) (fun h => ?_) <;> first | (exfalso; revert h; decide) | conv => whnf) | (refine chk_c ?_ ?_ <;> conv => whnf) | (refine iter_s ?_; conv => whnf) | (refine And.intro ?_ rfl) | (refine And.intro ?_ ?_ <;> conv => whnf))
    all_goals first
      | (refine ⟨?_⟩; decide)
      | exact ⟨rfl, rfl⟩
      | rfl
      | trace_state
theorem ok_bytes_Join : FunOk Try.prog c_bytes_Join := funOk (E := [c_bytealg_MakeNoZero]) (envOk_cons ok_bytealg_MakeNoZero envOk_nil) mixd Try.func68 (pf := pf_bytes_Join) (by kernel_rfl) fun ts K h => by
  obtain ⟨t0, t1, e0, hp⟩ := as2_out h
  clear h
  subst e0
  obtain ⟨xss, e1, hq⟩ := arRB_out hp
  clear hp
  subst e1
  obtain ⟨sep, e2, hr⟩ := arC_out (rd_l (.int .u8)) hq
  clear hq
  subst e2
  obtain ⟨e3, h2⟩ := noneL_out hr
  clear hr
  have e3 : sep = [] := e3
  subst e3
  obtain ⟨a, b, c, d, e, p, q, r, s, e4, h3⟩ := five_out h2
  clear h2
  subst e4
  exact ⟨_, _, h3, Nat.le_of_ble_eq_true (show Nat.ble 2 Try.f68.ntmps = true by kernel_rfl), _, run_bytes_Join a b c d e p q r s⟩

theorem hi8s {n : Int} : IntKind.u8.wrap (n.fdiv (2 ^ min (Int.toNat 8) IntKind.i64.bits)) = (n / 256) % 256 := by
  rw [show (2 ^ min (Int.toNat 8) IntKind.i64.bits : Int) = 256 by decide, Int.fdiv_eq_ediv_of_nonneg _ (by decide)]
  rfl

def pf_impl_two : PF := ⟨[.t 2], .seq (.reg [.s (.mv 2 (.k (.v (.c (.nils (.int .u8))))))]) (.seq (.reg [.s (.mv 3 (.t 0)), .s (.bin 4 .shr (.t 3) (.k (.v (.c (.int .u64 8))))), .s (.conv 5 .u8 (.t 4)), .s (.mv 6 (.t 0)), .s (.conv 7 .u8 (.t 6)), .s (.bs 8 (.int .u8) [(.t 5), (.t 7)]), .s (.mv 2 (.t 8))]) (.ret))⟩
def c_impl_two : Fun := ⟨67, [], fun ts K => as1 ts fun t0 => arC (pI .i64) t0 fun n => K (tL true (.int .u8) [(n / 256) % 256, n % 256]) []⟩
theorem run_impl_two (n : Int) : runK [] (0) [] pf_impl_two [tI .i64 n] fun r o => r = tL true (.int .u8) [(n / 256) % 256, n % 256] ∧ o = [] := by
  conv => whnf
  repeat' (first | (refine sel_i (fun h => ?_) (fun h => ?_) <;> conv => whnf) | (refine chk_c ?_ ?_ <;> conv => whnf) | (refine And.intro ?_ rfl) | (refine And.intro ?_ ?_ <;> conv => whnf))
  all_goals (try simp only [hi8s])
  all_goals first
    | (refine ⟨?_⟩; decide)
    | rfl
    | trace_state
theorem ok_impl_two : FunOk Try.prog c_impl_two := funOk (E := []) (envOk_nil) mixd Try.func67 (pf := pf_impl_two) (by kernel_rfl) fun ts K h => by
  obtain ⟨t0, e0, h⟩ := as1_out h
  subst e0
  obtain ⟨n, e1, hq⟩ := arC_out (rd_int .i64) h
  clear h
  subst e1
  have h := hq
  clear hq
  exact ⟨_, _, h, Nat.le_of_ble_eq_true (show Nat.ble 1 Try.f67.ntmps = true by kernel_rfl), _, run_impl_two n⟩

def pf_impl_WordBytes : PF := ⟨[.t 2], .seq (.reg [.s (.box 1 (.t 0)), .s (.mv 2 (.k (.v (.c (.nils (.int .u8))))))]) (.seq (.seq (.reg [.s (.load 3 true 6 (.t 1)), .s (.call (some 4) 66 [(.t 3)]), .s (.bnot 5 (.t 4))]) (.cond (.t 5) (.seq (.reg [.s (.mv 2 (.k (.v (.c (.nils (.int .u8))))))]) (.ret)) (.skip))) (.seq (.seq (.reg [.s (.fa 6 (.t 1) 1), .s (.load 7 false 1 (.t 6)), .s (.bnot 8 (.t 7))]) (.cond (.t 8) (.seq (.reg [.s (.fa 9 (.t 1) 0), .s (.load 10 false 1 (.t 9)), .s (.call (some 11) 67 [(.t 10)]), .s (.bs 12 (.int .u8) [(.k (.v (.c (.int .u8 0))))]), .s (.app 13 (.int .u8) (.t 11) (.t 12)), .s (.mv 2 (.t 13))]) (.ret)) (.skip))) (.seq (.rgd [.s (.fa 14 (.t 1) 0), .s (.load 15 false 1 (.t 14)), .s (.call (some 16) 67 [(.t 15)]), .s (.bs 17 (.int .u8) [(.k (.v (.c (.int .u8 1))))]), .s (.fa 18 (.t 1) 2), .s (.fa 19 (.t 18) 0), .s (.load 20 false 1 (.t 19)), .s (.call (some 21) 67 [(.t 20)]), .s (.fa 22 (.t 1) 2), .s (.fa 23 (.t 22) 1), .s (.load 24 false 1 (.t 23)), .s (.call (some 25) 67 [(.t 24)]), .s (.fa 26 (.t 1) 2), .s (.fa 27 (.t 26) 2), .s (.load 28 false 1 (.t 27)), .s (.conv 29 .u8 (.t 28)), .s (.fa 30 (.t 1) 2), .s (.fa 31 (.t 30) 3), .s (.load 32 false 1 (.t 31)), .s (.conv 33 .u8 (.t 32)), .s (.bs 34 (.int .u8) [(.t 29), (.t 33)]), .s (.bsr 35 [(.t 16), (.t 17), (.t 21), (.t 25), (.t 34)]), .s (.call (some 36) 68 [(.t 35), (.k (.v (.c (.nils (.int .u8)))))]), .s (.mv 2 (.t 36))] (.tk 0 (.tk 1 (.tk 4 (.tk 5 (.tk 6 (.tk 8 (.tk 9 (.tk 10 (.tk 12 (.tk 13 (.tk 14 (.tk 15 (.tk 16 (.tk 17 (.tk 18 (.tk 19 (.alt 2 false (.alt 3 false (.alt 7 false (.alt 11 false (.one 20 false (.one 21 true (.one 22 true (.tk 23 (.done (some [2])))))) (.alt 20 false (.one 11 false (.one 21 true (.one 22 true (.tk 23 (.done (some [2])))))) (.nil))) (.alt 20 false (.one 7 false (.one 11 false (.one 21 true (.one 22 true (.tk 23 (.done (some [2]))))))) (.nil))) (.alt 7 false (.alt 3 false (.alt 11 false (.one 20 false (.one 21 true (.one 22 true (.tk 23 (.done (some [2])))))) (.alt 20 false (.one 11 false (.one 21 true (.one 22 true (.tk 23 (.done (some [2])))))) (.nil))) (.alt 11 false (.alt 3 false (.one 20 false (.one 21 true (.one 22 true (.tk 23 (.done (some [2])))))) (.alt 20 false (.one 3 false (.one 21 true (.one 22 true (.tk 23 (.done (some [2])))))) (.nil))) (.alt 20 false (.alt 3 false (.one 11 false (.one 21 true (.one 22 true (.tk 23 (.done (some [2])))))) (.alt 11 false (.one 3 false (.one 21 true (.one 22 true (.tk 23 (.done (some [2])))))) (.nil))) (.nil)))) (.alt 20 false (.alt 3 false (.one 7 false (.one 11 false (.one 21 true (.one 22 true (.tk 23 (.done (some [2]))))))) (.alt 7 false (.alt 3 false (.one 11 false (.one 21 true (.one 22 true (.tk 23 (.done (some [2])))))) (.alt 11 false (.one 3 false (.one 21 true (.one 22 true (.tk 23 (.done (some [2])))))) (.nil))) (.nil))) (.nil)))) (.alt 3 false (.alt 2 false (.alt 7 false (.alt 11 false (.one 20 false (.one 21 true (.one 22 true (.tk 23 (.done (some [2])))))) (.alt 20 false (.one 11 false (.one 21 true (.one 22 true (.tk 23 (.done (some [2])))))) (.nil))) (.alt 20 false (.one 7 false (.one 11 false (.one 21 true (.one 22 true (.tk 23 (.done (some [2]))))))) (.nil))) (.alt 20 false (.one 2 false (.one 7 false (.one 11 false (.one 21 true (.one 22 true (.tk 23 (.done (some [2])))))))) (.nil))) (.alt 20 false (.alt 2 false (.alt 3 false (.one 7 false (.one 11 false (.one 21 true (.one 22 true (.tk 23 (.done (some [2]))))))) (.alt 7 false (.alt 3 false (.one 11 false (.one 21 true (.one 22 true (.tk 23 (.done (some [2])))))) (.alt 11 false (.one 3 false (.one 21 true (.one 22 true (.tk 23 (.done (some [2])))))) (.nil))) (.nil))) (.alt 3 false (.one 2 false (.one 7 false (.one 11 false (.one 21 true (.one 22 true (.tk 23 (.done (some [2])))))))) (.nil))) (.nil))))))))))))))))))))) (.ret))))⟩
def c_impl_WordBytes : Fun := ⟨15, [], fun ts K => as1 ts fun t0 => arG pWordT t0 fun w => K (tL true (.int .u8) (wordBytes w)) []⟩
theorem run_impl_WordBytes (w : Word) : runK [c_impl_WordOk, c_impl_two, c_bytes_Join] (0) [] pf_impl_WordBytes [tG (w.tc [])] fun r o => r = tL true (.int .u8) (wordBytes w) ∧ o = [] := by
  conv => whnf
  repeat' (first | (refine sel_i (fun h => ?_) (fun h => ?_) <;> conv => whnf) | (refine chk_c ?_ ?_ <;> conv => whnf) | (refine And.intro ?_ rfl) | (refine And.intro ?_ ?_ <;> conv => whnf))
  all_goals (try simp only [etaKey, etaWord, Bool.not_eq_true', Bool.not_eq_false'] at *)
  all_goals first
    | (refine ⟨?_⟩; show 3 ≤ 2147483647; decide)
    | trivial
    | (simp only [wordBytes, *]; rfl)
    | (rename_i h1
       have h2 := h
       have hn := wordOk_n h1
       rw [show w.n / 256 % 256 = w.n / 256 by omega]
       simp only [wordBytes, h1, h2, if_true, Bool.false_eq_true, if_false]; rfl)
    | (have h1 : wordOk w = true := by assumption
       have h2 := h
       have hn := wordOk_n h1
       have hk := wordOk_key h1 h2
       rw [show w.n / 256 % 256 = w.n / 256 by omega, show w.key.base / 256 % 256 = w.key.base / 256 by omega, show w.key.top / 256 % 256 = w.key.top / 256 by omega, u8_id (n := w.key.perms) (by omega), u8_id (n := w.key.sealed) (by omega)]
       simp only [wordBytes, h1, h2, if_true]; done)
    | trace_state
theorem ok_impl_WordBytes : FunOk Try.prog c_impl_WordBytes := funOk (E := [c_impl_WordOk, c_impl_two, c_bytes_Join]) (envOk_cons ok_impl_WordOk (envOk_cons ok_impl_two (envOk_cons ok_bytes_Join (envOk_nil)))) mixd Try.func15 (pf := pf_impl_WordBytes) (by kernel_rfl) fun ts K h => by
  obtain ⟨t0, e0, h⟩ := as1_out h
  subst e0
  obtain ⟨w, e1, hq⟩ := arG_out rd_word h
  clear h
  subst e1
  have h := hq
  clear hq
  exact ⟨_, _, h, Nat.le_of_ble_eq_true (show Nat.ble 1 Try.f15.ntmps = true by kernel_rfl), _, run_impl_WordBytes w⟩

theorem wordBytes_len (w : Word) : (wordBytes w).length ≤ 9 := by
  unfold wordBytes
  split
  · split <;> simp
  · simp
end Go.Pi
