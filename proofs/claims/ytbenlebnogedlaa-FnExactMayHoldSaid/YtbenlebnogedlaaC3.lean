/- Contracts of functions, each out of its run by PI. No conditions. -/
import Derived.Test.YtbenlebnogedlaaC2
namespace Go.Pi
open Go.Proofs
set_option linter.unusedVariables false
set_option linter.unusedSimpArgs false
set_option maxRecDepth 100000
attribute [local irreducible] iterN
def zRow : List Bool := List.replicate 8 false
theorem reps_succ (k : Nat) : List.replicate k zRow ++ [zRow] = List.replicate (k + 1) zRow := (List.replicate_succ' ..).symm
theorem getD_int {s : List Int} {k : Nat} (h : k < s.length) : s.take (k + 1) = s.take k ++ [s.getD k (FT.zero (.int .i64))] := by
  rw [List.take_add_one, List.getD_eq_getElem?_getD, List.getElem?_eq_getElem h]; rfl
theorem firstB_yes {s : List Int} {k : Nat} (h : k < s.length) (hr : inR (s.getD k (FT.zero (.int .i64))) 0 7 = true) : (firstB (s.take k)).set (s.getD k (FT.zero (.int .i64))).toNat true = firstB (s.take (k + 1)) := by
  have hr := inR_t.1 hr
  refine boolL_ext (by rw [List.length_set, firstB_len, firstB_len]) fun i => ?_
  rw [getD_set2, firstB_len]
  by_cases hi : i < 8
  · rw [firstB_get hi, firstB_get hi, getD_int h]
    simp only [List.mem_append, List.mem_singleton]
    by_cases e : (s.getD k (FT.zero (.int .i64))).toNat = i
    · rw [if_pos ⟨e, hi⟩]
      simp only [true_iff, decide_eq_true_eq]
      right; omega
    · rw [if_neg (fun q => e q.1)]
      simp only [decide_eq_true_eq]
      constructor
      · exact .inl
      · rintro (q | q)
        · exact q
        · exact absurd (by omega) e
  · rw [if_neg (fun q => hi q.2), List.getD_eq_getElem?_getD, List.getElem?_eq_none (by rw [firstB_len]; omega), List.getD_eq_getElem?_getD, List.getElem?_eq_none (by rw [firstB_len]; omega)]
theorem firstB_no {s : List Int} {k : Nat} (h : k < s.length) (hr : inR (s.getD k (FT.zero (.int .i64))) 0 7 = false) : firstB (s.take k) = firstB (s.take (k + 1)) := by
  have hr : ¬ (0 ≤ s.getD k (FT.zero (.int .i64)) ∧ s.getD k (FT.zero (.int .i64)) ≤ 7) := fun q => by rw [inR_t.2 q] at hr; cases hr
  refine boolL_ext (by rw [firstB_len, firstB_len]) fun i => ?_
  by_cases hi : i < 8
  · rw [firstB_get hi, firstB_get hi, getD_int h]
    simp only [List.mem_append, List.mem_singleton, decide_eq_true_eq]
    constructor
    · exact .inl
    · rintro (q | q)
      · exact q
      · exact absurd ⟨by omega, by omega⟩ hr
  · rw [List.getD_eq_getElem?_getD, List.getElem?_eq_none (by rw [firstB_len]; omega), List.getD_eq_getElem?_getD, List.getElem?_eq_none (by rw [firstB_len]; omega)]
theorem etaFlow (f : Flow) : (⟨f.come, f.may⟩ : Flow) = f := rfl
theorem firstB_nil (s : List Int) : List.replicate (Int.toNat 8) FT.bool.zero = firstB (s.take 0) := by rw [List.take_zero]; decide
theorem mem_getD {ns : List Int} {k : Nat} (h : k < ns.length) : ns.getD k (FT.zero (.int .i64)) ∈ ns := by
  rw [List.getD_eq_getElem?_getD, List.getElem?_eq_getElem h]; exact List.getElem_mem h
theorem getD_idx {ns : List Int} {x : Int} (h : x ∈ ns) : ∃ k, k < ns.length ∧ ns.getD k (FT.zero (.int .i64)) = x := by
  obtain ⟨k, hk, e⟩ := List.getElem_of_mem h
  exact ⟨k, hk, by rw [List.getD_eq_getElem?_getD, List.getElem?_eq_getElem hk]; exact e⟩

def lb_impl_flowOf_0 : PC := .seq (.reg [.s (.bin 23 .lss (.t 22) (.t 21))]) (.seq (.cond (.t 23) (.skip) (.exit 0)) (.seq (.blk 1 (.rgd [] [.s (.mv 24 (.t 5)), .s (.mv 25 (.t 5)), .s (.nchk 26 (.t 25)), .s (.fa 27 (.t 26) 1), .s (.load 28 false 1 (.t 27)), .s (.mkS 29 .bool (.k (.v (.c (.int .i64 8))))), .s (.bsr 30 [(.t 29)]), .s (.appw 31 .bool (.t 28) (.t 30)), .s (.nchk 32 (.t 24)), .s (.fa 33 (.t 32) 1), .s (.store 1 (.t 33) (.t 31))] (.tk 0 (.tk 1 (.tk 2 (.tk 3 (.tk 4 (.one 5 false (.one 6 false (.one 7 true (.tk 8 (.tk 9 (.one 10 true (.done none)))))))))))))) (.reg [.s (.bin 34 .add (.t 22) (.k (.v (.c (.int .i64 1))))), .s (.mv 22 (.t 34))])))
def lb_impl_flowOf_1 : PC := .seq (.reg [.s (.bin 39 .lss (.t 38) (.t 37))]) (.seq (.cond (.t 39) (.skip) (.exit 2)) (.seq (.blk 3 (.seq (.reg [.s (.ia 40 (.int .i64) (.t 36) (.t 38)), .s (.load 41 false 1 (.t 40)), .s (.mv 8 (.t 41))]) (.seq (.reg [.s (.mv 42 (.t 8)), .s (.call (some 43) 30 [(.t 42), (.k (.v (.c (.int .i64 0)))), (.k (.v (.c (.int .i64 7))))])]) (.cond (.t 43) (.reg [.s (.mv 44 (.t 6)), .s (.mv 45 (.t 8)), .s (.ia 46 .bool (.t 44) (.t 45)), .s (.store 1 (.t 46) (.k (.v (.c .tt))))]) (.skip))))) (.reg [.s (.bin 47 .add (.t 38) (.k (.v (.c (.int .i64 1))))), .s (.mv 38 (.t 47))])))
def lb_impl_flowOf_2 : PC := .seq (.reg [.s (.bin 81 .lss (.t 80) (.t 79))]) (.seq (.cond (.t 81) (.skip) (.exit 8)) (.seq (.blk 9 (.seq (.reg [.s (.ia 82 (.int .i64) (.t 78) (.t 80)), .s (.load 83 false 1 (.t 82)), .s (.mv 14 (.t 83))]) (.seq (.reg [.s (.mv 84 (.t 5)), .s (.mv 85 (.t 14)), .s (.mv 86 (.t 12)), .s (.call (some 87) 34 [(.t 84), (.t 85), (.t 86)])]) (.cond (.t 87) (.reg [.s (.mv 9 (.k (.v (.c .tt))))]) (.skip))))) (.reg [.s (.bin 88 .add (.t 80) (.k (.v (.c (.int .i64 1))))), .s (.mv 80 (.t 88))])))
def lb_impl_flowOf_3 : PC := .seq (.reg [.s (.bin 55 .lss (.t 54) (.t 53))]) (.seq (.cond (.t 55) (.skip) (.exit 6)) (.seq (.blk 7 (.seq (.reg [.s (.mv 56 (.t 54)), .s (.ia 57 .inst (.t 52) (.t 54)), .s (.load 58 true 5 (.t 57)), .s (.alloc 11 [.int .i64 0, .int .i64 0, .int .i64 0, .int .i64 0, .int .i64 0]), .s (.mv 10 (.t 56)), .s (.store 5 (.t 11) (.t 58))]) (.seq (.seq (.reg [.s (.mv 59 (.t 5)), .s (.nchk 60 (.t 59)), .s (.fa 61 (.t 60) 0), .s (.load 62 false 1 (.t 61)), .s (.mv 63 (.t 10)), .s (.ia 64 .bool (.t 62) (.t 63)), .s (.load 65 false 1 (.t 64)), .s (.bnot 66 (.t 65))]) (.cond (.t 66) (.exit 7) (.skip))) (.seq (.rgd [] [.s (.load 67 true 5 (.t 11)), .s (.mv 68 (.t 5)), .s (.nchk 69 (.t 68)), .s (.fa 70 (.t 69) 1), .s (.load 71 false 1 (.t 70)), .s (.mv 72 (.t 10)), .s (.ia 73 .str (.t 71) (.t 72)), .s (.load 74 false 1 (.t 73)), .s (.call (some 75) 35 [(.t 67), (.t 74)]), .s (.mv 12 (.t 75))] (.tk 0 (.tk 1 (.tk 2 (.tk 3 (.tk 4 (.tk 5 (.tk 6 (.tk 7 (.one 8 true (.tk 9 (.done none)))))))))))) (.seq (.reg [.s (.mv 76 (.t 0)), .s (.mv 77 (.t 10)), .s (.call (some 78) 36 [(.t 76), (.t 77)]), .s (.len 79 false (.t 78)), .s (.mv 80 (.k (.v (.c (.int .i64 0)))))]) (.blk 8 (.loop [0, 5, 9, 12, 52, 53, 54, 78, 79, 80] lb_impl_flowOf_2))))))) (.reg [.s (.bin 89 .add (.t 54) (.k (.v (.c (.int .i64 1))))), .s (.mv 54 (.t 89))])))
def lb_impl_flowOf_4 : PC := .seq (.seq (.reg [.s (.mv 51 (.t 9))]) (.cond (.t 51) (.skip) (.exit 4))) (.blk 5 (.seq (.reg [.s (.mv 9 (.k (.v (.c .ff))))]) (.seq (.reg [.s (.mv 52 (.t 0)), .s (.len 53 false (.t 52)), .s (.mv 54 (.k (.v (.c (.int .i64 0)))))]) (.blk 6 (.loop [0, 5, 9, 52, 53, 54] lb_impl_flowOf_3)))))
def pf_impl_flowOf : PF := ⟨[.t 4], .seq (.reg [.s (.mv 4 (.k (.v (.c .nilp))))]) (.seq (.reg [.s (.mv 15 (.t 0)), .s (.len 16 false (.t 15)), .s (.mkS 17 .bool (.t 16)), .s (.build 18 [.nils .bool, .nils .bool] [(0, 1, (.t 17))]), .s (.box 19 (.t 18)), .s (.mv 5 (.t 19))]) (.seq (.seq (.reg [.s (.mv 20 (.t 0)), .s (.len 21 false (.t 20)), .s (.mv 22 (.k (.v (.c (.int .i64 0)))))]) (.blk 0 (.loop [0, 1, 5, 21, 22] lb_impl_flowOf_0))) (.seq (.reg [.s (.mkS 35 .bool (.k (.v (.c (.int .i64 8))))), .s (.mv 6 (.t 35))]) (.seq (.seq (.reg [.s (.mv 36 (.t 1)), .s (.len 37 false (.t 36)), .s (.mv 38 (.k (.v (.c (.int .i64 0)))))]) (.blk 2 (.loop [0, 5, 6, 36, 37, 38] lb_impl_flowOf_1))) (.seq (.reg [.s (.mv 48 (.t 5)), .s (.mv 49 (.t 6)), .s (.call (some 50) 34 [(.t 48), (.k (.v (.c (.int .i64 0)))), (.t 49)])]) (.seq (.seq (.reg [.s (.mv 9 (.k (.v (.c .tt))))]) (.blk 4 (.loop [0, 5, 9] lb_impl_flowOf_4))) (.seq (.reg [.s (.mv 90 (.t 5)), .s (.mv 4 (.t 90))]) (.ret))))))))⟩
def c_impl_flowOf : Fun := ⟨23, [], fun ts K => as2 ts fun t0 t1 => arC (pL .inst) t0 fun l => arC (pL (.int .i64)) t1 fun s => chk (codeOk l = true ∧ s.length ≤ 2147483647) (∀ (f : Flow), (IsFlow l s f) → K (.v (.ptr true 0 (f.tc []))) [])⟩
theorem run_impl_flowOf (FU : Nat) (l : List (FT.Ty .inst)) (s : List (FT.Ty (.int .i64))) (hpre : codeOk l = true ∧ s.length ≤ 2147483647) {K : Tree → List Tree → Prop} (hK : ∀ (f : Flow), (IsFlow l s f) → K (.v (.ptr true 0 (f.tc []))) []) : runK [c_impl_in, c_impl_flow_comeTo, c_impl_behind, c_impl_nextPlaces] (500 + s.length + FU) [] pf_impl_flowOf [tL false .inst l, tL false (.int .i64) s] K := by
  obtain ⟨hc, hs⟩ := hpre
  obtain ⟨n1, n2, hok⟩ := codeOk_out hc
  conv => whnf
  repeat' (first | (refine sel_i (fun h => ?_) (fun h => ?_) <;> conv => whnf) | (refine chk_c ?_ ?_ <;> conv => whnf) | (refine And.intro ?_ rfl) | (refine And.intro ?_ ?_ <;> conv => whnf))
  all_goals (try simp only [Int.toNat_natCast] at *)
  all_goals first
    | (refine ⟨?_⟩; omega)
    | skip
  rw [show List.replicate l.length FT.bool.zero = List.replicate l.length false from rfl]
  refine loop (α := Nat) (fun k => match k with
      | 0 => ⟨[(0, .v (.c (.sl false .inst 0))), (1, .v (.c (.sl false (.int .i64) 1))), (5, .v (.c (.ptr 2 0))), (21, .v (.c (.int .i64 (l.length : Int)))), (22, .v (.c (.int .i64 0)))],
          [(3, some (.flat true .bool none (List.replicate l.length false))), (2, some (.box true [.sl true .bool 3, .nils .bool])), (1, some (.flat false (.int .i64) none s)), (0, some (.flat false .inst none l))], nums.tail.tail.tail.tail, [], false, []⟩
      | k + 1 => ⟨[(0, .v (.c (.sl false .inst 0))), (1, .v (.c (.sl false (.int .i64) 1))), (5, .v (.c (.ptr 2 0))), (21, .v (.c (.int .i64 (l.length : Int)))), (22, .v (.c (.int .i64 ((k + 1 : Nat) : Int))))],
          [(4, some (.rows true .bool (List.replicate (k + 1) zRow))), (3, some (.flat true .bool none (List.replicate l.length false))), (2, some (.box true [.sl true .bool 3, .sl false .str 4])), (1, some (.flat false (.int .i64) none s)), (0, some (.flat false .inst none l))], nums.tail.tail.tail.tail.tail, [], false, []⟩)
    (fun k => k ≤ l.length) (fun k => l.length - k) (fun k R hI hR => ?_) 0 _ (by omega) (by show l.length - 0 < 500 + s.length + FU; omega)
  cases k with
  | zero =>
    dsimp only at hR ⊢
    conv => whnf
    repeat' (first | (refine sel_i (fun h => ?_) (fun h => ?_) <;> conv => whnf) | (refine chk_c ?_ ?_ <;> conv => whnf) | (refine And.intro ?_ rfl) | (refine And.intro ?_ ?_ <;> conv => whnf))
    all_goals (try simp only [Int.toNat_natCast, decide_eq_true_eq, decide_eq_false_iff_not] at *)
    all_goals first
      | (refine ⟨?_⟩; omega)
      | (exfalso; omega)
      | exact hR 1 (by omega) (by omega)
      | trace_state
  | succ k =>
    dsimp only at hR ⊢
    have w3 : IntKind.i64.wrap (((k + 1 : Nat) : Int) + 1) = ((k + 1 + 1 : Nat) : Int) := by rw [wrap_id (by omega) (by omega)]; rfl
    conv => whnf
    repeat' (first | (refine sel_i (fun h => ?_) (fun h => ?_) <;> conv => whnf) | (refine chk_c ?_ ?_ <;> conv => whnf) | (refine And.intro ?_ rfl) | (refine And.intro ?_ ?_ <;> conv => whnf))
    all_goals (try simp only [w3, Int.toNat_natCast, decide_eq_true_eq, decide_eq_false_iff_not] at *)
    all_goals first
      | (refine ⟨?_⟩; omega)
      | (refine ⟨?_⟩; rw [List.length_replicate]; omega)
      | (have hR2 := hR (k + 1 + 1) (by omega) (by omega); dsimp only at hR2; rw [← reps_succ (k + 1)] at hR2; exact hR2)
      | skip
    have hkn : k + 1 = l.length := by omega
    rw [hkn]
    clear hR w3 hI h
    rw [firstB_nil s]
    refine loop (α := Nat) (fun i => ⟨[(0, .v (.c (.sl false .inst 0))), (5, .v (.c (.ptr 1 0))), (6, .v (.c (.sl true .bool 4))), (36, .v (.c (.sl false (.int .i64) 5))), (37, .v (.c (.int .i64 (s.length : Int)))), (38, .v (.c (.int .i64 (i : Int))))],
        [(5, some (.flat false (.int .i64) none s)), (4, some (.flat true .bool none (firstB (s.take i)))), (3, some (.rows true .bool (List.replicate l.length zRow))), (2, some (.flat true .bool none (List.replicate l.length false))), (1, some (.box true [.sl true .bool 2, .sl false .str 3])), (0, some (.flat false .inst none l))], nums.tail.tail.tail.tail.tail.tail, [], false, []⟩)
      (fun i => i ≤ s.length) (fun i => s.length - i) (fun i R hI hR => ?_) 0 _ (by omega) (by show s.length - 0 < 500 + s.length + FU; omega)
    have w3 : IntKind.i64.wrap ((i : Int) + 1) = ((i + 1 : Nat) : Int) := by rw [wrap_id (by omega) (by omega)]; rfl
    have hfl := firstB_len (s.take i)
    have fy := @firstB_yes s i
    have fn := @firstB_no s i
    have hR := hR (i + 1)
    conv => whnf
    repeat' (first | (refine sel_i (fun h => ?_) (fun h => ?_) <;> conv => whnf) | (refine chk_c ?_ ?_ <;> conv => whnf) | (refine And.intro ?_ rfl) | (refine And.intro ?_ ?_ <;> conv => whnf))
    all_goals (try simp only [w3, hfl, Int.toNat_natCast, decide_eq_true_eq, decide_eq_false_iff_not] at *)
    all_goals first
      | (refine ⟨?_⟩; omega)
      | (refine ⟨?_⟩; rw [List.length_replicate]; exact ⟨zFlow_ok _, by omega, by omega, trivial⟩)
      | (have hin := (show inR (s.getD i (FT.zero (.int .i64))) 0 7 = true by assumption); have hr := inR_t.1 hin; refine ⟨?_⟩; omega)
      | (have hin := (show inR (s.getD i (FT.zero (.int .i64))) 0 7 = true by assumption)
         rw [fy (by omega) hin]; exact hR (by omega) (by omega))
      | (have hin := (show inR (s.getD i (FT.zero (.int .i64))) 0 7 = false by assumption)
         rw [fn (by omega) hin]; exact hR (by omega) (by omega))
      | skip
    have hi : i = s.length := by omega
    have ef : comeM ⟨List.replicate l.length false, List.replicate l.length zRow⟩ (Int.toNat 0) (firstB (s.take i)) = flow0 l.length s := by rw [hi, List.take_length]; rfl
    rw [ef]
    clear hR fy fn w3 hfl ef hI
    clear h
    refine loop (α := Bool × Flow) (fun q => match q with
        | (true, f) => ⟨[(0, .v (.c (.sl false .inst 0))), (5, .v (.c (.ptr 1 0))), (9, .v (.c .tt))], [(3, some (.rows true .bool f.may)), (2, some (.flat true .bool none f.come)), (1, some (.box true [.sl false .bool 2, .sl false .str 3])), (0, some (.flat false .inst none l))], nums.tail.tail.tail.tail, [], false, []⟩
        | (false, f) => ⟨[(0, .v (.c (.sl false .inst 0))), (5, .v (.c (.ptr 1 0))), (9, .v (.c .ff))], [(3, some (.rows true .bool f.may)), (2, some (.flat true .bool none f.come)), (1, some (.box true [.sl false .bool 2, .sl false .str 3])), (0, some (.flat false .inst none l))], nums.tail.tail.tail.tail, [], false, []⟩)
      (fun q => FSound l s q.2 ∧ (q.1 = false → ∀ i, i < l.length → cAt q.2 i = true → Shut l q.2 i)) (fun q => (9 * l.length - cntF q.2) + (if q.1 = true then 1 else 0)) (fun q R hI hR => ?_) (true, flow0 l.length s) _ ⟨sound_0 l s, fun h => by cases h⟩ (by show (9 * l.length - cntF (flow0 l.length s)) + 1 < 500 + s.length + FU; omega)
    obtain ⟨b, f⟩ := q
    obtain ⟨hS, hC⟩ := hI
    dsimp only at hS hC
    have hcm := cnt_max hS.ok
    cases b with
    | false =>
      dsimp only
      conv => whnf
      repeat' (first | (refine sel_i (fun h => ?_) (fun h => ?_) <;> conv => whnf) | (refine chk_c ?_ ?_ <;> conv => whnf) | (refine And.intro ?_ rfl) | (refine And.intro ?_ ?_ <;> conv => whnf))
      exact hK f (sound_end hS (by omega) (hC rfl))
    | true =>
      dsimp only
      conv => whnf
      repeat' (first | (refine sel_i (fun h => ?_) (fun h => ?_) <;> conv => whnf) | (refine chk_c ?_ ?_ <;> conv => whnf) | (refine And.intro ?_ rfl) | (refine And.intro ?_ ?_ <;> conv => whnf))
      refine loop (α := Nat × Bool × Flow) (fun q => match q with
          | (i, true, g) => ⟨[(0, .v (.c (.sl false .inst 0))), (5, .v (.c (.ptr 1 0))), (9, .v (.c .tt)), (52, .v (.c (.sl false .inst 0))), (53, .v (.c (.int .i64 (l.length : Int)))), (54, .v (.c (.int .i64 (i : Int))))], [(3, some (.rows true .bool g.may)), (2, some (.flat true .bool none g.come)), (1, some (.box true [.sl false .bool 2, .sl false .str 3])), (0, some (.flat false .inst none l))], nums.tail.tail.tail.tail, [], false, []⟩
          | (i, false, g) => ⟨[(0, .v (.c (.sl false .inst 0))), (5, .v (.c (.ptr 1 0))), (9, .v (.c .ff)), (52, .v (.c (.sl false .inst 0))), (53, .v (.c (.int .i64 (l.length : Int)))), (54, .v (.c (.int .i64 (i : Int))))], [(3, some (.rows true .bool g.may)), (2, some (.flat true .bool none g.come)), (1, some (.box true [.sl false .bool 2, .sl false .str 3])), (0, some (.flat false .inst none l))], nums.tail.tail.tail.tail, [], false, []⟩)
        (fun q => q.1 ≤ l.length ∧ FSound l s q.2.2 ∧ (q.2.1 = false → q.2.2 = f ∧ ∀ j, j < q.1 → cAt f j = true → Shut l f j) ∧ (q.2.1 = true → cntF f + 1 ≤ cntF q.2.2)) (fun q => l.length - q.1) (fun q R2 hI2 hR2 => ?_) (0, false, f) _ ⟨Nat.zero_le _, hS, fun _ => ⟨rfl, fun j hj => absurd hj (Nat.not_lt_zero _)⟩, fun h => by cases h⟩ (by show l.length - 0 < 500 + s.length + FU; omega)
      obtain ⟨i, b, g⟩ := q
      obtain ⟨hi, hG, hb0, hb1⟩ := hI2
      dsimp only at hi hG hb0 hb1
      have hgm := cnt_max hG.ok
      have hgc : g.come.length = l.length := hG.ok.1
      have hgl : g.may.length = l.length := hG.ok.2.1
      have w3 : IntKind.i64.wrap ((i : Int) + 1) = ((i + 1 : Nat) : Int) := by rw [wrap_id (by omega) (by omega)]; rfl
      have H : (b = false ∧ g = f ∧ ∀ j, j < i → cAt f j = true → Shut l f j) ∨ (b = true ∧ cntF f + 1 ≤ cntF g) := by
        cases b with
        | false => exact .inl ⟨rfl, hb0 rfl⟩
        | true => exact .inr ⟨rfl, hb1 rfl⟩
      clear hb0 hb1
      rcases H with ⟨rfl, e1, e2⟩ | ⟨rfl, hb1⟩ <;> dsimp only
      all_goals (
        conv => whnf
        repeat' (first | (refine sel_i (fun h => ?_) (fun h => ?_) <;> conv => whnf) | (refine chk_c ?_ ?_ <;> conv => whnf) | (refine And.intro ?_ rfl) | (refine And.intro ?_ ?_ <;> conv => whnf))
        all_goals (try simp only [w3, hgc, hgl, etaInst, Int.toNat_natCast, Bool.not_eq_true', Bool.not_eq_false', decide_eq_true_eq, decide_eq_false_iff_not] at *)
        all_goals first
          | (refine ⟨?_⟩; omega)
          | (refine ⟨?_⟩; exact ⟨by omega, by omega⟩)
          | (refine ⟨?_⟩; exact ⟨by omega, by omega, by omega, atI_ok hok (by omega) (by omega)⟩)
          | (refine ⟨?_⟩; exact ⟨atI_ok hok (a := (i : Int)) (by omega) (by omega), hG.ok.2.2 i (by omega)⟩)
          | (have hno : g.come.getD i FT.bool.zero = false := by assumption
             exact hR2 (i + 1, true, g) ⟨by dsimp only; omega, hG, (fun h => by cases h), fun _ => hb1⟩ (by dsimp only; omega))
          | (have hno : g.come.getD i FT.bool.zero = false := by assumption
             exact hR2 (i + 1, false, g) ⟨by dsimp only; omega, hG, fun _ => ⟨e1, fun j hj hcj => by
               by_cases e : j = i
               · subst e; unfold cAt at hcj; rw [← e1] at hcj; rw [show g.come.getD j fB = false from hno] at hcj; cases hcj
               · exact e2 j (by dsimp only at hj; omega) hcj⟩, fun h => by cases h⟩ (by dsimp only; omega))
          | (exact hR (true, g) ⟨hG, fun h => by cases h⟩ (by dsimp only; simp only [if_true]; omega))
          | (exact hR (false, g) ⟨hG, fun _ j hj hcj => by dsimp only at hcj ⊢; rw [e1] at hcj ⊢; exact e2 j (by omega) hcj⟩ (by dsimp only; rw [e1]; simp only [if_true, Bool.false_eq_true, if_false]; omega))
          | skip)
      all_goals (
        have hci : cAt g i = true := by assumption
        have ht := told_of hG (show i < l.length by omega) (atI_ok hok (a := (i : Int)) (by omega) (by omega)) hci
        have hin : ∀ x ∈ nextI l (i : Int), 0 ≤ x ∧ x < l.length := fun x hx => nextI_in hx
        rw [show l.getD i FT.inst.zero = Go.Pi.atI l (i : Int) from rfl]
        generalize hout : behindB (Go.Pi.atI l (i : Int)) (g.may.getD i []) = out at *
        generalize hns : nextI l (i : Int) = ns at *
        have hnl : ns.length ≤ l.length := by rw [← hns]; exact nextI_len l _
        have htj : ∀ j : Nat, (j : Int) ∈ ns → (j : Int) ∈ nextI l (i : Int) := fun j hj => by rw [hns]; exact hj)
      · refine loop (α := Nat × Bool × Flow) (fun q => match q with
            | (k, true, z) => ⟨[(0, .v (.c (.sl false .inst 0))), (5, .v (.c (.ptr 1 0))), (9, .v (.c .tt)), (12, .v (.c (.sl false .bool 4))), (52, .v (.c (.sl false .inst 0))), (53, .v (.c (.int .i64 (l.length : Int)))), (54, .v (.c (.int .i64 (i : Int)))), (78, .v (.c (.sl false (.int .i64) 5))), (79, .v (.c (.int .i64 (ns.length : Int)))), (80, .v (.c (.int .i64 (k : Int))))],
            [(5, some (.flat true (.int .i64) none ns)), (4, some (.flat true .bool none out)), (3, some (.rows true .bool z.may)), (2, some (.flat true .bool none z.come)), (1, some (.box true [.sl false .bool 2, .sl false .str 3])), (0, some (.flat false .inst none l))], nums.tail.tail.tail.tail.tail.tail, [], false, []⟩
            | (k, false, z) => ⟨[(0, .v (.c (.sl false .inst 0))), (5, .v (.c (.ptr 1 0))), (9, .v (.c .ff)), (12, .v (.c (.sl false .bool 4))), (52, .v (.c (.sl false .inst 0))), (53, .v (.c (.int .i64 (l.length : Int)))), (54, .v (.c (.int .i64 (i : Int)))), (78, .v (.c (.sl false (.int .i64) 5))), (79, .v (.c (.int .i64 (ns.length : Int)))), (80, .v (.c (.int .i64 (k : Int))))],
            [(5, some (.flat true (.int .i64) none ns)), (4, some (.flat true .bool none out)), (3, some (.rows true .bool z.may)), (2, some (.flat true .bool none z.come)), (1, some (.box true [.sl false .bool 2, .sl false .str 3])), (0, some (.flat false .inst none l))], nums.tail.tail.tail.tail.tail.tail, [], false, []⟩)
          (fun q => q.1 ≤ ns.length ∧ FSound l s q.2.2 ∧ ((q.2.1 = false ∧ q.2.2 = g ∧ ∀ j, j < q.1 → cAt g (ns.getD j (FT.zero (.int .i64))).toNat = true ∧ rowLe out (g.may.getD (ns.getD j (FT.zero (.int .i64))).toNat [])) ∨ (q.2.1 = true ∧ cntF f + 1 ≤ cntF q.2.2))) (fun q => ns.length - q.1) (fun q R3 hI3 hR3 => ?_) (0, false, g) _ ⟨Nat.zero_le _, hG, .inl ⟨rfl, rfl, fun j hj => absurd hj (Nat.not_lt_zero _)⟩⟩ (by show ns.length - 0 < 500 + s.length + FU; omega)
        obtain ⟨k, b, z⟩ := q
        obtain ⟨hk, hH, H3⟩ := hI3
        dsimp only at hk hH H3
        have hhm := cnt_max hH.ok
        have hhc : z.come.length = l.length := hH.ok.1
        have w4 : IntKind.i64.wrap ((k : Int) + 1) = ((k + 1 : Nat) : Int) := by rw [wrap_id (by omega) (by omega)]; rfl
        have hmk := fun q => hin _ (mem_getD (ns := ns) (k := k) q)
        have hmm := fun q => mem_getD (ns := ns) (k := k) q
        have w5 : IntKind.i64.wrap ((i : Int) + 1) = ((i + 1 : Nat) : Int) := by rw [wrap_id (by omega) (by omega)]; rfl
        clear hR
        rcases H3 with ⟨rfl, e3, e4⟩ | ⟨rfl, hb3⟩ <;> dsimp only
        all_goals (
          conv => whnf
          repeat' (first | (refine sel_i (fun h => ?_) (fun h => ?_) <;> conv => whnf) | (refine chk_c ?_ ?_ <;> conv => whnf) | (refine And.intro ?_ rfl) | (refine And.intro ?_ ?_ <;> conv => whnf))
          all_goals (try simp only [w4, w5, hhc, etaFlow, Int.toNat_natCast, decide_eq_true_eq, decide_eq_false_iff_not] at *)
          all_goals first
          | (refine ⟨?_⟩; omega)
          | (refine ⟨?_⟩; exact ⟨by omega, by omega⟩)
          | (refine ⟨?_⟩; exact ⟨hH.ok, (hmk (by omega)).1, (hmk (by omega)).2, ht.1⟩)
          | (have q : k < ns.length := by omega
             have hv := hmk q
             have hm := hmm q
             obtain ⟨J, hJ⟩ := Int.eq_ofNat_of_zero_le hv.1
             rw [hJ] at hv hm
             have hJ2 : (ns.getD k (FT.int IntKind.i64).zero).toNat = J := by rw [hJ]; rfl
             have hsd := sound_come hH ht (htj J hm)
             have hct := cnt_come (y := out) hH.ok (show J < l.length by omega)
             have hhas := come_has (y := out) hH.ok (show J < l.length by omega) ht.1
             have hf : freshM z (ns.getD k (FT.int IntKind.i64).zero).toNat out = true := by assumption
             rw [hJ2] at hf
             rw [hf, if_pos rfl] at hct
             rw [hJ2]
             exact hR3 (k + 1, true, comeM z J out) ⟨by dsimp only; omega, hsd, .inr ⟨rfl, by dsimp only; first | omega | (rw [← e1, ← e3]; omega)⟩⟩ (by dsimp only; omega))
          | (have q : k < ns.length := by omega
             have hv := hmk q
             have hm := hmm q
             obtain ⟨J, hJ⟩ := Int.eq_ofNat_of_zero_le hv.1
             rw [hJ] at hv hm
             have hJ2 : (ns.getD k (FT.int IntKind.i64).zero).toNat = J := by rw [hJ]; rfl
             have hsd := sound_come hH ht (htj J hm)
             have hct := cnt_come (y := out) hH.ok (show J < l.length by omega)
             have hhas := come_has (y := out) hH.ok (show J < l.length by omega) ht.1
             have hf : freshM z (ns.getD k (FT.int IntKind.i64).zero).toNat out = false := by assumption
             rw [hJ2] at hf
             have hcs := come_same hf
             rw [hJ2]
             exact hR3 (k + 1, false, comeM z J out) ⟨by dsimp only; omega, hsd, .inl ⟨rfl, hcs.trans e3, fun j hj => by
               by_cases e : j = k
               · subst e; rw [hJ2, ← e3, ← hcs]; exact hhas
               · exact e4 j (by dsimp only at hj; omega)⟩⟩ (by dsimp only; omega))
          | (have q : k < ns.length := by omega
             have hv := hmk q
             have hm := hmm q
             obtain ⟨J, hJ⟩ := Int.eq_ofNat_of_zero_le hv.1
             rw [hJ] at hv hm
             have hJ2 : (ns.getD k (FT.int IntKind.i64).zero).toNat = J := by rw [hJ]; rfl
             have hsd := sound_come hH ht (htj J hm)
             have hct := cnt_come (y := out) hH.ok (show J < l.length by omega)
             have hhas := come_has (y := out) hH.ok (show J < l.length by omega) ht.1
             have hf : freshM z (ns.getD k (FT.int IntKind.i64).zero).toNat out = false := by assumption
             rw [hJ2] at hf
             have hcs := come_same hf
             rw [hJ2]
             exact hR3 (k + 1, true, comeM z J out) ⟨by dsimp only; omega, hsd, .inr ⟨rfl, by dsimp only; rw [hcs]; exact hb3⟩⟩ (by dsimp only; omega))
          | (exact hR2 (i + 1, true, z) ⟨by dsimp only; omega, hH, (fun h => by cases h), fun _ => hb3⟩ (by dsimp only; omega))
          | (exact hR2 (i + 1, false, z) ⟨by dsimp only; omega, hH, fun _ => ⟨e3.trans e1, fun j hj hcj => by
               by_cases e : j = i
               · subst e
                 intro j' hj'
                 rw [hns] at hj'
                 obtain ⟨k', hk', ek⟩ := getD_idx hj'
                 have h9 := e4 k' (by omega)
                 rw [ek, Int.toNat_natCast, ← hout, e1] at h9
                 exact h9
               · exact e2 j (by dsimp only at hj; omega) hcj⟩, fun h => by cases h⟩ (by dsimp only; omega))
          | trace_state)
      · refine loop (α := Nat × Flow) (fun q => match q with
            | (k, z) => ⟨[(0, .v (.c (.sl false .inst 0))), (5, .v (.c (.ptr 1 0))), (9, .v (.c .tt)), (12, .v (.c (.sl false .bool 4))), (52, .v (.c (.sl false .inst 0))), (53, .v (.c (.int .i64 (l.length : Int)))), (54, .v (.c (.int .i64 (i : Int)))), (78, .v (.c (.sl false (.int .i64) 5))), (79, .v (.c (.int .i64 (ns.length : Int)))), (80, .v (.c (.int .i64 (k : Int))))],
            [(5, some (.flat true (.int .i64) none ns)), (4, some (.flat true .bool none out)), (3, some (.rows true .bool z.may)), (2, some (.flat true .bool none z.come)), (1, some (.box true [.sl false .bool 2, .sl false .str 3])), (0, some (.flat false .inst none l))], nums.tail.tail.tail.tail.tail.tail, [], false, []⟩)
          (fun q => q.1 ≤ ns.length ∧ FSound l s q.2 ∧ cntF f + 1 ≤ cntF q.2) (fun q => ns.length - q.1) (fun q R3 hI3 hR3 => ?_) (0, g) _ ⟨Nat.zero_le _, hG, hb1⟩ (by show ns.length - 0 < 500 + s.length + FU; omega)
        obtain ⟨k, z⟩ := q
        obtain ⟨hk, hH, hb3⟩ := hI3
        dsimp only at hk hH hb3
        have hhm := cnt_max hH.ok
        have hhc : z.come.length = l.length := hH.ok.1
        have w4 : IntKind.i64.wrap ((k : Int) + 1) = ((k + 1 : Nat) : Int) := by rw [wrap_id (by omega) (by omega)]; rfl
        have hmk := fun q => hin _ (mem_getD (ns := ns) (k := k) q)
        have hmm := fun q => mem_getD (ns := ns) (k := k) q
        have w5 : IntKind.i64.wrap ((i : Int) + 1) = ((i + 1 : Nat) : Int) := by rw [wrap_id (by omega) (by omega)]; rfl
        clear hR
        conv => whnf
        repeat' (first | (refine sel_i (fun h => ?_) (fun h => ?_) <;> conv => whnf) | (refine chk_c ?_ ?_ <;> conv => whnf) | (refine And.intro ?_ rfl) | (refine And.intro ?_ ?_ <;> conv => whnf))
        all_goals (try simp only [w4, w5, hhc, etaFlow, Int.toNat_natCast, decide_eq_true_eq, decide_eq_false_iff_not] at *)
        all_goals first
          | (refine ⟨?_⟩; omega)
          | (refine ⟨?_⟩; exact ⟨by omega, by omega⟩)
          | (refine ⟨?_⟩; exact ⟨hH.ok, (hmk (by omega)).1, (hmk (by omega)).2, ht.1⟩)
          | (have q : k < ns.length := by omega
             have hv := hmk q
             have hm := hmm q
             obtain ⟨J, hJ⟩ := Int.eq_ofNat_of_zero_le hv.1
             rw [hJ] at hv hm
             have hJ2 : (ns.getD k (FT.int IntKind.i64).zero).toNat = J := by rw [hJ]; rfl
             have hsd := sound_come hH ht (htj J hm)
             have hct := cnt_come (y := out) hH.ok (show J < l.length by omega)
             have hhas := come_has (y := out) hH.ok (show J < l.length by omega) ht.1
             rw [hJ2]
             exact hR3 (k + 1, comeM z J out) ⟨by dsimp only; omega, hsd, by dsimp only; split at hct <;> omega⟩ (by dsimp only; omega))
          | (exact hR2 (i + 1, true, z) ⟨by dsimp only; omega, hH, (fun h => by cases h), fun _ => hb3⟩ (by dsimp only; omega))
          | trace_state
theorem ok_impl_flowOf : FunOk Try.prog c_impl_flowOf := funOkR (E := [c_impl_in, c_impl_flow_comeTo, c_impl_behind, c_impl_nextPlaces]) (envOk_cons ok_impl_in (envOk_cons ok_impl_flow_comeTo (envOk_cons ok_impl_behind (envOk_cons ok_impl_nextPlaces (envOk_nil))))) mixd Try.func23 (pf := pf_impl_flowOf) (by kernel_rfl) fun ts K h => by
  obtain ⟨t0, t1, e0, h⟩ := as2_out h
  subst e0
  obtain ⟨l, e1, hq⟩ := arC_out (rd_l .inst) h
  clear h
  subst e1
  have h := hq
  clear hq
  obtain ⟨s, e1, hq⟩ := arC_out (rd_l (.int .i64)) h
  clear h
  subst e1
  have h := hq
  clear hq
  obtain ⟨hpre, h⟩ := chk_o h
  exact ⟨Nat.le_of_ble_eq_true (show Nat.ble 2 Try.f23.ntmps = true by kernel_rfl), _, run_impl_flowOf 0 l s hpre h⟩

theorem setR_zero {n : Nat} (s : List Int) : (List.replicate n zRow).set 0 (firstB (s.take 0)) = List.replicate n zRow := by
  rw [← firstB_nil s]
  cases n with
  | zero => rfl
  | succ n => rfl
theorem shut_keep {l : List Inst} {z z' : Flow} {i : Nat} (h : Shut l z i) (hb : Below z z') (hr : z'.may.getD i [] = z.may.getD i []) : Shut l z' i := fun j hj => by
  obtain ⟨q1, q2⟩ := h j hj
  rw [hr]
  exact ⟨hb.come j q1, fun r h => hb.may j r (q2 r h)⟩
theorem win_tail (v : Int) (t : List Int) : [] ++ win (v :: t) (0 + Int.toNat 1) (((t.length + 1 : Nat) : Int) - 1).toNat = t := by
  unfold win
  rw [List.nil_append, show (((t.length + 1 : Nat) : Int) - 1).toNat = t.length by omega]
  show (t.take t.length) = t
  exact List.take_length
theorem orTo_zero (y : List Bool) (h : y.length = 8) : orTo zRow y 8 = y := by
  refine boolL_ext (by rw [orTo_len, h]; rfl) fun i => ?_
  rw [orTo_get]
  have hz : zRow.getD i fB = false := by
    unfold zRow
    rw [List.getD_eq_getElem?_getD, List.getElem?_replicate]
    split <;> rfl
  split
  · rw [hz, Bool.false_or]
  · rename_i q
    have : y.getD i fB = false := by rw [List.getD_eq_getElem?_getD, List.getElem?_eq_none (by have : zRow.length = 8 := rfl; omega)]; rfl
    rw [hz, this]
theorem flow0_eq {n : Nat} (hn : 0 < n) (s : List Int) : flow0 n s = ⟨(List.replicate n false).set 0 true, (List.replicate n zRow).set 0 (firstB s)⟩ := by
  unfold flow0 comeM
  have e : (zFlow n).may.getD 0 [] = zRow := by
    unfold zFlow
    dsimp only
    rw [List.getD_eq_getElem?_getD, List.getElem?_replicate, if_pos hn]; rfl
  rw [e, orTo_zero _ (firstB_len s)]
  rfl
theorem nextP_eq {l : List Inst} {v : Int} (hc : codeOk l = true) (h0 : 0 ≤ v) (h1 : v < l.length) : nextP l v = nextI l v := by
  unfold nextP
  rw [hc, inR_t.2 ⟨h0, by omega⟩]; rfl

def lb_spec_l25Flow_0 : PC := .seq (.seq (.reg [.s (.mv 18 (.t 6)), .s (.mv 19 (.t 0)), .s (.len 20 false (.t 19)), .s (.bin 21 .lss (.t 18) (.t 20))]) (.cond (.t 21) (.skip) (.exit 0))) (.seq (.blk 1 (.reg [.s (.mv 24 (.t 5)), .s (.mkS 25 .bool (.k (.v (.c (.int .i64 8))))), .s (.bsr 26 [(.t 25)]), .s (.appw 27 .bool (.t 24) (.t 26)), .s (.mv 5 (.t 27))])) (.reg [.s (.mv 22 (.t 6)), .s (.bin 23 .add (.t 22) (.k (.v (.c (.int .i64 1))))), .s (.mv 6 (.t 23))]))
def lb_spec_l25Flow_1 : PC := .seq (.seq (.reg [.s (.mv 28 (.t 7)), .s (.mv 29 (.t 1)), .s (.len 30 false (.t 29)), .s (.bin 31 .lss (.t 28) (.t 30))]) (.cond (.t 31) (.skip) (.exit 2))) (.seq (.blk 3 (.seq (.reg [.s (.mv 34 (.t 1)), .s (.mv 35 (.t 7)), .s (.ia 36 (.int .i64) (.t 34) (.t 35)), .s (.load 37 false 1 (.t 36)), .s (.call (some 38) 27 [(.t 37), (.k (.v (.c (.int .i64 0)))), (.k (.v (.c (.int .i64 7))))])]) (.cond (.t 38) (.rgd [] [.s (.mv 39 (.t 5)), .s (.ia 40 .str (.t 39) (.k (.v (.c (.int .i64 0))))), .s (.load 41 false 1 (.t 40)), .s (.mv 42 (.t 1)), .s (.mv 43 (.t 7)), .s (.ia 44 (.int .i64) (.t 42) (.t 43)), .s (.load 45 false 1 (.t 44)), .s (.ia 46 .bool (.t 41) (.t 45)), .s (.store 1 (.t 46) (.k (.v (.c .tt))))] (.tk 0 (.tk 1 (.tk 2 (.tk 3 (.tk 4 (.tk 5 (.tk 6 (.tk 7 (.one 8 true (.done none))))))))))) (.skip)))) (.reg [.s (.mv 32 (.t 7)), .s (.bin 33 .add (.t 32) (.k (.v (.c (.int .i64 1))))), .s (.mv 7 (.t 33))]))
def lb_spec_l25Flow_2 : PC := .seq (.seq (.reg [.s (.mv 93 (.t 16)), .s (.bin 94 .lss (.t 93) (.k (.v (.c (.int .i64 8)))))]) (.cond (.t 94) (.skip) (.exit 8))) (.seq (.blk 9 (.seq (.reg [.s (.mv 97 (.t 11)), .s (.mv 98 (.t 16)), .s (.ia 99 .bool (.t 97) (.t 98)), .s (.load 100 false 1 (.t 99)), .s (.mv 101 (.t 100)), .g 101 true (some 102) (.mv 102 (.t 5)), .g 101 true (some 103) (.mv 103 (.t 14)), .g 101 true (some 104) (.ia 104 .str (.t 102) (.t 103)), .g 101 true (some 105) (.load 105 false 1 (.t 104)), .g 101 true (some 106) (.mv 106 (.t 16)), .g 101 true (some 107) (.ia 107 .bool (.t 105) (.t 106)), .g 101 true (some 108) (.load 108 false 1 (.t 107)), .g 101 true (some 109) (.bnot 109 (.t 108)), .s (.pick 110 (.t 101) (.t 109) (.k (.v (.c .ff))))]) (.cond (.t 110) (.seq (.reg [.s (.mv 111 (.t 5)), .s (.mv 112 (.t 14)), .s (.ia 113 .str (.t 111) (.t 112)), .s (.load 114 false 1 (.t 113)), .s (.mv 115 (.t 16)), .s (.ia 116 .bool (.t 114) (.t 115)), .s (.store 1 (.t 116) (.k (.v (.c .tt))))]) (.reg [.s (.mv 15 (.k (.v (.c .tt))))])) (.skip)))) (.reg [.s (.mv 95 (.t 16)), .s (.bin 96 .add (.t 95) (.k (.v (.c (.int .i64 1))))), .s (.mv 16 (.t 96))]))
def lb_spec_l25Flow_3 : PC := .seq (.seq (.reg [.s (.mv 75 (.t 13)), .s (.mv 76 (.t 12)), .s (.len 77 false (.t 76)), .s (.bin 78 .lss (.t 75) (.t 77))]) (.cond (.t 78) (.skip) (.exit 6))) (.seq (.blk 7 (.seq (.reg [.s (.mv 81 (.t 12)), .s (.mv 82 (.t 13)), .s (.ia 83 (.int .i64) (.t 81) (.t 82)), .s (.load 84 false 1 (.t 83)), .s (.mv 14 (.t 84))]) (.seq (.reg [.s (.mv 85 (.t 8)), .s (.mv 86 (.t 14)), .s (.ia 87 .bool (.t 85) (.t 86)), .s (.load 88 false 1 (.t 87)), .s (.bnot 89 (.t 88)), .s (.mv 15 (.t 89))]) (.seq (.reg [.s (.mv 90 (.t 8)), .s (.mv 91 (.t 14)), .s (.ia 92 .bool (.t 90) (.t 91)), .s (.store 1 (.t 92) (.k (.v (.c .tt))))]) (.seq (.seq (.reg [.s (.mv 16 (.k (.v (.c (.int .i64 0)))))]) (.blk 8 (.loop [0, 5, 8, 9, 11, 12, 13, 14, 15, 16] lb_spec_l25Flow_2))) (.seq (.reg [.s (.mv 117 (.t 15))]) (.cond (.t 117) (.reg [.s (.mv 118 (.t 9)), .s (.mv 119 (.t 14)), .s (.bs 120 (.int .i64) [(.t 119)]), .s (.app 121 (.int .i64) (.t 118) (.t 120)), .s (.mv 9 (.t 121))]) (.skip)))))))) (.reg [.s (.mv 79 (.t 13)), .s (.bin 80 .add (.t 79) (.k (.v (.c (.int .i64 1))))), .s (.mv 13 (.t 80))]))
def lb_spec_l25Flow_4 : PC := .seq (.seq (.reg [.s (.mv 53 (.t 9)), .s (.len 54 false (.t 53)), .s (.bin 55 .gtr (.t 54) (.k (.v (.c (.int .i64 0)))))]) (.cond (.t 55) (.skip) (.exit 4))) (.blk 5 (.seq (.reg [.s (.mv 56 (.t 9)), .s (.ia 57 (.int .i64) (.t 56) (.k (.v (.c (.int .i64 0))))), .s (.load 58 false 1 (.t 57)), .s (.mv 10 (.t 58))]) (.seq (.reg [.s (.bs 59 (.int .i64) []), .s (.mv 60 (.t 9)), .s (.slc 61 (.int .i64) (.t 60) (some (.k (.v (.c (.int .i64 1))))) none), .s (.app 62 (.int .i64) (.t 59) (.t 61)), .s (.mv 9 (.t 62))]) (.seq (.rgd [] [.s (.mv 63 (.t 0)), .s (.mv 64 (.t 10)), .s (.ia 65 .inst (.t 63) (.t 64)), .s (.load 66 true 5 (.t 65)), .s (.mv 67 (.t 5)), .s (.mv 68 (.t 10)), .s (.ia 69 .str (.t 67) (.t 68)), .s (.load 70 false 1 (.t 69)), .s (.call (some 71) 28 [(.t 66), (.t 70)]), .s (.mv 11 (.t 71))] (.tk 0 (.tk 1 (.tk 2 (.tk 3 (.tk 4 (.tk 5 (.tk 6 (.tk 7 (.one 8 true (.tk 9 (.done none)))))))))))) (.seq (.reg [.s (.mv 72 (.t 0)), .s (.mv 73 (.t 10)), .s (.call (some 74) 29 [(.t 72), (.t 73)]), .s (.mv 12 (.t 74))]) (.seq (.reg [.s (.mv 13 (.k (.v (.c (.int .i64 0)))))]) (.blk 6 (.loop [0, 5, 8, 9, 11, 12, 13] lb_spec_l25Flow_3))))))))
def pf_spec_l25Flow : PF := ⟨[.t 4], .seq (.reg [.s (.mv 4 (.k (.v (.c (.nils .bool)))))]) (.seq (.reg [.s (.bsw 17 .bool), .s (.mv 5 (.t 17))]) (.seq (.seq (.reg [.s (.mv 6 (.k (.v (.c (.int .i64 0)))))]) (.blk 0 (.loop [0, 1, 5, 6] lb_spec_l25Flow_0))) (.seq (.seq (.reg [.s (.mv 7 (.k (.v (.c (.int .i64 0)))))]) (.blk 2 (.loop [0, 1, 5, 7] lb_spec_l25Flow_1))) (.seq (.reg [.s (.mv 47 (.t 0)), .s (.len 48 false (.t 47)), .s (.mkS 49 .bool (.t 48)), .s (.mv 8 (.t 49))]) (.seq (.reg [.s (.mv 50 (.t 8)), .s (.ia 51 .bool (.t 50) (.k (.v (.c (.int .i64 0))))), .s (.store 1 (.t 51) (.k (.v (.c .tt))))]) (.seq (.reg [.s (.bs 52 (.int .i64) [(.k (.v (.c (.int .i64 0))))]), .s (.mv 9 (.t 52))]) (.seq (.blk 4 (.loop [0, 5, 8, 9] lb_spec_l25Flow_4)) (.seq (.reg [.s (.mv 122 (.t 5)), .s (.mv 4 (.t 122))]) (.ret)))))))))⟩
def c_spec_l25Flow : Fun := ⟨20, [], fun ts K => as2 ts fun t0 t1 => arC (pL .inst) t0 fun l => arC (pL (.int .i64)) t1 fun s => chk (codeOk l = true ∧ s.length ≤ 2147483647) (∀ (f : Flow), (IsFlow l s f) → K (.v (.c (.rows true .bool f.may))) [])⟩
theorem run_spec_l25Flow (FU : Nat) (l : List (FT.Ty .inst)) (s : List (FT.Ty (.int .i64))) (hpre : codeOk l = true ∧ s.length ≤ 2147483647) {K : Tree → List Tree → Prop} (hK : ∀ (f : Flow), (IsFlow l s f) → K (.v (.c (.rows true .bool f.may))) []) : runK [c_spec_l1In, c_spec_l25Behind, c_spec_NextPlaces] (500 + s.length + FU) [] pf_spec_l25Flow [tL false .inst l, tL false (.int .i64) s] K := by
  obtain ⟨hc, hs⟩ := hpre
  obtain ⟨n1, n2, hok⟩ := codeOk_out hc
  conv => whnf
  refine loop (α := Nat) (fun k => ⟨[(0, .v (.c (.sl false .inst 0))), (1, .v (.c (.sl false (.int .i64) 1))), (5, .v (.c (.sl true .str 2))), (6, .v (.c (.int .i64 (k : Int))))],
      [(2, some (.rows true .bool (List.replicate k zRow))), (1, some (.flat false (.int .i64) none s)), (0, some (.flat false .inst none l))], nums.tail.tail.tail, [], false, []⟩)
    (fun k => k ≤ l.length) (fun k => l.length - k) (fun k R hI hR => ?_) 0 _ (by omega) (by show l.length - 0 < 500 + s.length + FU; omega)
  have w3 : IntKind.i64.wrap ((k : Int) + 1) = ((k + 1 : Nat) : Int) := by rw [wrap_id (by omega) (by omega)]; rfl
  have hR := hR (k + 1)
  rw [← reps_succ k] at hR
  conv => whnf
  repeat' (first | (refine sel_i (fun h => ?_) (fun h => ?_) <;> conv => whnf) | (refine chk_c ?_ ?_ <;> conv => whnf) | (refine And.intro ?_ rfl) | (refine And.intro ?_ ?_ <;> conv => whnf))
  all_goals (try simp only [w3, Int.toNat_natCast, decide_eq_true_eq, decide_eq_false_iff_not] at *)
  all_goals first
    | (refine ⟨?_⟩; rw [List.length_replicate]; omega)
    | (refine ⟨?_⟩; omega)
    | exact hR (by omega) (by omega)
    | skip
  have hkn : k = l.length := by omega
  rw [hkn, ← setR_zero (n := l.length) s]
  clear hR w3 hI h
  refine loop (α := Nat) (fun i => ⟨[(0, .v (.c (.sl false .inst 0))), (1, .v (.c (.sl false (.int .i64) 1))), (5, .v (.c (.sl true .str 2))), (7, .v (.c (.int .i64 (i : Int))))],
      [(2, some (.rows true .bool ((List.replicate l.length zRow).set 0 (firstB (s.take i))))), (1, some (.flat false (.int .i64) none s)), (0, some (.flat false .inst none l))], nums.tail.tail.tail, [], false, []⟩)
    (fun i => i ≤ s.length) (fun i => s.length - i) (fun i R hI hR => ?_) 0 _ (by omega) (by show s.length - 0 < 500 + s.length + FU; omega)
  have w3 : IntKind.i64.wrap ((i : Int) + 1) = ((i + 1 : Nat) : Int) := by rw [wrap_id (by omega) (by omega)]; rfl
  have hfl := firstB_len (s.take i)
  have fy := @firstB_yes s i
  have fn := @firstB_no s i
  have hM0 : ((List.replicate l.length zRow).set 0 (firstB (s.take i))).getD 0 [] = firstB (s.take i) := getR_set (by rw [List.length_replicate]; omega)
  have hMl : ((List.replicate l.length zRow).set 0 (firstB (s.take i))).length = l.length := by simp
  have hss : ∀ z, ((List.replicate l.length zRow).set 0 (firstB (s.take i))).set 0 z = (List.replicate l.length zRow).set 0 z := fun z => List.set_set _
  have hR := hR (i + 1)
  conv => whnf
  repeat' (first | (refine sel_i (fun h => ?_) (fun h => ?_) <;> conv => whnf) | (refine chk_c ?_ ?_ <;> conv => whnf) | (refine And.intro ?_ rfl) | (refine And.intro ?_ ?_ <;> conv => whnf))
  all_goals (try simp only [w3, hfl, hM0, hMl, hss, Int.toNat_natCast, Int.toNat_zero, decide_eq_true_eq, decide_eq_false_iff_not] at *)
  all_goals first
    | (refine ⟨?_⟩; omega)
    | (refine ⟨?_⟩; rw [List.length_replicate]; omega)
    | (refine ⟨?_⟩; simp only [List.length_replicate]; omega)
    | (have hin := (show inR (s.getD i (FT.zero (.int .i64))) 0 7 = true by assumption); have hr := inR_t.1 hin; refine ⟨?_⟩; omega)
    | (have hin := (show inR (s.getD i (FT.zero (.int .i64))) 0 7 = true by assumption)
       rw [fy (by omega) hin]; exact hR (by omega) (by omega))
    | (have hin := (show inR (s.getD i (FT.zero (.int .i64))) 0 7 = false by assumption)
       rw [fn (by omega) hin]; exact hR (by omega) (by omega))
    | skip
  have hi : i = s.length := by omega
  have ef := flow0_eq (n := l.length) (by omega) s
  have ec : (List.replicate l.length FT.bool.zero).set 0 true = (flow0 l.length s).come := by rw [ef]; rfl
  have em : (List.replicate l.length zRow).set 0 (firstB (List.take i s)) = (flow0 l.length s).may := by rw [ef, hi, List.take_length]
  have hst := sound_0 l s
  have hst2 := (flow0_start (n := l.length) (s := s) (by omega)).1
  have hst3 := @flow0_come l.length s
  have hcm0 := cnt_max hst.ok
  rw [ec, em]
  generalize flow0 l.length s = f0 at *
  clear hR fy fn w3 hfl hM0 hMl hss h ef ec em
  refine loop (α := List Int × Flow) (fun ⟨t, f⟩ => ⟨[(0, .v (.c (.sl false .inst 0))), (5, .v (.c (.sl true .str 1))), (8, .v (.c (.sl true .bool 2))), (9, .v (.c (.sl true (.int .i64) 3)))],
      [(3, some (.flat true (.int .i64) none t)), (2, some (.flat true .bool none f.come)), (1, some (.rows true .bool f.may)), (0, some (.flat false .inst none l))], nums.tail.tail.tail.tail, [], false, []⟩)
    (fun q => FSound l s q.2 ∧ (∀ x ∈ q.1, 0 ≤ x ∧ x < l.length ∧ cAt q.2 x.toNat = true) ∧ (∀ i : Nat, i < l.length → cAt q.2 i = true → (i : Int) ∈ q.1 ∨ Shut l q.2 i) ∧ q.1.length + (9 * l.length - cntF q.2) ≤ 1 + 9 * l.length) (fun q => q.1.length + (9 * l.length - cntF q.2)) (fun q R hI hR => ?_) ([0], f0) _
    ⟨hst, fun x hx => by rw [List.mem_singleton.1 hx]; exact ⟨by decide, by omega, hst2⟩, fun i hi hci => .inl (by rw [hst3 hci]; simp), by dsimp only [List.length_cons, List.length_nil]; omega⟩ (by show 1 + (9 * l.length - cntF f0) < 500 + s.length + FU; omega)
  obtain ⟨t, f⟩ := q
  obtain ⟨hS, hT, hC, hB⟩ := hI
  dsimp only at hS hT hC hB hR ⊢
  have hcm := cnt_max hS.ok
  have hfc : f.come.length = l.length := hS.ok.1
  have hfl : f.may.length = l.length := hS.ok.2.1
  cases t with
  | nil =>
    conv => whnf
    repeat' (first | (refine sel_i (fun h => ?_) (fun h => ?_) <;> conv => whnf) | (refine chk_c ?_ ?_ <;> conv => whnf) | (refine And.intro ?_ rfl) | (refine And.intro ?_ ?_ <;> conv => whnf))
    all_goals first
      | (exfalso; simp at *; done)
      | exact hK f (sound_end hS (by omega) fun i hi hci => (hC i hi hci).resolve_left (by simp))
      | trace_state
  | cons v t =>
    obtain ⟨v0, v1, v2⟩ := hT v (by simp)
    obtain ⟨V, rfl⟩ := Int.eq_ofNat_of_zero_le v0
    have hV : V < l.length := by omega
    have hv0 : ((V : Int) :: t).getD (Int.toNat 0) (FT.int IntKind.i64).zero = (V : Int) := rfl
    have hw := win_tail (V : Int) t
    have hnp : nextP l (V : Int) = nextI l (V : Int) := nextP_eq hc (by omega) (by omega)
    have hci : cAt f V = true := v2
    have hx := atI_ok hok (a := (V : Int)) (by omega) (by omega)
    have ht := told_of hS hV hx hci
    have hm8 := hS.ok.2.2 V hV
    have hin : ∀ x ∈ nextI l (V : Int), 0 ≤ x ∧ x < l.length := fun x hx => nextI_in hx
    have hnl : (nextI l (V : Int)).length ≤ l.length := nextI_len l _
    rw [List.length_cons] at hB
    conv => whnf
    repeat' (first | (refine sel_i (fun h => ?_) (fun h => ?_) <;> conv => whnf) | (refine chk_c ?_ ?_ <;> conv => whnf) | (refine And.intro ?_ rfl) | (refine And.intro ?_ ?_ <;> conv => whnf))
    all_goals (try simp only [List.length_cons, hfc, hfl, hv0, hw, hnp, etaInst, Int.toNat_natCast, gt_iff_lt, decide_eq_true_eq, decide_eq_false_iff_not] at *)
    all_goals first
      | (refine ⟨?_⟩; omega)
      | (refine ⟨?_⟩; exact ⟨by omega, by omega⟩)
      | (refine ⟨?_⟩; decide)
      | (refine ⟨?_⟩; have hw2 := congrArg List.length (win_tail (V : Int) t); rw [List.nil_append] at hw2; rw [hw2]; simp only [List.length_nil]; omega)
      | (refine ⟨?_⟩; exact ⟨hx, hm8⟩)
      | (exfalso; omega)
      | skip
    rw [show l.getD V FT.inst.zero = Go.Pi.atI l (V : Int) from rfl]
    generalize hout : behindB (Go.Pi.atI l (V : Int)) (f.may.getD V []) = out at *
    generalize hns : nextI l (V : Int) = ns at *
    have htj : ∀ j : Nat, (j : Int) ∈ ns → (j : Int) ∈ nextI l (V : Int) := fun j hj => by rw [hns]; exact hj
    have hT2 : ∀ x ∈ t, 0 ≤ x ∧ x < l.length ∧ cAt f x.toNat = true := fun x hx => hT x (List.mem_cons_of_mem _ hx)
    have hC2 : ∀ i : Nat, i < l.length → i ≠ V → cAt f i = true → (i : Int) ∈ t ∨ Shut l f i := fun i hi hne hci => by
      rcases hC i hi hci with h | h
      · rcases List.mem_cons.1 h with h | h
        · exact absurd (by omega) hne
        · exact .inl h
      · exact .inr h
    clear hst hst2 hst3 hcm0
    refine loop (α := Nat × List Int × Flow) (fun ⟨k, u, z⟩ => ⟨[(0, .v (.c (.sl false .inst 0))), (5, .v (.c (.sl true .str 1))), (8, .v (.c (.sl true .bool 2))), (9, .v (.c (.sl true (.int .i64) 3))), (11, .v (.c (.sl false .bool 4))), (12, .v (.c (.sl false (.int .i64) 5))), (13, .v (.c (.int .i64 (k : Int))))],
        [(5, some (.flat true (.int .i64) none ns)), (4, some (.flat true .bool none out)), (3, some (.flat true (.int .i64) none u)), (2, some (.flat true .bool none z.come)), (1, some (.rows true .bool z.may)), (0, some (.flat false .inst none l))], nums.tail.tail.tail.tail.tail.tail, [], false, []⟩)
      (fun q => q.1 ≤ ns.length ∧ FSound l s q.2.2 ∧ (∀ x ∈ q.2.1, 0 ≤ x ∧ x < l.length ∧ cAt q.2.2 x.toNat = true) ∧ (∀ i : Nat, i < l.length → i ≠ V → cAt q.2.2 i = true → (i : Int) ∈ q.2.1 ∨ Shut l q.2.2 i) ∧
        ((V : Int) ∈ q.2.1 ∨ (q.2.2.may.getD V [] = f.may.getD V [] ∧ ∀ j, j < q.1 → cAt q.2.2 (ns.getD j (FT.zero (.int .i64))).toNat = true ∧ rowLe out (q.2.2.may.getD (ns.getD j (FT.zero (.int .i64))).toNat []))) ∧
        q.2.1.length + (9 * l.length - cntF q.2.2) ≤ t.length + (9 * l.length - cntF f)) (fun q => ns.length - q.1) (fun q R2 hI2 hR2 => ?_) (0, t, f) _
      ⟨Nat.zero_le _, hS, hT2, hC2, .inr ⟨rfl, fun j hj => absurd hj (Nat.not_lt_zero _)⟩, Nat.le_refl _⟩ (by show ns.length - 0 < 500 + s.length + FU; omega)
    obtain ⟨k, u, z⟩ := q
    obtain ⟨hk, hZ, hU, hD, hVV, hL⟩ := hI2
    dsimp only at hk hZ hU hD hVV hL hR2 ⊢
    have hzm := cnt_max hZ.ok
    have hzc : z.come.length = l.length := hZ.ok.1
    have hzl : z.may.length = l.length := hZ.ok.2.1
    have hmk := fun q => hin _ (mem_getD (ns := ns) (k := k) q)
    have hmm := fun q => mem_getD (ns := ns) (k := k) q
    have w4 : IntKind.i64.wrap ((k : Int) + 1) = ((k + 1 : Nat) : Int) := by rw [wrap_id (by omega) (by omega)]; rfl
    conv => whnf
    repeat' (first | (refine sel_i (fun h => ?_) (fun h => ?_) <;> conv => whnf) | (refine chk_c ?_ ?_ <;> conv => whnf) | (refine And.intro ?_ rfl) | (refine And.intro ?_ ?_ <;> conv => whnf))
    all_goals (try simp only [hzc, hzl, Int.toNat_natCast, decide_eq_true_eq, decide_eq_false_iff_not] at *)
    all_goals first
      | (refine ⟨?_⟩; omega)
      | (refine ⟨?_⟩; exact ⟨by omega, by omega⟩)
      | (refine ⟨?_⟩; exact ⟨(hmk (by omega)).1, (hmk (by omega)).2⟩)
      | (refine ⟨?_⟩; have := hmk (by omega); omega)
      | skip
    rotate_left
    · refine hR (u, z) ⟨hZ, hU, fun i hi hci => ?_, ?_⟩ ?_
      · by_cases e : i = V
        · subst e
          rcases hVV with h9 | ⟨h1, h2⟩
          · exact .inl h9
          · right
            intro j' hj'
            rw [hns] at hj'
            obtain ⟨k', hk', ek⟩ := getD_idx hj'
            have h9 := h2 k' (by omega)
            rw [ek, Int.toNat_natCast] at h9
            dsimp only
            rw [h1, hout]
            exact h9
        · exact hD i hi e hci
      · dsimp only; omega
      · dsimp only; omega
    have q : k < ns.length := by omega
    have hv := hmk q
    have hm := hmm q
    obtain ⟨J, hJ⟩ := Int.eq_ofNat_of_zero_le hv.1
    rw [hJ] at hv hm
    rw [hJ, Int.toNat_natCast]
    have hJl : J < l.length := by omega
    have h8 := hZ.ok.2.2 J hJl
    have hsd := sound_come hZ ht (htj J hm)
    have hct := cnt_come (y := out) hZ.ok hJl
    have hhas := come_has (y := out) hZ.ok hJl ht.1
    have ho8 := ht.1
    have hbel := below_come z J out
    have hzn := cnt_max hsd.ok
    have hJn : (ns.getD k (FT.int IntKind.i64).zero).toNat = J := by rw [hJ]; rfl
    have fin1 : freshM z J out = true → k + 1 ≤ ns.length ∧ FSound l s (comeM z J out) ∧ (∀ x ∈ (u ++ [(J : Int)]), 0 ≤ x ∧ x < l.length ∧ cAt (comeM z J out) x.toNat = true) ∧ (∀ i : Nat, i < l.length → i ≠ V → cAt (comeM z J out) i = true → (i : Int) ∈ (u ++ [(J : Int)]) ∨ Shut l (comeM z J out) i) ∧
        ((V : Int) ∈ (u ++ [(J : Int)]) ∨ ((comeM z J out).may.getD V [] = f.may.getD V [] ∧ ∀ j, j < k + 1 → cAt (comeM z J out) (ns.getD j (FT.zero (.int .i64))).toNat = true ∧ rowLe out ((comeM z J out).may.getD (ns.getD j (FT.zero (.int .i64))).toNat []))) ∧
        ((u ++ [(J : Int)])).length + (9 * l.length - cntF (comeM z J out)) ≤ t.length + (9 * l.length - cntF f) := fun hf => by
      rw [if_pos hf] at hct
      refine ⟨by omega, hsd, fun x hx => ?_, fun i hi hne hci => ?_, ?_, by rw [List.length_append]; simp only [List.length_cons, List.length_nil]; omega⟩
      · rcases List.mem_append.1 hx with hx | hx
        · obtain ⟨a1, a2, a3⟩ := hU x hx
          exact ⟨a1, a2, hbel.come _ a3⟩
        · rw [List.mem_singleton.1 hx]
          exact ⟨by omega, by omega, hhas.1⟩
      · by_cases e : J = i
        · subst e; exact .inl (List.mem_append_right _ (by simp))
        · rw [cAt_come, if_neg (fun q => e q.1)] at hci
          rcases hD i hi hne hci with h9 | h9
          · exact .inl (List.mem_append_left _ h9)
          · exact .inr (shut_keep h9 hbel (by rw [row_come, if_neg (fun q => e q.1)]))
      · by_cases e : J = V
        · subst e; exact .inl (List.mem_append_right _ (by simp))
        · rcases hVV with h9 | ⟨h1, h2⟩
          · exact .inl (List.mem_append_left _ h9)
          · refine .inr ⟨by rw [row_come, if_neg (fun q => e q.1)]; exact h1, fun j hj => ?_⟩
            by_cases ej : j = k
            · subst ej; rw [hJn]; exact hhas
            · obtain ⟨a1, a2⟩ := h2 j (by omega)
              exact ⟨hbel.come _ a1, fun r h => hbel.may _ r (a2 r h)⟩
    have fin0 : freshM z J out = false → k + 1 ≤ ns.length ∧ FSound l s (comeM z J out) ∧ (∀ x ∈ u, 0 ≤ x ∧ x < l.length ∧ cAt (comeM z J out) x.toNat = true) ∧ (∀ i : Nat, i < l.length → i ≠ V → cAt (comeM z J out) i = true → (i : Int) ∈ u ∨ Shut l (comeM z J out) i) ∧
        ((V : Int) ∈ u ∨ ((comeM z J out).may.getD V [] = f.may.getD V [] ∧ ∀ j, j < k + 1 → cAt (comeM z J out) (ns.getD j (FT.zero (.int .i64))).toNat = true ∧ rowLe out ((comeM z J out).may.getD (ns.getD j (FT.zero (.int .i64))).toNat []))) ∧
        u.length + (9 * l.length - cntF (comeM z J out)) ≤ t.length + (9 * l.length - cntF f) := fun hf => by
      have hcs := come_same hf
      refine ⟨by omega, hsd, fun x hx => ?_, fun i hi hne hci => ?_, ?_, by rw [hcs]; exact hL⟩
      · rw [hcs]; exact hU x hx
      · rw [hcs] at hci ⊢; exact hD i hi hne hci
      · rcases hVV with h9 | ⟨h1, h2⟩
        · exact .inl h9
        · refine .inr ⟨by rw [hcs]; exact h1, fun j hj => ?_⟩
          by_cases ej : j = k
          · subst ej; rw [hJn]; exact hhas
          · rw [hcs]; exact h2 j (by omega)
    have hfr : freshM z J out = (!(z.come.getD J fB) || newTo (z.may.getD J []) out 8) := rfl
    have hcome : comeM z J out = ⟨z.come.set J true, z.may.set J (orTo (z.may.getD J []) out 8)⟩ := rfl
    have hR2a := hR2 (k + 1, u ++ [(J : Int)], comeM z J out)
    have hR2b := hR2 (k + 1, u, comeM z J out)
    have hul : u.length ≤ 1000 := by omega
    have hzl : z.may.length = l.length := hZ.ok.2.1
    dsimp only at hR2a hR2b
    clear hR hR2 hT hC hT2 hC2 hD hVV hsd hct hhas hbel hzn hU
    rw [hcome] at hR2a hR2b fin1 fin0
    dsimp only at hR2a hR2b
    clear hcome
    generalize hxx : z.may.getD J [] = x at *
    generalize hcc : (!z.come.getD J fB) = cf at *
    have hset : z.may.set J x = z.may := by rw [← hxx]; exact setR_same _ _
    have newT : ∀ k, newTo x out (k + 1) = (newTo x out k || (out.getD k fB && !x.getD k fB)) := fun _ => rfl
    refine loop (α := Nat × List (List Bool) × Cell) (fun ⟨r, M, b⟩ => ⟨[(0, .v (.c (.sl false .inst 0))), (5, .v (.c (.sl true .str 1))), (8, .v (.c (.sl true .bool 2))), (9, .v (.c (.sl true (.int .i64) 3))), (11, .v (.c (.sl false .bool 4))), (12, .v (.c (.sl false (.int .i64) 5))), (13, .v (.c (.int .i64 (k : Int)))), (14, .v (.c (.int .i64 (J : Int)))), (15, .v (.c b)), (16, .v (.c (.int .i64 (r : Int))))],
        [(5, some (.flat true (.int .i64) none ns)), (4, some (.flat true .bool none out)), (3, some (.flat true (.int .i64) none u)), (2, some (.flat true .bool none (z.come.set J true))), (1, some (.rows true .bool M)), (0, some (.flat false .inst none l))], nums.tail.tail.tail.tail.tail.tail, [], false, []⟩)
      (fun q => q.1 ≤ 8 ∧ q.2.1 = z.may.set J (orTo x out q.1) ∧ ((q.2.2 = .tt ∧ (cf || newTo x out q.1) = true) ∨ q.2.2 = .bool (cf || newTo x out q.1))) (fun q => 8 - q.1) (fun q R3 hI3 hR3 => ?_) (0, z.may, .bool cf) _ ⟨by simp, hset.symm, .inr (by simp [newTo])⟩ (by show 8 - 0 < 500 + s.length + FU; omega)
    obtain ⟨r, M, b⟩ := q
    obtain ⟨hr, hM, hb⟩ := hI3
    dsimp only at hr hM hb hR3 ⊢
    have hMA : M.getD J [] = orTo x out r := by rw [hM]; exact getR_set (by omega)
    have hMl : M.length = l.length := by rw [hM, List.length_set]; exact hzl
    have hol : (orTo x out r).length = 8 := by rw [orTo_len]; exact h8
    have hat : (orTo x out r).getD r fB = x.getD r fB := orTo_at
    have w6 : IntKind.i64.wrap ((r : Int) + 1) = ((r + 1 : Nat) : Int) := by rw [wrap_id (by omega) (by omega)]; rfl
    have hnT := newT r
    clear hset newT
    rcases hb with ⟨rfl, hb⟩ | rfl
    all_goals (
      conv => whnf
      repeat' (first | (refine sel_i (fun h => ?_) (fun h => ?_) <;> conv => whnf) | (refine chk_c ?_ ?_ <;> conv => whnf) | (refine And.intro ?_ rfl) | (refine And.intro ?_ ?_ <;> conv => whnf))
      all_goals (try simp only [w4, w6, hMA, hMl, hol, hat, Int.toNat_natCast, Bool.not_eq_true', Bool.not_eq_false', decide_eq_true_eq, decide_eq_false_iff_not] at *)
      all_goals first
        | (refine ⟨?_⟩; omega)
        | (refine ⟨?_⟩; exact ⟨by omega, by omega⟩)
        | (refine ⟨?_⟩; simp only [List.length_cons, List.length_nil]; omega)
        | (have hy1 : out.getD r fB = true := by assumption
           have hx1 : x.getD r fB = false := by assumption
           exact hR3 (r + 1, M.set J ((orTo x out r).set r true), .tt) ⟨by dsimp only; omega, by dsimp only; rw [hM, List.set_set, orTo_yes hy1], .inl ⟨rfl, by dsimp only; rw [hnT, hy1, hx1]; simp⟩⟩ (by dsimp only; omega))
        | (have hx1 : x.getD r fB = true := by assumption
           exact hR3 (r + 1, M, _) ⟨by dsimp only; omega, by dsimp only; rw [hM, orTo_no (.inr hx1)], by dsimp only; rw [hnT, hx1]; first | exact .inl ⟨rfl, by simpa using hb⟩ | exact .inr (by simp)⟩ (by dsimp only; omega))
        | (have hy1 : out.getD r fB = false := by assumption
           exact hR3 (r + 1, M, _) ⟨by dsimp only; omega, by dsimp only; rw [hM, orTo_no (.inl hy1)], by dsimp only; rw [hnT, hy1]; first | exact .inl ⟨rfl, by simpa using hb⟩ | exact .inr (by simp)⟩ (by dsimp only; omega))
        | (have hr8 : r = 8 := by omega
           subst hr8
           rw [hM]
           first
             | (refine hR2a (fin1 ?_) (by omega); rw [hfr]; first | exact hb | assumption)
             | (refine hR2b (fin0 ?_) (by omega); rw [hfr]; first | exact hb | assumption))
        | trace_state)
theorem ok_spec_l25Flow : FunOk Try.prog c_spec_l25Flow := funOkR (E := [c_spec_l1In, c_spec_l25Behind, c_spec_NextPlaces]) (envOk_cons ok_spec_l1In (envOk_cons ok_spec_l25Behind (envOk_cons ok_spec_NextPlaces (envOk_nil)))) mixd Try.func20 (pf := pf_spec_l25Flow) (by kernel_rfl) fun ts K h => by
  obtain ⟨t0, t1, e0, h⟩ := as2_out h
  subst e0
  obtain ⟨l, e1, hq⟩ := arC_out (rd_l .inst) h
  clear h
  subst e1
  have h := hq
  clear hq
  obtain ⟨s, e1, hq⟩ := arC_out (rd_l (.int .i64)) h
  clear h
  subst e1
  have h := hq
  clear hq
  obtain ⟨hpre, h⟩ := chk_o h
  exact ⟨Nat.le_of_ble_eq_true (show Nat.ble 2 Try.f20.ntmps = true by kernel_rfl), _, run_spec_l25Flow 0 l s hpre h⟩



abbrev RowsO := Option (List (List Int))
abbrev RowsL := List (List Int)
def heldR (x : List Bool) : List Int := (rangeI 8).filter (fun r => x.getD r.toNat (FT.zero .bool))
def heldT (h : Option (List (List Int))) : Tree := match h with | none => .v (.c (.ow .bool [])) | some m => .v (.c (.rows true (.int .i64) m))
def HeldIs (l : List Inst) (s : List Int) (h : Option (List (List Int))) : Prop := (codeOk l = false ∧ (h = none ∨ h = some [])) ∨ (codeOk l = true ∧ ∃ f, IsFlow l s f ∧ h = some (f.may.map heldR))
def heldTo (x : List Bool) (k : Nat) : List Int := (rangeI k).filter (fun r => x.getD r.toNat (FT.zero .bool))
theorem heldTo_yes {x : List Bool} {k : Nat} (h : x.getD k (FT.zero .bool) = true) : heldTo x (k + 1) = heldTo x k ++ [(k : Int)] := by
  unfold heldTo
  rw [rangeI_succ, List.filter_append]
  have : x.getD ((k : Int)).toNat (FT.zero .bool) = true := h
  simp only [List.filter_cons, List.filter_nil, this, if_true]
theorem heldTo_no {x : List Bool} {k : Nat} (h : x.getD k (FT.zero .bool) = false) : heldTo x (k + 1) = heldTo x k := by
  unfold heldTo
  rw [rangeI_succ, List.filter_append]
  have : x.getD ((k : Int)).toNat (FT.zero .bool) = false := h
  simp only [List.filter_cons, List.filter_nil, this, Bool.false_eq_true, if_false, List.append_nil]
theorem heldTo_len (x : List Bool) (k : Nat) : (heldTo x k).length ≤ k := by
  unfold heldTo
  have := List.length_filter_le (fun r : Int => x.getD r.toNat (FT.zero .bool)) (rangeI k)
  rw [rangeI_len] at this
  exact this
theorem map_take_succ {m : List (List Bool)} {i : Nat} (h : i < m.length) : (m.take (i + 1)).map heldR = (m.take i).map heldR ++ [heldTo (m.getD i []) 8] := by
  rw [List.take_add_one, List.map_append, List.getElem?_eq_getElem h, List.getD_eq_getElem?_getD, List.getElem?_eq_getElem h]; rfl
theorem held_unique {l : List Inst} {s : List Int} {a b : List (List Int)} (h : HeldIs l s (some a)) (k : HeldIs l s (some b)) : a = b := by
  rcases h with ⟨h1, h2⟩ | ⟨h1, f, f1, f2⟩ <;> rcases k with ⟨k1, k2⟩ | ⟨k1, g, g1, g2⟩
  · rcases h2 with h2 | h2 <;> rcases k2 with k2 | k2 <;> first | (cases h2; done) | (cases k2; done) | (cases h2; cases k2; rfl)
  · rw [h1] at k1; cases k1
  · rw [h1] at k1; cases k1
  · cases f2; cases g2; rw [flow_unique f1 g1]
theorem held_none {l : List Inst} {s : List Int} {b : List (List Int)} (h : HeldIs l s none) (k : HeldIs l s (some b)) : b = [] := by
  rcases h with ⟨h1, _⟩ | ⟨_, f, _, f2⟩
  · rcases k with ⟨_, k2⟩ | ⟨k1, _⟩
    · rcases k2 with k2 | k2 <;> cases k2; rfl
    · rw [h1] at k1; cases k1
  · cases f2
theorem held_len {l : List Inst} {s : List Int} {b : List (List Int)} (k : HeldIs l s (some b)) : b.length ≤ l.length := by
  rcases k with ⟨_, k2⟩ | ⟨_, f, f1, f2⟩
  · rcases k2 with k2 | k2 <;> cases k2; exact Nat.zero_le _
  · cases f2; rw [List.length_map, f1.1.ok.2.1]; exact Nat.le_refl _
theorem held_row {l : List Inst} {s : List Int} {b : List (List Int)} (k : HeldIs l s (some b)) (i : Nat) : (b.getD i []).length ≤ 8 := by
  rcases k with ⟨_, k2⟩ | ⟨_, f, f1, f2⟩
  · rcases k2 with k2 | k2 <;> cases k2; exact Nat.zero_le _
  · cases f2
    rw [List.getD_eq_getElem?_getD, List.getElem?_map]
    cases f.may[i]? with
    | none => exact Nat.zero_le _
    | some x => exact heldTo_len x 8

def lb_impl_MayHold_0 : PC := .seq (.reg [.s (.bin 30 .lss (.t 29) (.t 28))]) (.seq (.cond (.t 30) (.skip) (.exit 2)) (.seq (.blk 3 (.seq (.reg [.s (.mv 31 (.t 29)), .s (.ia 32 .bool (.t 27) (.t 29)), .s (.load 33 false 1 (.t 32)), .s (.mv 9 (.t 31)), .s (.mv 10 (.t 33))]) (.seq (.reg [.s (.mv 34 (.t 10))]) (.cond (.t 34) (.reg [.s (.mv 35 (.t 8)), .s (.mv 36 (.t 9)), .s (.bs 37 (.int .i64) [(.t 36)]), .s (.app 38 (.int .i64) (.t 35) (.t 37)), .s (.mv 8 (.t 38))]) (.skip))))) (.reg [.s (.bin 39 .add (.t 29) (.k (.v (.c (.int .i64 1))))), .s (.mv 29 (.t 39))])))
def lb_impl_MayHold_1 : PC := .seq (.reg [.s (.bin 23 .lss (.t 22) (.t 21))]) (.seq (.cond (.t 23) (.skip) (.exit 0)) (.seq (.blk 1 (.seq (.reg [.s (.ia 24 .str (.t 20) (.t 22)), .s (.load 25 false 1 (.t 24)), .s (.mv 7 (.t 25))]) (.seq (.reg [.s (.bs 26 (.int .i64) []), .s (.mv 8 (.t 26))]) (.seq (.seq (.reg [.s (.mv 27 (.t 7)), .s (.len 28 false (.t 27)), .s (.mv 29 (.k (.v (.c (.int .i64 0)))))]) (.blk 2 (.loop [5, 8, 20, 21, 22, 27, 28, 29] lb_impl_MayHold_0))) (.reg [.s (.mv 40 (.t 5)), .s (.mv 41 (.t 8)), .s (.bsr 42 [(.t 41)]), .s (.appw 43 (.int .i64) (.t 40) (.t 42)), .s (.mv 5 (.t 43))]))))) (.reg [.s (.bin 44 .add (.t 22) (.k (.v (.c (.int .i64 1))))), .s (.mv 22 (.t 44))])))
def pf_impl_MayHold : PF := ⟨[.t 4], .seq (.reg [.s (.mv 4 (.k (.v (.c (.nils .bool)))))]) (.seq (.seq (.reg [.s (.mv 11 (.t 0)), .s (.call (some 12) 22 [(.t 11)]), .s (.bnot 13 (.t 12))]) (.cond (.t 13) (.seq (.reg [.s (.mv 4 (.k (.v (.c (.nils .bool)))))]) (.ret)) (.skip))) (.seq (.reg [.s (.bsw 14 (.int .i64)), .s (.mv 5 (.t 14))]) (.seq (.seq (.reg [.s (.mv 15 (.t 0)), .s (.mv 16 (.t 1)), .s (.call (some 17) 23 [(.t 15), (.t 16)]), .s (.nchk 18 (.t 17)), .s (.fa 19 (.t 18) 1), .s (.load 20 false 1 (.t 19)), .s (.len 21 false (.t 20)), .s (.mv 22 (.k (.v (.c (.int .i64 0)))))]) (.blk 0 (.loop [5, 20, 21, 22] lb_impl_MayHold_1))) (.seq (.reg [.s (.mv 45 (.t 5)), .s (.mv 4 (.t 45))]) (.ret)))))⟩
def c_impl_MayHold : Fun := ⟨9, [], fun ts K => as2 ts fun t0 t1 => arC (pL .inst) t0 fun l => arC (pL (.int .i64)) t1 fun s => chk (l.length ≤ 2147483647 ∧ s.length ≤ 2147483647) (∀ (h : RowsO), (HeldIs l s h) → K (heldT h) [])⟩
theorem run_impl_MayHold (FU : Nat) (l : List (FT.Ty .inst)) (s : List (FT.Ty (.int .i64))) (hpre : l.length ≤ 2147483647 ∧ s.length ≤ 2147483647) {K : Tree → List Tree → Prop} (hK : ∀ (h : RowsO), (HeldIs l s h) → K (heldT h) []) : runK [c_impl_CodeOk, c_impl_flowOf] (100 + FU) [] pf_impl_MayHold [tL false .inst l, tL false (.int .i64) s] K := by
  obtain ⟨l1, l2⟩ := hpre
  conv => whnf
  repeat' (first | (refine sel_i (fun h => ?_) (fun h => ?_) <;> conv => whnf) | (refine chk_c ?_ ?_ <;> conv => whnf) | (refine And.intro ?_ rfl) | (refine And.intro ?_ ?_ <;> conv => whnf) | (intro x y z d hd; (try have g1 := And.left hd); (try have g2 := And.right hd); (try have g3 := And.left (And.right hd)); (try have g4 := And.right (And.right hd)); conv => whnf) | (intro x y d hd; (try have g1 := And.left hd); (try have g2 := And.right hd); (try have g3 := And.left (And.right hd)); (try have g4 := And.right (And.right hd)); conv => whnf) | (intro x d hd; (try have g1 := And.left hd); (try have g2 := And.right hd); (try have g3 := And.left (And.right hd)); (try have g4 := And.right (And.right hd)); conv => whnf) | (intro d hd; (try have g1 := And.left hd); (try have g2 := And.right hd); (try have g3 := And.left (And.right hd)); (try have g4 := And.right (And.right hd)); conv => whnf))
  all_goals (try simp only [Bool.not_eq_true', Bool.not_eq_false'] at *)
  all_goals first
    | (refine ⟨?_⟩; exact l1)
    | (refine ⟨?_⟩; exact ⟨by assumption, l2⟩)
    | (exact hK none (.inl ⟨by assumption, .inl rfl⟩))
    | skip
  have hc : codeOk l = true := by assumption
  obtain ⟨n1, n2, hok⟩ := codeOk_out hc
  have hfl : d.may.length = l.length := hd.1.ok.2.1
  have hin := hK (some (d.may.map heldR)) (.inr ⟨hc, d, hd, rfl⟩)
  refine loop (α := Nat) (fun i => ⟨[(5, .v (.c (.sl true .str 0))), (20, .v (.c (.sl false .str 1))), (21, .v (.c (.int .i64 (d.may.length : Int)))), (22, .v (.c (.int .i64 (i : Int))))],
      [(1, some (.rows true .bool d.may)), (0, some (.rows true (.int .i64) ((d.may.take i).map heldR)))], nums.tail.tail, [], false, []⟩)
    (fun i => i ≤ d.may.length) (fun i => d.may.length - i) (fun i R hI hR => ?_) 0 _ (by omega) (by show d.may.length - 0 < 100 + FU; omega)
  have w3 : IntKind.i64.wrap ((i : Int) + 1) = ((i + 1 : Nat) : Int) := by rw [wrap_id (by omega) (by omega)]; rfl
  have h8 := hd.1.ok.2.2 i
  have hms := @map_take_succ d.may i
  have hR := hR (i + 1)
  have hml : ((d.may.take i).map heldR).length ≤ 48 := by rw [List.length_map, List.length_take]; omega
  clear g1 g2 hK
  conv => whnf
  repeat' (first | (refine sel_i (fun h => ?_) (fun h => ?_) <;> conv => whnf) | (refine chk_c ?_ ?_ <;> conv => whnf) | (refine And.intro ?_ rfl) | (refine And.intro ?_ ?_ <;> conv => whnf))
  all_goals (try simp only [w3, Int.toNat_natCast, decide_eq_true_eq, decide_eq_false_iff_not] at *)
  all_goals first
    | (refine ⟨?_⟩; omega)
    | (refine ⟨?_⟩; exact ⟨by omega, by omega⟩)
    | (rw [List.take_of_length_le (by omega)]; exact hin)
    | skip
  have hlt : i < d.may.length := by omega
  have hR := hR (by omega) (by omega)
  rw [hms hlt] at hR
  have hx8 := h8 (by omega)
  clear hms hin h8
  generalize hxx : d.may.getD i [] = x at *
  generalize (List.take i d.may).map heldR = Y at *
  refine loop (α := Nat) (fun r => ⟨[(5, .v (.c (.sl true .str 0))), (8, .v (.c (.sl true (.int .i64) 1))), (20, .v (.c (.sl false .str 2))), (21, .v (.c (.int .i64 (d.may.length : Int)))), (22, .v (.c (.int .i64 (i : Int)))), (27, .v (.c (.rsl .bool 2 i))), (28, .v (.c (.int .i64 (x.length : Int)))), (29, .v (.c (.int .i64 (r : Int))))],
      [(2, some (.rows true .bool d.may)), (1, some (.flat true (.int .i64) none (heldTo x r))), (0, some (.rows true (.int .i64) Y))], nums.tail.tail.tail, [], false, []⟩)
    (fun r => r ≤ 8) (fun r => 8 - r) (fun r R2 hI2 hR2 => ?_) 0 _ (by omega) (by show 8 - 0 < 100 + FU; omega)
  have w4 : IntKind.i64.wrap ((r : Int) + 1) = ((r + 1 : Nat) : Int) := by rw [wrap_id (by omega) (by omega)]; rfl
  have w5 : IntKind.i64.wrap ((i : Int) + 1) = ((i + 1 : Nat) : Int) := by rw [wrap_id (by omega) (by omega)]; rfl
  have hl := heldTo_len x r
  have hy := @heldTo_yes x r
  have hn := @heldTo_no x r
  have hR2 := hR2 (r + 1)
  conv => whnf
  repeat' (first | (refine sel_i (fun h => ?_) (fun h => ?_) <;> conv => whnf) | (refine chk_c ?_ ?_ <;> conv => whnf) | (refine And.intro ?_ rfl) | (refine And.intro ?_ ?_ <;> conv => whnf))
  all_goals (try simp only [w4, w5, hxx, Int.toNat_natCast, decide_eq_true_eq, decide_eq_false_iff_not] at *)
  all_goals first
    | (refine ⟨?_⟩; omega)
    | (refine ⟨?_⟩; exact ⟨by omega, by omega⟩)
    | (refine ⟨?_⟩; simp only [List.length_cons, List.length_nil]; omega)
    | (have hb : x.getD r (FT.zero .bool) = true := by assumption
       rw [hy hb] at hR2; exact hR2 (by omega) (by omega))
    | (have hb : x.getD r (FT.zero .bool) = false := by assumption
       rw [hn hb] at hR2; exact hR2 (by omega) (by omega))
    | (have e8 : r = 8 := by omega
       subst e8; exact hR)
    | trace_state
theorem ok_impl_MayHold : FunOk Try.prog c_impl_MayHold := funOkR (E := [c_impl_CodeOk, c_impl_flowOf]) (envOk_cons ok_impl_CodeOk (envOk_cons ok_impl_flowOf (envOk_nil))) mixd Try.func9 (pf := pf_impl_MayHold) (by kernel_rfl) fun ts K h => by
  obtain ⟨t0, t1, e0, h⟩ := as2_out h
  subst e0
  obtain ⟨l, e1, hq⟩ := arC_out (rd_l .inst) h
  clear h
  subst e1
  have h := hq
  clear hq
  obtain ⟨s, e1, hq⟩ := arC_out (rd_l (.int .i64)) h
  clear h
  subst e1
  have h := hq
  clear hq
  obtain ⟨hpre, h⟩ := chk_o h
  exact ⟨Nat.le_of_ble_eq_true (show Nat.ble 2 Try.f9.ntmps = true by kernel_rfl), _, run_impl_MayHold 0 l s hpre h⟩

def lb_spec_MayHold_0 : PC := .seq (.seq (.reg [.s (.mv 25 (.t 9)), .s (.bin 26 .lss (.t 25) (.k (.v (.c (.int .i64 8)))))]) (.cond (.t 26) (.skip) (.exit 2))) (.seq (.blk 3 (.seq (.reg [.s (.mv 29 (.t 6)), .s (.mv 30 (.t 7)), .s (.ia 31 .str (.t 29) (.t 30)), .s (.load 32 false 1 (.t 31)), .s (.mv 33 (.t 9)), .s (.ia 34 .bool (.t 32) (.t 33)), .s (.load 35 false 1 (.t 34))]) (.cond (.t 35) (.reg [.s (.mv 36 (.t 8)), .s (.mv 37 (.t 9)), .s (.bs 38 (.int .i64) [(.t 37)]), .s (.app 39 (.int .i64) (.t 36) (.t 38)), .s (.mv 8 (.t 39))]) (.skip)))) (.reg [.s (.mv 27 (.t 9)), .s (.bin 28 .add (.t 27) (.k (.v (.c (.int .i64 1))))), .s (.mv 9 (.t 28))]))
def lb_spec_MayHold_1 : PC := .seq (.seq (.reg [.s (.mv 18 (.t 7)), .s (.mv 19 (.t 0)), .s (.len 20 false (.t 19)), .s (.bin 21 .lss (.t 18) (.t 20))]) (.cond (.t 21) (.skip) (.exit 0))) (.seq (.blk 1 (.seq (.reg [.s (.bs 24 (.int .i64) []), .s (.mv 8 (.t 24))]) (.seq (.seq (.reg [.s (.mv 9 (.k (.v (.c (.int .i64 0)))))]) (.blk 2 (.loop [0, 5, 6, 7, 8, 9] lb_spec_MayHold_0))) (.reg [.s (.mv 40 (.t 5)), .s (.mv 41 (.t 8)), .s (.bsr 42 [(.t 41)]), .s (.appw 43 (.int .i64) (.t 40) (.t 42)), .s (.mv 5 (.t 43))])))) (.reg [.s (.mv 22 (.t 7)), .s (.bin 23 .add (.t 22) (.k (.v (.c (.int .i64 1))))), .s (.mv 7 (.t 23))]))
def pf_spec_MayHold : PF := ⟨[.t 4], .seq (.reg [.s (.mv 4 (.k (.v (.c (.nils .bool)))))]) (.seq (.reg [.s (.bsw 10 (.int .i64)), .s (.mv 5 (.t 10))]) (.seq (.seq (.reg [.s (.mv 11 (.t 0)), .s (.call (some 12) 19 [(.t 11)]), .s (.bnot 13 (.t 12))]) (.cond (.t 13) (.seq (.reg [.s (.mv 14 (.t 5)), .s (.mv 4 (.t 14))]) (.ret)) (.skip))) (.seq (.reg [.s (.mv 15 (.t 0)), .s (.mv 16 (.t 1)), .s (.call (some 17) 20 [(.t 15), (.t 16)]), .s (.mv 6 (.t 17))]) (.seq (.seq (.reg [.s (.mv 7 (.k (.v (.c (.int .i64 0)))))]) (.blk 0 (.loop [0, 5, 6, 7] lb_spec_MayHold_1))) (.seq (.reg [.s (.mv 44 (.t 5)), .s (.mv 4 (.t 44))]) (.ret))))))⟩
def c_spec_MayHold : Fun := ⟨6, [], fun ts K => as2 ts fun t0 t1 => arC (pL .inst) t0 fun l => arC (pL (.int .i64)) t1 fun s => chk (l.length ≤ 2147483647 ∧ s.length ≤ 2147483647) (∀ (h : RowsL), (HeldIs l s (some h)) → K (.v (.c (.rows true (.int .i64) h))) [])⟩
theorem run_spec_MayHold (FU : Nat) (l : List (FT.Ty .inst)) (s : List (FT.Ty (.int .i64))) (hpre : l.length ≤ 2147483647 ∧ s.length ≤ 2147483647) {K : Tree → List Tree → Prop} (hK : ∀ (h : RowsL), (HeldIs l s (some h)) → K (.v (.c (.rows true (.int .i64) h))) []) : runK [c_spec_CodeOk, c_spec_l25Flow] (100 + FU) [] pf_spec_MayHold [tL false .inst l, tL false (.int .i64) s] K := by
  obtain ⟨l1, l2⟩ := hpre
  conv => whnf
  repeat' (first | (refine sel_i (fun h => ?_) (fun h => ?_) <;> conv => whnf) | (refine chk_c ?_ ?_ <;> conv => whnf) | (refine And.intro ?_ rfl) | (refine And.intro ?_ ?_ <;> conv => whnf) | (intro x y z d hd; (try have g1 := And.left hd); (try have g2 := And.right hd); (try have g3 := And.left (And.right hd)); (try have g4 := And.right (And.right hd)); conv => whnf) | (intro x y d hd; (try have g1 := And.left hd); (try have g2 := And.right hd); (try have g3 := And.left (And.right hd)); (try have g4 := And.right (And.right hd)); conv => whnf) | (intro x d hd; (try have g1 := And.left hd); (try have g2 := And.right hd); (try have g3 := And.left (And.right hd)); (try have g4 := And.right (And.right hd)); conv => whnf) | (intro d hd; (try have g1 := And.left hd); (try have g2 := And.right hd); (try have g3 := And.left (And.right hd)); (try have g4 := And.right (And.right hd)); conv => whnf))
  all_goals (try simp only [Bool.not_eq_true', Bool.not_eq_false'] at *)
  all_goals first
    | (refine ⟨?_⟩; exact l1)
    | (refine ⟨?_⟩; exact ⟨by assumption, l2⟩)
    | (exact hK [] (.inl ⟨by assumption, .inr rfl⟩))
    | skip
  have hc : codeOk l = true := by assumption
  obtain ⟨n1, n2, hok⟩ := codeOk_out hc
  have hfl : d.may.length = l.length := hd.1.ok.2.1
  have hin := hK (d.may.map heldR) (.inr ⟨hc, d, hd, rfl⟩)
  refine loop (α := Nat) (fun i => ⟨[(0, .v (.c (.sl false .inst 0))), (5, .v (.c (.sl true .str 1))), (6, .v (.c (.sl false .str 2))), (7, .v (.c (.int .i64 (i : Int))))],
      [(2, some (.rows true .bool d.may)), (1, some (.rows true (.int .i64) ((d.may.take i).map heldR))), (0, some (.flat false .inst none l))], nums.tail.tail.tail, [], false, []⟩)
    (fun i => i ≤ d.may.length) (fun i => d.may.length - i) (fun i R hI hR => ?_) 0 _ (by omega) (by show d.may.length - 0 < 100 + FU; omega)
  have w3 : IntKind.i64.wrap ((i : Int) + 1) = ((i + 1 : Nat) : Int) := by rw [wrap_id (by omega) (by omega)]; rfl
  have h8 := hd.1.ok.2.2 i
  have hms := @map_take_succ d.may i
  have hR := hR (i + 1)
  have hml : ((d.may.take i).map heldR).length ≤ 48 := by rw [List.length_map, List.length_take]; omega
  clear g1 g2 hK
  conv => whnf
  repeat' (first | (refine sel_i (fun h => ?_) (fun h => ?_) <;> conv => whnf) | (refine chk_c ?_ ?_ <;> conv => whnf) | (refine And.intro ?_ rfl) | (refine And.intro ?_ ?_ <;> conv => whnf))
  all_goals (try simp only [w3, Int.toNat_natCast, decide_eq_true_eq, decide_eq_false_iff_not] at *)
  all_goals first
    | (refine ⟨?_⟩; omega)
    | (refine ⟨?_⟩; exact ⟨by omega, by omega⟩)
    | (rw [List.take_of_length_le (by omega)]; exact hin)
    | skip
  have hlt : i < d.may.length := by omega
  have hR := hR (by omega) (by omega)
  rw [hms hlt] at hR
  have hx8 := h8 (by omega)
  clear hms hin h8
  generalize hxx : d.may.getD i [] = x at *
  generalize (List.take i d.may).map heldR = Y at *
  refine loop (α := Nat) (fun r => ⟨[(0, .v (.c (.sl false .inst 0))), (5, .v (.c (.sl true .str 1))), (6, .v (.c (.sl false .str 2))), (7, .v (.c (.int .i64 (i : Int)))), (8, .v (.c (.sl true (.int .i64) 3))), (9, .v (.c (.int .i64 (r : Int))))],
      [(3, some (.flat true (.int .i64) none (heldTo x r))), (2, some (.rows true .bool d.may)), (1, some (.rows true (.int .i64) Y)), (0, some (.flat false .inst none l))], nums.tail.tail.tail.tail, [], false, []⟩)
    (fun r => r ≤ 8) (fun r => 8 - r) (fun r R2 hI2 hR2 => ?_) 0 _ (by omega) (by show 8 - 0 < 100 + FU; omega)
  have w4 : IntKind.i64.wrap ((r : Int) + 1) = ((r + 1 : Nat) : Int) := by rw [wrap_id (by omega) (by omega)]; rfl
  have w5 : IntKind.i64.wrap ((i : Int) + 1) = ((i + 1 : Nat) : Int) := by rw [wrap_id (by omega) (by omega)]; rfl
  have hl := heldTo_len x r
  have hy := @heldTo_yes x r
  have hn := @heldTo_no x r
  have hR2 := hR2 (r + 1)
  conv => whnf
  repeat' (first | (refine sel_i (fun h => ?_) (fun h => ?_) <;> conv => whnf) | (refine chk_c ?_ ?_ <;> conv => whnf) | (refine And.intro ?_ rfl) | (refine And.intro ?_ ?_ <;> conv => whnf))
  all_goals (try simp only [w4, w5, hxx, Int.toNat_natCast, decide_eq_true_eq, decide_eq_false_iff_not] at *)
  all_goals first
    | (refine ⟨?_⟩; omega)
    | (refine ⟨?_⟩; exact ⟨by omega, by omega⟩)
    | (refine ⟨?_⟩; simp only [List.length_cons, List.length_nil]; omega)
    | (have hb : x.getD r (FT.zero .bool) = true := by assumption
       rw [hy hb] at hR2; exact hR2 (by omega) (by omega))
    | (have hb : x.getD r (FT.zero .bool) = false := by assumption
       rw [hn hb] at hR2; exact hR2 (by omega) (by omega))
    | (have e8 : r = 8 := by omega
       subst e8; exact hR)
    | trace_state
theorem ok_spec_MayHold : FunOk Try.prog c_spec_MayHold := funOkR (E := [c_spec_CodeOk, c_spec_l25Flow]) (envOk_cons ok_spec_CodeOk (envOk_cons ok_spec_l25Flow (envOk_nil))) mixd Try.func6 (pf := pf_spec_MayHold) (by kernel_rfl) fun ts K h => by
  obtain ⟨t0, t1, e0, h⟩ := as2_out h
  subst e0
  obtain ⟨l, e1, hq⟩ := arC_out (rd_l .inst) h
  clear h
  subst e1
  have h := hq
  clear hq
  obtain ⟨s, e1, hq⟩ := arC_out (rd_l (.int .i64)) h
  clear h
  subst e1
  have h := hq
  clear hq
  obtain ⟨hpre, h⟩ := chk_o h
  exact ⟨Nat.le_of_ble_eq_true (show Nat.ble 2 Try.f6.ntmps = true by kernel_rfl), _, run_spec_MayHold 0 l s hpre h⟩


/-! a register that may hold no key holds none -/



/-! rows of numbers: compared, marked, held -/
def heldS (h : RowsO) : TC := match h with | none => .ro .bool [] | some m => .rows false (.int .i64) m
def heldOwn (h : RowsO) : TC := match h with | none => .ow .bool [] | some m => .rows true (.int .i64) m
def pHs : Prs RowsO := fun l f => match l with
  | .rows false σ xs :: r => castR σ (.int .i64) xs fun ys => f (some ys) r
  | .ro .bool [] :: r => f none r
  | _ => False
def pHo : Prs RowsO := fun l f => match l with
  | .rows true σ xs :: r => castR σ (.int .i64) xs fun ys => f (some ys) r
  | .ow .bool [] :: r => f none r
  | _ => False
theorem rd_hs : Rd pHs (fun x r => heldS x :: r) := fun l f h => by
  unfold pHs at h
  split at h
  · obtain ⟨e, h1⟩ := castR_out h
    subst e
    exact ⟨_, _, rfl, h1⟩
  · exact ⟨none, _, rfl, h⟩
  · exact h.elim
theorem rd_ho : Rd pHo (fun x r => heldOwn x :: r) := fun l f h => by
  unfold pHo at h
  split at h
  · obtain ⟨e, h1⟩ := castR_out h
    subst e
    exact ⟨_, _, rfl, h1⟩
  · exact ⟨none, _, rfl, h⟩
  · exact h.elim
def rowsTot : List (List Int) → Int
  | [] => 0
  | r :: rs => 1 * r.length + rowsTot rs
def mkRows : List (List Int) → Int → List (List Int)
  | [], _ => []
  | r :: rs, k => mkIntS r.length k :: mkRows rs (k + 1 * r.length)
theorem mkRows_length : ∀ (m : List (List Int)) (k : Int), (mkRows m k).length = m.length
  | [], _ => rfl
  | r :: rs, k => by simp only [mkRows, List.length_cons, mkRows_length rs]
theorem rowsTot_take : ∀ (m : List (List Int)) (i : Nat), i < m.length → rowsTot (m.take (i + 1)) = rowsTot (m.take i) + 1 * (m.getD i []).length
  | [], _, h => by simp at h
  | r :: rs, 0, _ => by simp [rowsTot]
  | r :: rs, i + 1, h => by
    have := rowsTot_take rs i (by simpa using h)
    simp only [List.take_succ_cons, rowsTot, List.getD_cons_succ]
    omega
theorem mkRows_get : ∀ (m : List (List Int)) (k : Int) (i : Nat), i < m.length → (mkRows m k).getD i [] = mkIntS (m.getD i []).length (k + rowsTot (m.take i))
  | [], _, _, h => by simp at h
  | r :: rs, k, 0, _ => by simp [mkRows, rowsTot]
  | r :: rs, k, i + 1, h => by
    simp only [mkRows, List.getD_cons_succ, List.take_succ_cons, rowsTot]
    rw [mkRows_get rs _ i (by simpa using h), show k + 1 * (r.length : Int) + rowsTot (rs.take i) = k + (1 * (r.length : Int) + rowsTot (rs.take i)) by omega]
theorem rowsTot_mk : ∀ (m : List (List Int)) (k : Int), rowsTot (mkRows m k) = rowsTot m
  | [], _ => rfl
  | r :: rs, k => by simp only [mkRows, rowsTot, mkIntS_length, rowsTot_mk rs]
theorem mkRows_mk : ∀ (m : List (List Int)) (k : Int), mkRows (mkRows m k) k = mkRows m k
  | [], _ => rfl
  | r :: rs, k => by simp only [mkRows, mkIntS_length, mkRows_mk rs]
theorem rowsTot_le : ∀ (m : List (List Int)), (∀ i, (m.getD i []).length ≤ 8) → 0 ≤ rowsTot m ∧ rowsTot m ≤ 8 * m.length
  | [], _ => by simp [rowsTot]
  | r :: rs, h => by
    have h0 := h 0
    have hr := rowsTot_le rs fun i => h (i + 1)
    simp only [List.getD_cons_zero] at h0
    simp only [rowsTot, List.length_cons]
    omega
theorem rowsTot_takele (m : List (List Int)) (h : ∀ i, (m.getD i []).length ≤ 8) (i : Nat) : 0 ≤ rowsTot (m.take i) ∧ rowsTot (m.take i) ≤ 8 * m.length := by
  have := rowsTot_le (m.take i) fun j => by
    by_cases hj : j < i
    · have e : (m.take i).getD j [] = m.getD j [] := by rw [List.getD_eq_getElem?_getD, List.getD_eq_getElem?_getD, List.getElem?_take, if_pos hj]
      rw [e]; exact h j
    · have e : (m.take i).getD j [] = [] := by rw [List.getD_eq_getElem?_getD, List.getElem?_take, if_neg hj]; rfl
      rw [e]; exact Nat.zero_le _
  have hl := List.length_take_le' i m
  omega
theorem mkRows_row (m : List (List Int)) (k : Int) (h : ∀ i, (m.getD i []).length ≤ 8) (i : Nat) : ((mkRows m k).getD i []).length ≤ 8 := by
  by_cases hi : i < m.length
  · rw [mkRows_get m k i hi, mkIntS_length]; exact h i
  · rw [List.getD_eq_getElem?_getD, List.getElem?_eq_none (by rw [mkRows_length]; omega)]; exact Nat.zero_le _
abbrev rowsOf (h : RowsO) : List (List Int) := h.getD []
def mkHeld (h : RowsO) (k : Int) : RowsO := h.map fun m => mkRows m k

def lb_laws_eqIntSS_0 : PC := .seq (.seq (.reg [.s (.mv 11 (.t 5)), .s (.mv 12 (.t 0)), .s (.len 13 false (.t 12)), .s (.bin 14 .lss (.t 11) (.t 13))]) (.cond (.t 14) (.skip) (.exit 0))) (.seq (.blk 1 (.seq (.rgd [] [.s (.mv 17 (.t 0)), .s (.mv 18 (.t 5)), .s (.ia 19 .str (.t 17) (.t 18)), .s (.load 20 false 1 (.t 19)), .s (.mv 21 (.t 1)), .s (.mv 22 (.t 5)), .s (.ia 23 .str (.t 21) (.t 22)), .s (.load 24 false 1 (.t 23)), .s (.call (some 25) 12 [(.t 20), (.t 24)]), .s (.bnot 26 (.t 25))] (.tk 0 (.tk 1 (.tk 2 (.tk 3 (.tk 4 (.tk 5 (.tk 6 (.tk 7 (.one 8 true (.tk 9 (.done none)))))))))))) (.cond (.t 26) (.seq (.reg [.s (.mv 4 (.k (.v (.c .ff))))]) (.ret)) (.skip)))) (.reg [.s (.mv 15 (.t 5)), .s (.bin 16 .add (.t 15) (.k (.v (.c (.int .i64 1))))), .s (.mv 5 (.t 16))]))
def pf_laws_eqIntSS : PF := ⟨[.t 4], .seq (.reg [.s (.mv 4 (.k (.v (.c .ff))))]) (.seq (.seq (.reg [.s (.mv 6 (.t 0)), .s (.len 7 false (.t 6)), .s (.mv 8 (.t 1)), .s (.len 9 false (.t 8)), .s (.bin 10 .neq (.t 7) (.t 9))]) (.cond (.t 10) (.seq (.reg [.s (.mv 4 (.k (.v (.c .ff))))]) (.ret)) (.skip))) (.seq (.seq (.reg [.s (.mv 5 (.k (.v (.c (.int .i64 0)))))]) (.blk 0 (.loop [0, 1, 5] lb_laws_eqIntSS_0))) (.seq (.reg [.s (.mv 4 (.k (.v (.c .tt))))]) (.ret))))⟩
def c_laws_eqIntSS : Fun := ⟨10, [], fun ts K => as2 ts fun t0 t1 => arC pHs t0 fun a => arC (pW (.int .i64)) t1 fun b => chk ((rowsOf a).length ≤ 2147483647 ∧ ∀ i, ((rowsOf a).getD i []).length ≤ 2147483647) (K (tB (decide (rowsOf a = b))) [])⟩
theorem run_laws_eqIntSS (a : RowsO) (b : List (List (FT.Ty (.int .i64)))) (hpre : (rowsOf a).length ≤ 2147483647 ∧ ∀ i, ((rowsOf a).getD i []).length ≤ 2147483647) : runK [c_laws_eqIntS] ((rowsOf a).length + 1) [] pf_laws_eqIntSS [.v (.c (heldS a)), .v (.c (.rows false (.int .i64) b))] fun r o => r = tB (decide (rowsOf a = b)) ∧ o = [] := by
  obtain ⟨p1, p2⟩ := hpre
  cases a with
  | none =>
    conv => whnf
    refine sel_i (fun h => ?_) (fun h => ?_)
    · conv => whnf
      refine ⟨?_, rfl⟩
      have hb : ¬ ([] : List (List Int)) = b := fun e => by subst e; simp at h
      simp [rowsOf, hb]
    · have hb : b = [] := List.eq_nil_of_length_eq_zero (by simp at h; omega)
      subst hb
      conv => whnf
      refine iter_s ?_
      conv => whnf
      refine sel_i (fun h2 => ?_) (fun h2 => ?_)
      · exfalso; simp at h2
      · conv => whnf
        refine ⟨?_, rfl⟩
        simp [rowsOf]
  | some a =>
    simp only [rowsOf, Option.getD_some] at *
    conv => whnf
    refine sel_i (fun h => ?_) (fun h => ?_)
    · conv => whnf
      refine ⟨?_, rfl⟩
      have hb : ¬ a = b := fun e => by subst e; simp at h
      simp [hb]
    have hl : a.length = b.length := by simp at h; omega
    conv => whnf
    refine loop (α := Nat) (fun i => ⟨[(0, .v (.c (.sl false .str 0))), (1, .v (.c (.sl false .str 1))), (5, .v (.c (.int .i64 (i : Int))))], [(1, some (.rows false (.int .i64) b)), (0, some (.rows false (.int .i64) a))], nums.tail.tail, [], false, []⟩)
      (fun i => i ≤ a.length ∧ a.take i = b.take i) (fun i => a.length - i) (fun i R hI hR => ?_) 0 _ ⟨by simp, by simp⟩ (by omega)
    have hp := p2 i
    have hl2 := hp
    conv => whnf
    repeat' (first | (refine sel_i (fun h => ?_) (fun h => ?_) <;> conv => whnf) | (refine chk_c ?_ ?_ <;> conv => whnf) | (refine And.intro ?_ rfl) | (refine And.intro ?_ ?_ <;> conv => whnf))
    all_goals (try simp only [Int.toNat_natCast, decide_eq_true_eq, decide_eq_false_iff_not, Bool.not_eq_true', Bool.not_eq_false'] at *)
    all_goals first
      | (refine ⟨?_⟩; omega)
      | (refine ⟨?_⟩; exact hp)
      | (have hne : ¬ a = b := fun e => by subst e; simp at *
         simp [hne]; done)
      | (have hlt : i < a.length := by omega
         rw [wrap_id (n := (i : Int) + 1) (by omega) (by omega)]
         exact hR (i + 1) ⟨by omega, take_step (z := []) hI.2 hlt (by omega) (by assumption)⟩ (by omega))
      | (have : a = b := take_all hI.2 (by omega) (by omega)
         simp [this]; done)
      | trace_state
theorem ok_laws_eqIntSS : FunOk Try.prog c_laws_eqIntSS := funOk (E := [c_laws_eqIntS]) (envOk_cons ok_laws_eqIntS (envOk_nil)) mixd Try.func10 (pf := pf_laws_eqIntSS) (by kernel_rfl) fun ts K h => by
  obtain ⟨t0, t1, e0, h⟩ := as2_out h
  subst e0
  obtain ⟨a, e1, hq⟩ := arC_out rd_hs h
  clear h
  subst e1
  have h := hq
  clear hq
  obtain ⟨b, e1, hq⟩ := arC_out (rd_w (.int .i64)) h
  clear h
  subst e1
  have h := hq
  clear hq
  obtain ⟨hpre, h⟩ := chk_o h
  exact ⟨_, _, h, Nat.le_of_ble_eq_true (show Nat.ble 2 Try.f10.ntmps = true by kernel_rfl), _, run_laws_eqIntSS a b hpre⟩

def lb_laws_markIntSS_0 : PC := .seq (.seq (.reg [.s (.mv 6 (.t 5)), .s (.mv 7 (.t 0)), .s (.len 8 false (.t 7)), .s (.bin 9 .lss (.t 6) (.t 8))]) (.cond (.t 9) (.skip) (.exit 0))) (.seq (.blk 1 (.reg [.s (.mv 12 (.t 0)), .s (.mv 13 (.t 5)), .s (.ia 14 .str (.t 12) (.t 13)), .s (.load 15 false 1 (.t 14)), .s (.mv 16 (.t 1)), .s (.call (some 17) 14 [(.t 15), (.t 16)]), .s (.mv 1 (.t 17))])) (.reg [.s (.mv 10 (.t 5)), .s (.bin 11 .add (.t 10) (.k (.v (.c (.int .i64 1))))), .s (.mv 5 (.t 11))]))
def pf_laws_markIntSS : PF := ⟨[.t 4], .seq (.reg [.s (.mv 4 (.k (.v (.c (.int .i64 0)))))]) (.seq (.seq (.reg [.s (.mv 5 (.k (.v (.c (.int .i64 0)))))]) (.blk 0 (.loop [0, 1, 5] lb_laws_markIntSS_0))) (.seq (.reg [.s (.mv 18 (.t 1)), .s (.mv 4 (.t 18))]) (.ret)))⟩
def c_laws_markIntSS : Fun := ⟨15, [true, false], fun ts K => as2 ts fun t0 t1 => arC pHo t0 fun a => arC (pI .i64) t1 fun k => chk (0 ≤ k ∧ k ≤ 1099511627776 ∧ (rowsOf a).length ≤ 2147483647 ∧ ∀ i, ((rowsOf a).getD i []).length ≤ 8) (K (tN (k + rowsTot (rowsOf a))) ([.v (.c (heldOwn (mkHeld a k)))]))⟩
theorem run_laws_markIntSS (a : RowsO) (k : Int) (hpre : 0 ≤ k ∧ k ≤ 1099511627776 ∧ (rowsOf a).length ≤ 2147483647 ∧ ∀ i, ((rowsOf a).getD i []).length ≤ 8) : runK [c_laws_markIntS] ((rowsOf a).length + 1) [true, false] pf_laws_markIntSS [.v (.c (heldOwn a)), tI .i64 k] fun r o => r = tN (k + rowsTot (rowsOf a)) ∧ o = [.v (.c (heldOwn (mkHeld a k)))] := by
  obtain ⟨p0, p1, p2, p3⟩ := hpre
  cases a with
  | none =>
    conv => whnf
    refine iter_s ?_
    conv => whnf
    refine sel_i (fun h2 => ?_) (fun h2 => ?_)
    · exfalso; simp at h2
    · conv => whnf
      refine ⟨?_, rfl⟩
      simp [rowsOf, rowsTot]
  | some a =>
    have hml := mkRows_length a k
    have htot := rowsTot_takele a p3
    simp only [rowsOf, Option.getD_some] at *
    conv => whnf
    refine loop (α := Nat × Int × List (List Int)) (fun p => ⟨[(0, .v (.c (.sl false .str 0))), (1, .v (.c (.int .i64 p.2.1))), (5, .v (.c (.int .i64 (p.1 : Int))))], [(0, some (.rows true (.int .i64) p.2.2))], nums.tail, [.v (.c (.sl false .str 0))], false, []⟩)
      (fun p => p.1 ≤ a.length ∧ p.2.1 = k + rowsTot (a.take p.1) ∧ p.2.2 = (mkRows a k).take p.1 ++ a.drop p.1) (fun p => a.length - p.1) (fun p R hI hR => ?_) (0, k, a) _ ⟨by simp, by simp [rowsTot], by simp⟩ (by simp)
    obtain ⟨i, c, xs⟩ := p
    obtain ⟨hi, hc, hx⟩ := hI
    dsimp only at hi hc hx
    have hlen : xs.length = a.length := by rw [hx]; simp [hml]; omega
    have ht := htot i
    have hget : i < a.length → xs.getD i [] = a.getD i [] := fun h => by
      rw [hx, List.getD_eq_getElem?_getD, List.getElem?_append_right (by simp [hml]; omega), List.getElem?_drop, List.getD_eq_getElem?_getD]
      congr 2
      simp only [List.length_take, hml]
      omega
    have h8 := p3 i
    dsimp only
    conv => whnf
    repeat' (first | (refine sel_i (fun h => ?_) (fun h => ?_) <;> conv => whnf) | (refine chk_c ?_ ?_ <;> conv => whnf) | (refine And.intro ?_ rfl) | (refine And.intro ?_ ?_ <;> conv => whnf))
    all_goals (try simp only [Int.toNat_natCast, decide_eq_true_eq, decide_eq_false_iff_not, Bool.not_eq_true', Bool.not_eq_false'] at *)
    all_goals first
      | (refine ⟨?_⟩; omega)
      | (refine ⟨?_⟩; have hg := hget (by omega); rw [hg]; omega)
      | (refine ⟨?_⟩; exact mkIntS_length _ _)
      | (have hlt : i < a.length := by omega
         have hg := hget hlt
         rw [hg, wrap_id (n := (i : Int) + 1) (by omega) (by omega)]
         exact hR (i + 1, c + 1 * ((a.getD i []).length : Int), xs.set i (mkIntS (a.getD i []).length c)) ⟨by omega, by simp only [rowsTot_take a i hlt]; omega, by
           rw [hx]
           have hq := mkRows_get a k i hlt
           rw [← hc] at hq
           exact set_mid hml hlt (by rw [List.getD_eq_getElem?_getD, List.getElem?_eq_getElem (by omega)] at hq; rw [List.getElem?_eq_getElem (by omega)]; exact congrArg some hq)⟩ (by simp; omega))
      | (have hge : i = a.length := by omega
         subst hge
         rw [List.take_of_length_le (by omega)] at hc
         rw [hc])
      | (have hge : i = a.length := by omega
         subst hge
         rw [hx, List.take_of_length_le (by omega), List.drop_eq_nil_of_le (by omega), List.append_nil]
         rfl)
      | trace_state
theorem ok_laws_markIntSS : FunOk Try.prog c_laws_markIntSS := funOk (E := [c_laws_markIntS]) (envOk_cons ok_laws_markIntS (envOk_nil)) mixd Try.func15 (pf := pf_laws_markIntSS) (by kernel_rfl) fun ts K h => by
  obtain ⟨t0, t1, e0, h⟩ := as2_out h
  subst e0
  obtain ⟨a, e1, hq⟩ := arC_out rd_ho h
  clear h
  subst e1
  have h := hq
  clear hq
  obtain ⟨k, e1, hq⟩ := arC_out (rd_int .i64) h
  clear h
  subst e1
  have h := hq
  clear hq
  obtain ⟨hpre, h⟩ := chk_o h
  exact ⟨_, _, h, Nat.le_of_ble_eq_true (show Nat.ble 2 Try.f15.ntmps = true by kernel_rfl), _, run_laws_markIntSS a k hpre⟩

def lb_laws_heldIntSS_0 : PC := .seq (.seq (.reg [.s (.mv 6 (.t 5)), .s (.mv 7 (.t 0)), .s (.len 8 false (.t 7)), .s (.bin 9 .lss (.t 6) (.t 8))]) (.cond (.t 9) (.skip) (.exit 0))) (.seq (.blk 1 (.seq (.reg [.s (.mv 12 (.t 0)), .s (.mv 13 (.t 5)), .s (.ia 14 .str (.t 12) (.t 13)), .s (.load 15 false 1 (.t 14)), .s (.mv 16 (.t 1)), .s (.call (some 17) 25 [(.t 15), (.t 16)]), .s (.mv 1 (.t 17))]) (.seq (.reg [.s (.mv 18 (.t 1)), .s (.bin 19 .lss (.t 18) (.k (.v (.c (.int .i64 0)))))]) (.cond (.t 19) (.seq (.reg [.s (.mv 4 (.k (.v (.c (.int .i64 (-1))))))]) (.ret)) (.skip))))) (.reg [.s (.mv 10 (.t 5)), .s (.bin 11 .add (.t 10) (.k (.v (.c (.int .i64 1))))), .s (.mv 5 (.t 11))]))
def pf_laws_heldIntSS : PF := ⟨[.t 4], .seq (.reg [.s (.mv 4 (.k (.v (.c (.int .i64 0)))))]) (.seq (.seq (.reg [.s (.mv 5 (.k (.v (.c (.int .i64 0)))))]) (.blk 0 (.loop [0, 1, 5] lb_laws_heldIntSS_0))) (.seq (.reg [.s (.mv 20 (.t 1)), .s (.mv 4 (.t 20))]) (.ret)))⟩
def c_laws_heldIntSS : Fun := ⟨16, [], fun ts K => as2 ts fun t0 t1 => arC pHs t0 fun a => arC (pI .i64) t1 fun k => chk (0 ≤ k ∧ k ≤ 1099511627776 ∧ (rowsOf a).length ≤ 2147483647 ∧ ∀ i, ((rowsOf a).getD i []).length ≤ 8) (K (tN (hres (rowsOf a = mkRows (rowsOf a) k) (k + rowsTot (rowsOf a)))) [])⟩
theorem run_laws_heldIntSS (a : RowsO) (k : Int) (hpre : 0 ≤ k ∧ k ≤ 1099511627776 ∧ (rowsOf a).length ≤ 2147483647 ∧ ∀ i, ((rowsOf a).getD i []).length ≤ 8) : runK [c_laws_heldIntS] ((rowsOf a).length + 1) [] pf_laws_heldIntSS [.v (.c (heldS a)), tI .i64 k] fun r o => r = tN (hres (rowsOf a = mkRows (rowsOf a) k) (k + rowsTot (rowsOf a))) ∧ o = [] := by
  obtain ⟨p0, p1, p2, p3⟩ := hpre
  cases a with
  | none =>
    conv => whnf
    refine iter_s ?_
    conv => whnf
    refine sel_i (fun h2 => ?_) (fun h2 => ?_)
    · exfalso; simp at h2
    · conv => whnf
      refine ⟨?_, rfl⟩
      simp [rowsOf, rowsTot, mkRows, hres]
  | some a =>
    have hml := mkRows_length a k
    have htot := rowsTot_takele a p3
    simp only [rowsOf, Option.getD_some] at *
    conv => whnf
    refine loop (α := Nat × Int) (fun p => ⟨[(0, .v (.c (.sl false .str 0))), (1, .v (.c (.int .i64 p.2))), (5, .v (.c (.int .i64 (p.1 : Int))))], [(0, some (.rows false (.int .i64) a))], nums.tail, [], false, []⟩)
      (fun p => p.1 ≤ a.length ∧ p.2 = k + rowsTot (a.take p.1) ∧ a.take p.1 = (mkRows a k).take p.1) (fun p => a.length - p.1) (fun p R hI hR => ?_) (0, k) _ ⟨by simp, by simp [rowsTot], by simp⟩ (by simp)
    obtain ⟨i, c⟩ := p
    obtain ⟨hi, hc, hx⟩ := hI
    dsimp only at hi hc hx
    have ht := htot i
    have h8 := p3 i
    dsimp only
    conv => whnf
    repeat' (first | (refine sel_i (fun h => ?_) (fun h => ?_) <;> conv => whnf) | (refine chk_c ?_ ?_ <;> conv => whnf) | (refine And.intro ?_ rfl) | (refine And.intro ?_ ?_ <;> conv => whnf))
    all_goals (try simp only [Int.toNat_natCast, decide_eq_true_eq, decide_eq_false_iff_not, Bool.not_eq_true', Bool.not_eq_false'] at *)
    all_goals first
      | (refine ⟨?_⟩; omega)
      | (have hlt : i < a.length := by omega
         have hq := mkRows_get a k i hlt
         rw [← hc] at hq
         have h2 : hres (a.getD i [] = mkIntS (a.getD i []).length c) (c + 1 * ((a.getD i []).length : Int)) < 0 := by assumption
         have hne : ¬ a = mkRows a k := fun e => by
           have hq2 : a.getD i [] = mkIntS (a.getD i []).length c := by
             have := congrArg (fun z => List.getD z i []) e
             exact this.trans hq
           rw [hres_yes hq2] at h2
           omega
         rw [hres_no hne])
      | (have hlt : i < a.length := by omega
         have hq := mkRows_get a k i hlt
         rw [← hc] at hq
         have h2 : ¬ hres (a.getD i [] = mkIntS (a.getD i []).length c) (c + 1 * ((a.getD i []).length : Int)) < 0 := by assumption
         have e1 : a.getD i [] = mkIntS (a.getD i []).length c := by
           by_cases hp : a.getD i [] = mkIntS (a.getD i []).length c
           · exact hp
           · rw [hres_no hp] at h2; omega
         rw [hres_yes e1, wrap_id (n := (i : Int) + 1) (by omega) (by omega)]
         exact hR (i + 1, c + 1 * ((a.getD i []).length : Int)) ⟨by omega, by simp only [rowsTot_take a i hlt]; omega, take_step (z := []) hx hlt (by omega) (e1.trans hq.symm)⟩ (by simp; omega))
      | (have hge : i = a.length := by omega
         subst hge
         rw [List.take_of_length_le (by omega)] at hc
         rw [hres_yes (take_all hx (by omega) (by omega)), hc])
      | trace_state
theorem ok_laws_heldIntSS : FunOk Try.prog c_laws_heldIntSS := funOk (E := [c_laws_heldIntS]) (envOk_cons ok_laws_heldIntS (envOk_nil)) mixd Try.func16 (pf := pf_laws_heldIntSS) (by kernel_rfl) fun ts K h => by
  obtain ⟨t0, t1, e0, h⟩ := as2_out h
  subst e0
  obtain ⟨a, e1, hq⟩ := arC_out rd_hs h
  clear h
  subst e1
  have h := hq
  clear hq
  obtain ⟨k, e1, hq⟩ := arC_out (rd_int .i64) h
  clear h
  subst e1
  have h := hq
  clear hq
  obtain ⟨hpre, h⟩ := chk_o h
  exact ⟨_, _, h, Nat.le_of_ble_eq_true (show Nat.ble 2 Try.f16.ntmps = true by kernel_rfl), _, run_laws_heldIntSS a k hpre⟩

end Go.Pi
