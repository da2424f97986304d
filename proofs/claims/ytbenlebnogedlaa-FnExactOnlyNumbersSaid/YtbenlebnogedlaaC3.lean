/- Contracts of functions, each out of its run by PI. No conditions. -/
import Derived.Test.YtbenlebnogedlaaC2
namespace Go.Pi
open Go.Proofs
set_option linter.unusedVariables false
set_option linter.unusedSimpArgs false
set_option maxRecDepth 100000
attribute [local irreducible] iterN
theorem setR_zero {n : Nat} (s : List Int) : (List.replicate n zRow).set 0 (firstB (s.take 0)) = List.replicate n zRow := by
  rw [← firstB_nil s]
  cases n with
  | zero => rfl
  | succ n => rfl
theorem shut_keep {l : List Inst} {z z' : Flow} {i : Nat} (h : Shut l z i) (hb : Below z z') (hr : z'.may.getD i [] = z.may.getD i []) : Shut l z' i := fun j hj => by
  obtain ⟨q1, q2⟩ := h j hj
  rw [hr]
  exact ⟨hb.come j q1, fun r h => hb.may j r (q2 r h)⟩
theorem win_tail (v : Int) (t : List Int) : [] ++ win (v :: t) (0 + Int.toNat 1) (((t.length + 1 : Nat) : Int) - 1).toNat = t := by
  unfold win
  rw [List.nil_append, show (((t.length + 1 : Nat) : Int) - 1).toNat = t.length by omega]
  show (t.take t.length) = t
  exact List.take_length
theorem orTo_zero (y : List Bool) (h : y.length = 8) : orTo zRow y 8 = y := by
  refine boolL_ext (by rw [orTo_len, h]; rfl) fun i => ?_
  rw [orTo_get]
  have hz : zRow.getD i fB = false := by
    unfold zRow
    rw [List.getD_eq_getElem?_getD, List.getElem?_replicate]
    split <;> rfl
  split
  · rw [hz, Bool.false_or]
  · rename_i q
    have : y.getD i fB = false := by rw [List.getD_eq_getElem?_getD, List.getElem?_eq_none (by have : zRow.length = 8 := rfl; omega)]; rfl
    rw [hz, this]
theorem flow0_eq {n : Nat} (hn : 0 < n) (s : List Int) : flow0 n s = ⟨(List.replicate n false).set 0 true, (List.replicate n zRow).set 0 (firstB s)⟩ := by
  unfold flow0 comeM
  have e : (zFlow n).may.getD 0 [] = zRow := by
    unfold zFlow
    dsimp only
    rw [List.getD_eq_getElem?_getD, List.getElem?_replicate, if_pos hn]; rfl
  rw [e, orTo_zero _ (firstB_len s)]
  rfl
theorem nextP_eq {l : List Inst} {v : Int} (hc : codeOk l = true) (h0 : 0 ≤ v) (h1 : v < l.length) : nextP l v = nextI l v := by
  unfold nextP
  rw [hc, inR_t.2 ⟨h0, by omega⟩]; rfl

def lb_spec_l25Flow_0 : PC := .seq (.seq (.reg [.s (.mv 18 (.t 6)), .s (.mv 19 (.t 0)), .s (.len 20 false (.t 19)), .s (.bin 21 .lss (.t 18) (.t 20))]) (.cond (.t 21) (.skip) (.exit 0))) (.seq (.blk 1 (.reg [.s (.mv 24 (.t 5)), .s (.mkS 25 .bool (.k (.v (.c (.int .i64 8))))), .s (.bsr 26 [(.t 25)]), .s (.appw 27 .bool (.t 24) (.t 26)), .s (.mv 5 (.t 27))])) (.reg [.s (.mv 22 (.t 6)), .s (.bin 23 .add (.t 22) (.k (.v (.c (.int .i64 1))))), .s (.mv 6 (.t 23))]))
def lb_spec_l25Flow_1 : PC := .seq (.seq (.reg [.s (.mv 28 (.t 7)), .s (.mv 29 (.t 1)), .s (.len 30 false (.t 29)), .s (.bin 31 .lss (.t 28) (.t 30))]) (.cond (.t 31) (.skip) (.exit 2))) (.seq (.blk 3 (.seq (.reg [.s (.mv 34 (.t 1)), .s (.mv 35 (.t 7)), .s (.ia 36 (.int .i64) (.t 34) (.t 35)), .s (.load 37 false 1 (.t 36)), .s (.call (some 38) 27 [(.t 37), (.k (.v (.c (.int .i64 0)))), (.k (.v (.c (.int .i64 7))))])]) (.cond (.t 38) (.rgd [] [.s (.mv 39 (.t 5)), .s (.ia 40 .str (.t 39) (.k (.v (.c (.int .i64 0))))), .s (.load 41 false 1 (.t 40)), .s (.mv 42 (.t 1)), .s (.mv 43 (.t 7)), .s (.ia 44 (.int .i64) (.t 42) (.t 43)), .s (.load 45 false 1 (.t 44)), .s (.ia 46 .bool (.t 41) (.t 45)), .s (.store 1 (.t 46) (.k (.v (.c .tt))))] (.tk 0 (.tk 1 (.tk 2 (.tk 3 (.tk 4 (.tk 5 (.tk 6 (.tk 7 (.one 8 true (.done none))))))))))) (.skip)))) (.reg [.s (.mv 32 (.t 7)), .s (.bin 33 .add (.t 32) (.k (.v (.c (.int .i64 1))))), .s (.mv 7 (.t 33))]))
def lb_spec_l25Flow_2 : PC := .seq (.seq (.reg [.s (.mv 93 (.t 16)), .s (.bin 94 .lss (.t 93) (.k (.v (.c (.int .i64 8)))))]) (.cond (.t 94) (.skip) (.exit 8))) (.seq (.blk 9 (.seq (.reg [.s (.mv 97 (.t 11)), .s (.mv 98 (.t 16)), .s (.ia 99 .bool (.t 97) (.t 98)), .s (.load 100 false 1 (.t 99)), .s (.mv 101 (.t 100)), .g 101 true (some 102) (.mv 102 (.t 5)), .g 101 true (some 103) (.mv 103 (.t 14)), .g 101 true (some 104) (.ia 104 .str (.t 102) (.t 103)), .g 101 true (some 105) (.load 105 false 1 (.t 104)), .g 101 true (some 106) (.mv 106 (.t 16)), .g 101 true (some 107) (.ia 107 .bool (.t 105) (.t 106)), .g 101 true (some 108) (.load 108 false 1 (.t 107)), .g 101 true (some 109) (.bnot 109 (.t 108)), .s (.pick 110 (.t 101) (.t 109) (.k (.v (.c .ff))))]) (.cond (.t 110) (.seq (.reg [.s (.mv 111 (.t 5)), .s (.mv 112 (.t 14)), .s (.ia 113 .str (.t 111) (.t 112)), .s (.load 114 false 1 (.t 113)), .s (.mv 115 (.t 16)), .s (.ia 116 .bool (.t 114) (.t 115)), .s (.store 1 (.t 116) (.k (.v (.c .tt))))]) (.reg [.s (.mv 15 (.k (.v (.c .tt))))])) (.skip)))) (.reg [.s (.mv 95 (.t 16)), .s (.bin 96 .add (.t 95) (.k (.v (.c (.int .i64 1))))), .s (.mv 16 (.t 96))]))
def lb_spec_l25Flow_3 : PC := .seq (.seq (.reg [.s (.mv 75 (.t 13)), .s (.mv 76 (.t 12)), .s (.len 77 false (.t 76)), .s (.bin 78 .lss (.t 75) (.t 77))]) (.cond (.t 78) (.skip) (.exit 6))) (.seq (.blk 7 (.seq (.reg [.s (.mv 81 (.t 12)), .s (.mv 82 (.t 13)), .s (.ia 83 (.int .i64) (.t 81) (.t 82)), .s (.load 84 false 1 (.t 83)), .s (.mv 14 (.t 84))]) (.seq (.reg [.s (.mv 85 (.t 8)), .s (.mv 86 (.t 14)), .s (.ia 87 .bool (.t 85) (.t 86)), .s (.load 88 false 1 (.t 87)), .s (.bnot 89 (.t 88)), .s (.mv 15 (.t 89))]) (.seq (.reg [.s (.mv 90 (.t 8)), .s (.mv 91 (.t 14)), .s (.ia 92 .bool (.t 90) (.t 91)), .s (.store 1 (.t 92) (.k (.v (.c .tt))))]) (.seq (.seq (.reg [.s (.mv 16 (.k (.v (.c (.int .i64 0)))))]) (.blk 8 (.loop [0, 5, 8, 9, 11, 12, 13, 14, 15, 16] lb_spec_l25Flow_2))) (.seq (.reg [.s (.mv 117 (.t 15))]) (.cond (.t 117) (.reg [.s (.mv 118 (.t 9)), .s (.mv 119 (.t 14)), .s (.bs 120 (.int .i64) [(.t 119)]), .s (.app 121 (.int .i64) (.t 118) (.t 120)), .s (.mv 9 (.t 121))]) (.skip)))))))) (.reg [.s (.mv 79 (.t 13)), .s (.bin 80 .add (.t 79) (.k (.v (.c (.int .i64 1))))), .s (.mv 13 (.t 80))]))
def lb_spec_l25Flow_4 : PC := .seq (.seq (.reg [.s (.mv 53 (.t 9)), .s (.len 54 false (.t 53)), .s (.bin 55 .gtr (.t 54) (.k (.v (.c (.int .i64 0)))))]) (.cond (.t 55) (.skip) (.exit 4))) (.blk 5 (.seq (.reg [.s (.mv 56 (.t 9)), .s (.ia 57 (.int .i64) (.t 56) (.k (.v (.c (.int .i64 0))))), .s (.load 58 false 1 (.t 57)), .s (.mv 10 (.t 58))]) (.seq (.reg [.s (.bs 59 (.int .i64) []), .s (.mv 60 (.t 9)), .s (.slc 61 (.int .i64) (.t 60) (some (.k (.v (.c (.int .i64 1))))) none), .s (.app 62 (.int .i64) (.t 59) (.t 61)), .s (.mv 9 (.t 62))]) (.seq (.rgd [] [.s (.mv 63 (.t 0)), .s (.mv 64 (.t 10)), .s (.ia 65 .inst (.t 63) (.t 64)), .s (.load 66 true 5 (.t 65)), .s (.mv 67 (.t 5)), .s (.mv 68 (.t 10)), .s (.ia 69 .str (.t 67) (.t 68)), .s (.load 70 false 1 (.t 69)), .s (.call (some 71) 28 [(.t 66), (.t 70)]), .s (.mv 11 (.t 71))] (.tk 0 (.tk 1 (.tk 2 (.tk 3 (.tk 4 (.tk 5 (.tk 6 (.tk 7 (.one 8 true (.tk 9 (.done none)))))))))))) (.seq (.reg [.s (.mv 72 (.t 0)), .s (.mv 73 (.t 10)), .s (.call (some 74) 29 [(.t 72), (.t 73)]), .s (.mv 12 (.t 74))]) (.seq (.reg [.s (.mv 13 (.k (.v (.c (.int .i64 0)))))]) (.blk 6 (.loop [0, 5, 8, 9, 11, 12, 13] lb_spec_l25Flow_3))))))))
def pf_spec_l25Flow : PF := ⟨[.t 4], .seq (.reg [.s (.mv 4 (.k (.v (.c (.nils .bool)))))]) (.seq (.reg [.s (.bsw 17 .bool), .s (.mv 5 (.t 17))]) (.seq (.seq (.reg [.s (.mv 6 (.k (.v (.c (.int .i64 0)))))]) (.blk 0 (.loop [0, 1, 5, 6] lb_spec_l25Flow_0))) (.seq (.seq (.reg [.s (.mv 7 (.k (.v (.c (.int .i64 0)))))]) (.blk 2 (.loop [0, 1, 5, 7] lb_spec_l25Flow_1))) (.seq (.reg [.s (.mv 47 (.t 0)), .s (.len 48 false (.t 47)), .s (.mkS 49 .bool (.t 48)), .s (.mv 8 (.t 49))]) (.seq (.reg [.s (.mv 50 (.t 8)), .s (.ia 51 .bool (.t 50) (.k (.v (.c (.int .i64 0))))), .s (.store 1 (.t 51) (.k (.v (.c .tt))))]) (.seq (.reg [.s (.bs 52 (.int .i64) [(.k (.v (.c (.int .i64 0))))]), .s (.mv 9 (.t 52))]) (.seq (.blk 4 (.loop [0, 5, 8, 9] lb_spec_l25Flow_4)) (.seq (.reg [.s (.mv 122 (.t 5)), .s (.mv 4 (.t 122))]) (.ret)))))))))⟩
def c_spec_l25Flow : Fun := ⟨20, [], fun ts K => as2 ts fun t0 t1 => arC (pL .inst) t0 fun l => arC (pL (.int .i64)) t1 fun s => chk (codeOk l = true ∧ s.length ≤ 2147483647) (∀ (f : Flow), (IsFlow l s f) → K (.v (.c (.rows true .bool f.may))) [])⟩
theorem run_spec_l25Flow (FU : Nat) (l : List (FT.Ty .inst)) (s : List (FT.Ty (.int .i64))) (hpre : codeOk l = true ∧ s.length ≤ 2147483647) {K : Tree → List Tree → Prop} (hK : ∀ (f : Flow), (IsFlow l s f) → K (.v (.c (.rows true .bool f.may))) []) : runK [c_spec_l1In, c_spec_l25Behind, c_spec_NextPlaces] (500 + s.length + FU) [] pf_spec_l25Flow [tL false .inst l, tL false (.int .i64) s] K := by
  obtain ⟨hc, hs⟩ := hpre
  obtain ⟨n1, n2, hok⟩ := codeOk_out hc
  conv => whnf
  refine loop (α := Nat) (fun k => ⟨[(0, .v (.c (.sl false .inst 0))), (1, .v (.c (.sl false (.int .i64) 1))), (5, .v (.c (.sl true .str 2))), (6, .v (.c (.int .i64 (k : Int))))],
      [(2, some (.rows true .bool (List.replicate k zRow))), (1, some (.flat false (.int .i64) none s)), (0, some (.flat false .inst none l))], nums.tail.tail.tail, [], false, []⟩)
    (fun k => k ≤ l.length) (fun k => l.length - k) (fun k R hI hR => ?_) 0 _ (by omega) (by show l.length - 0 < 500 + s.length + FU; omega)
  have w3 : IntKind.i64.wrap ((k : Int) + 1) = ((k + 1 : Nat) : Int) := by rw [wrap_id (by omega) (by omega)]; rfl
  have hR := hR (k + 1)
  rw [← reps_succ k] at hR
  conv => whnf
  repeat' (first | (refine sel_i (fun h => ?_) (fun h => ?_) <;> conv => whnf) | (refine chk_c ?_ ?_ <;> conv => whnf) | (refine And.intro ?_ rfl) | (refine And.intro ?_ ?_ <;> conv => whnf))
  all_goals (try simp only [w3, Int.toNat_natCast, decide_eq_true_eq, decide_eq_false_iff_not] at *)
  all_goals first
    | (refine ⟨?_⟩; rw [List.length_replicate]; omega)
    | (refine ⟨?_⟩; omega)
    | exact hR (by omega) (by omega)
    | skip
  have hkn : k = l.length := by omega
  rw [hkn, ← setR_zero (n := l.length) s]
  clear hR w3 hI h
  refine loop (α := Nat) (fun i => ⟨[(0, .v (.c (.sl false .inst 0))), (1, .v (.c (.sl false (.int .i64) 1))), (5, .v (.c (.sl true .str 2))), (7, .v (.c (.int .i64 (i : Int))))],
      [(2, some (.rows true .bool ((List.replicate l.length zRow).set 0 (firstB (s.take i))))), (1, some (.flat false (.int .i64) none s)), (0, some (.flat false .inst none l))], nums.tail.tail.tail, [], false, []⟩)
    (fun i => i ≤ s.length) (fun i => s.length - i) (fun i R hI hR => ?_) 0 _ (by omega) (by show s.length - 0 < 500 + s.length + FU; omega)
  have w3 : IntKind.i64.wrap ((i : Int) + 1) = ((i + 1 : Nat) : Int) := by rw [wrap_id (by omega) (by omega)]; rfl
  have hfl := firstB_len (s.take i)
  have fy := @firstB_yes s i
  have fn := @firstB_no s i
  have hM0 : ((List.replicate l.length zRow).set 0 (firstB (s.take i))).getD 0 [] = firstB (s.take i) := getR_set (by rw [List.length_replicate]; omega)
  have hMl : ((List.replicate l.length zRow).set 0 (firstB (s.take i))).length = l.length := by simp
  have hss : ∀ z, ((List.replicate l.length zRow).set 0 (firstB (s.take i))).set 0 z = (List.replicate l.length zRow).set 0 z := fun z => List.set_set _
  have hR := hR (i + 1)
  conv => whnf
  repeat' (first | (refine sel_i (fun h => ?_) (fun h => ?_) <;> conv => whnf) | (refine chk_c ?_ ?_ <;> conv => whnf) | (refine And.intro ?_ rfl) | (refine And.intro ?_ ?_ <;> conv => whnf))
  all_goals (try simp only [w3, hfl, hM0, hMl, hss, Int.toNat_natCast, Int.toNat_zero, decide_eq_true_eq, decide_eq_false_iff_not] at *)
  all_goals first
    | (refine ⟨?_⟩; omega)
    | (refine ⟨?_⟩; rw [List.length_replicate]; omega)
    | (refine ⟨?_⟩; simp only [List.length_replicate]; omega)
    | (have hin := (show inR (s.getD i (FT.zero (.int .i64))) 0 7 = true by assumption); have hr := inR_t.1 hin; refine ⟨?_⟩; omega)
    | (have hin := (show inR (s.getD i (FT.zero (.int .i64))) 0 7 = true by assumption)
       rw [fy (by omega) hin]; exact hR (by omega) (by omega))
    | (have hin := (show inR (s.getD i (FT.zero (.int .i64))) 0 7 = false by assumption)
       rw [fn (by omega) hin]; exact hR (by omega) (by omega))
    | skip
  have hi : i = s.length := by omega
  have ef := flow0_eq (n := l.length) (by omega) s
  have ec : (List.replicate l.length FT.bool.zero).set 0 true = (flow0 l.length s).come := by rw [ef]; rfl
  have em : (List.replicate l.length zRow).set 0 (firstB (List.take i s)) = (flow0 l.length s).may := by rw [ef, hi, List.take_length]
  have hst := sound_0 l s
  have hst2 := (flow0_start (n := l.length) (s := s) (by omega)).1
  have hst3 := @flow0_come l.length s
  have hcm0 := cnt_max hst.ok
  rw [ec, em]
  generalize flow0 l.length s = f0 at *
  clear hR fy fn w3 hfl hM0 hMl hss h ef ec em
  refine loop (α := List Int × Flow) (fun ⟨t, f⟩ => ⟨[(0, .v (.c (.sl false .inst 0))), (5, .v (.c (.sl true .str 1))), (8, .v (.c (.sl true .bool 2))), (9, .v (.c (.sl true (.int .i64) 3)))],
      [(3, some (.flat true (.int .i64) none t)), (2, some (.flat true .bool none f.come)), (1, some (.rows true .bool f.may)), (0, some (.flat false .inst none l))], nums.tail.tail.tail.tail, [], false, []⟩)
    (fun q => FSound l s q.2 ∧ (∀ x ∈ q.1, 0 ≤ x ∧ x < l.length ∧ cAt q.2 x.toNat = true) ∧ (∀ i : Nat, i < l.length → cAt q.2 i = true → (i : Int) ∈ q.1 ∨ Shut l q.2 i) ∧ q.1.length + (9 * l.length - cntF q.2) ≤ 1 + 9 * l.length) (fun q => q.1.length + (9 * l.length - cntF q.2)) (fun q R hI hR => ?_) ([0], f0) _
    ⟨hst, fun x hx => by rw [List.mem_singleton.1 hx]; exact ⟨by decide, by omega, hst2⟩, fun i hi hci => .inl (by rw [hst3 hci]; simp), by dsimp only [List.length_cons, List.length_nil]; omega⟩ (by show 1 + (9 * l.length - cntF f0) < 500 + s.length + FU; omega)
  obtain ⟨t, f⟩ := q
  obtain ⟨hS, hT, hC, hB⟩ := hI
  dsimp only at hS hT hC hB hR ⊢
  have hcm := cnt_max hS.ok
  have hfc : f.come.length = l.length := hS.ok.1
  have hfl : f.may.length = l.length := hS.ok.2.1
  cases t with
  | nil =>
    conv => whnf
    repeat' (first | (refine sel_i (fun h => ?_) (fun h => ?_) <;> conv => whnf) | (refine chk_c ?_ ?_ <;> conv => whnf) | (refine And.intro ?_ rfl) | (refine And.intro ?_ ?_ <;> conv => whnf))
    all_goals first
      | (exfalso; simp at *; done)
      | exact hK f (sound_end hS (by omega) fun i hi hci => (hC i hi hci).resolve_left (by simp))
      | trace_state
  | cons v t =>
    obtain ⟨v0, v1, v2⟩ := hT v (by simp)
    obtain ⟨V, rfl⟩ := Int.eq_ofNat_of_zero_le v0
    have hV : V < l.length := by omega
    have hv0 : ((V : Int) :: t).getD (Int.toNat 0) (FT.int IntKind.i64).zero = (V : Int) := rfl
    have hw := win_tail (V : Int) t
    have hnp : nextP l (V : Int) = nextI l (V : Int) := nextP_eq hc (by omega) (by omega)
    have hci : cAt f V = true := v2
    have hx := atI_ok hok (a := (V : Int)) (by omega) (by omega)
    have ht := told_of hS hV hx hci
    have hm8 := hS.ok.2.2 V hV
    have hin : ∀ x ∈ nextI l (V : Int), 0 ≤ x ∧ x < l.length := fun x hx => nextI_in hx
    have hnl : (nextI l (V : Int)).length ≤ l.length := nextI_len l _
    rw [List.length_cons] at hB
    conv => whnf
    repeat' (first | (refine sel_i (fun h => ?_) (fun h => ?_) <;> conv => whnf) | (refine chk_c ?_ ?_ <;> conv => whnf) | (refine And.intro ?_ rfl) | (refine And.intro ?_ ?_ <;> conv => whnf))
    all_goals (try simp only [List.length_cons, hfc, hfl, hv0, hw, hnp, etaInst, Int.toNat_natCast, gt_iff_lt, decide_eq_true_eq, decide_eq_false_iff_not] at *)
    all_goals first
      | (refine ⟨?_⟩; omega)
      | (refine ⟨?_⟩; exact ⟨by omega, by omega⟩)
      | (refine ⟨?_⟩; decide)
      | (refine ⟨?_⟩; have hw2 := congrArg List.length (win_tail (V : Int) t); rw [List.nil_append] at hw2; rw [hw2]; simp only [List.length_nil]; omega)
      | (refine ⟨?_⟩; exact ⟨hx, hm8⟩)
      | (exfalso; omega)
      | skip
    rw [show l.getD V FT.inst.zero = Go.Pi.atI l (V : Int) from rfl]
    generalize hout : behindB (Go.Pi.atI l (V : Int)) (f.may.getD V []) = out at *
    generalize hns : nextI l (V : Int) = ns at *
    have htj : ∀ j : Nat, (j : Int) ∈ ns → (j : Int) ∈ nextI l (V : Int) := fun j hj => by rw [hns]; exact hj
    have hT2 : ∀ x ∈ t, 0 ≤ x ∧ x < l.length ∧ cAt f x.toNat = true := fun x hx => hT x (List.mem_cons_of_mem _ hx)
    have hC2 : ∀ i : Nat, i < l.length → i ≠ V → cAt f i = true → (i : Int) ∈ t ∨ Shut l f i := fun i hi hne hci => by
      rcases hC i hi hci with h | h
      · rcases List.mem_cons.1 h with h | h
        · exact absurd (by omega) hne
        · exact .inl h
      · exact .inr h
    clear hst hst2 hst3 hcm0
    refine loop (α := Nat × List Int × Flow) (fun ⟨k, u, z⟩ => ⟨[(0, .v (.c (.sl false .inst 0))), (5, .v (.c (.sl true .str 1))), (8, .v (.c (.sl true .bool 2))), (9, .v (.c (.sl true (.int .i64) 3))), (11, .v (.c (.sl false .bool 4))), (12, .v (.c (.sl false (.int .i64) 5))), (13, .v (.c (.int .i64 (k : Int))))],
        [(5, some (.flat true (.int .i64) none ns)), (4, some (.flat true .bool none out)), (3, some (.flat true (.int .i64) none u)), (2, some (.flat true .bool none z.come)), (1, some (.rows true .bool z.may)), (0, some (.flat false .inst none l))], nums.tail.tail.tail.tail.tail.tail, [], false, []⟩)
      (fun q => q.1 ≤ ns.length ∧ FSound l s q.2.2 ∧ (∀ x ∈ q.2.1, 0 ≤ x ∧ x < l.length ∧ cAt q.2.2 x.toNat = true) ∧ (∀ i : Nat, i < l.length → i ≠ V → cAt q.2.2 i = true → (i : Int) ∈ q.2.1 ∨ Shut l q.2.2 i) ∧
        ((V : Int) ∈ q.2.1 ∨ (q.2.2.may.getD V [] = f.may.getD V [] ∧ ∀ j, j < q.1 → cAt q.2.2 (ns.getD j (FT.zero (.int .i64))).toNat = true ∧ rowLe out (q.2.2.may.getD (ns.getD j (FT.zero (.int .i64))).toNat []))) ∧
        q.2.1.length + (9 * l.length - cntF q.2.2) ≤ t.length + (9 * l.length - cntF f)) (fun q => ns.length - q.1) (fun q R2 hI2 hR2 => ?_) (0, t, f) _
      ⟨Nat.zero_le _, hS, hT2, hC2, .inr ⟨rfl, fun j hj => absurd hj (Nat.not_lt_zero _)⟩, Nat.le_refl _⟩ (by show ns.length - 0 < 500 + s.length + FU; omega)
    obtain ⟨k, u, z⟩ := q
    obtain ⟨hk, hZ, hU, hD, hVV, hL⟩ := hI2
    dsimp only at hk hZ hU hD hVV hL hR2 ⊢
    have hzm := cnt_max hZ.ok
    have hzc : z.come.length = l.length := hZ.ok.1
    have hzl : z.may.length = l.length := hZ.ok.2.1
    have hmk := fun q => hin _ (mem_getD (ns := ns) (k := k) q)
    have hmm := fun q => mem_getD (ns := ns) (k := k) q
    have w4 : IntKind.i64.wrap ((k : Int) + 1) = ((k + 1 : Nat) : Int) := by rw [wrap_id (by omega) (by omega)]; rfl
    conv => whnf
    repeat' (first | (refine sel_i (fun h => ?_) (fun h => ?_) <;> conv => whnf) | (refine chk_c ?_ ?_ <;> conv => whnf) | (refine And.intro ?_ rfl) | (refine And.intro ?_ ?_ <;> conv => whnf))
    all_goals (try simp only [hzc, hzl, Int.toNat_natCast, decide_eq_true_eq, decide_eq_false_iff_not] at *)
    all_goals first
      | (refine ⟨?_⟩; omega)
      | (refine ⟨?_⟩; exact ⟨by omega, by omega⟩)
      | (refine ⟨?_⟩; exact ⟨(hmk (by omega)).1, (hmk (by omega)).2⟩)
      | (refine ⟨?_⟩; have := hmk (by omega); omega)
      | skip
    rotate_left
    · refine hR (u, z) ⟨hZ, hU, fun i hi hci => ?_, ?_⟩ ?_
      · by_cases e : i = V
        · subst e
          rcases hVV with h9 | ⟨h1, h2⟩
          · exact .inl h9
          · right
            intro j' hj'
            rw [hns] at hj'
            obtain ⟨k', hk', ek⟩ := getD_idx hj'
            have h9 := h2 k' (by omega)
            rw [ek, Int.toNat_natCast] at h9
            dsimp only
            rw [h1, hout]
            exact h9
        · exact hD i hi e hci
      · dsimp only; omega
      · dsimp only; omega
    have q : k < ns.length := by omega
    have hv := hmk q
    have hm := hmm q
    obtain ⟨J, hJ⟩ := Int.eq_ofNat_of_zero_le hv.1
    rw [hJ] at hv hm
    rw [hJ, Int.toNat_natCast]
    have hJl : J < l.length := by omega
    have h8 := hZ.ok.2.2 J hJl
    have hsd := sound_come hZ ht (htj J hm)
    have hct := cnt_come (y := out) hZ.ok hJl
    have hhas := come_has (y := out) hZ.ok hJl ht.1
    have ho8 := ht.1
    have hbel := below_come z J out
    have hzn := cnt_max hsd.ok
    have hJn : (ns.getD k (FT.int IntKind.i64).zero).toNat = J := by rw [hJ]; rfl
    have fin1 : freshM z J out = true → k + 1 ≤ ns.length ∧ FSound l s (comeM z J out) ∧ (∀ x ∈ (u ++ [(J : Int)]), 0 ≤ x ∧ x < l.length ∧ cAt (comeM z J out) x.toNat = true) ∧ (∀ i : Nat, i < l.length → i ≠ V → cAt (comeM z J out) i = true → (i : Int) ∈ (u ++ [(J : Int)]) ∨ Shut l (comeM z J out) i) ∧
        ((V : Int) ∈ (u ++ [(J : Int)]) ∨ ((comeM z J out).may.getD V [] = f.may.getD V [] ∧ ∀ j, j < k + 1 → cAt (comeM z J out) (ns.getD j (FT.zero (.int .i64))).toNat = true ∧ rowLe out ((comeM z J out).may.getD (ns.getD j (FT.zero (.int .i64))).toNat []))) ∧
        ((u ++ [(J : Int)])).length + (9 * l.length - cntF (comeM z J out)) ≤ t.length + (9 * l.length - cntF f) := fun hf => by
      rw [if_pos hf] at hct
      refine ⟨by omega, hsd, fun x hx => ?_, fun i hi hne hci => ?_, ?_, by rw [List.length_append]; simp only [List.length_cons, List.length_nil]; omega⟩
      · rcases List.mem_append.1 hx with hx | hx
        · obtain ⟨a1, a2, a3⟩ := hU x hx
          exact ⟨a1, a2, hbel.come _ a3⟩
        · rw [List.mem_singleton.1 hx]
          exact ⟨by omega, by omega, hhas.1⟩
      · by_cases e : J = i
        · subst e; exact .inl (List.mem_append_right _ (by simp))
        · rw [cAt_come, if_neg (fun q => e q.1)] at hci
          rcases hD i hi hne hci with h9 | h9
          · exact .inl (List.mem_append_left _ h9)
          · exact .inr (shut_keep h9 hbel (by rw [row_come, if_neg (fun q => e q.1)]))
      · by_cases e : J = V
        · subst e; exact .inl (List.mem_append_right _ (by simp))
        · rcases hVV with h9 | ⟨h1, h2⟩
          · exact .inl (List.mem_append_left _ h9)
          · refine .inr ⟨by rw [row_come, if_neg (fun q => e q.1)]; exact h1, fun j hj => ?_⟩
            by_cases ej : j = k
            · subst ej; rw [hJn]; exact hhas
            · obtain ⟨a1, a2⟩ := h2 j (by omega)
              exact ⟨hbel.come _ a1, fun r h => hbel.may _ r (a2 r h)⟩
    have fin0 : freshM z J out = false → k + 1 ≤ ns.length ∧ FSound l s (comeM z J out) ∧ (∀ x ∈ u, 0 ≤ x ∧ x < l.length ∧ cAt (comeM z J out) x.toNat = true) ∧ (∀ i : Nat, i < l.length → i ≠ V → cAt (comeM z J out) i = true → (i : Int) ∈ u ∨ Shut l (comeM z J out) i) ∧
        ((V : Int) ∈ u ∨ ((comeM z J out).may.getD V [] = f.may.getD V [] ∧ ∀ j, j < k + 1 → cAt (comeM z J out) (ns.getD j (FT.zero (.int .i64))).toNat = true ∧ rowLe out ((comeM z J out).may.getD (ns.getD j (FT.zero (.int .i64))).toNat []))) ∧
        u.length + (9 * l.length - cntF (comeM z J out)) ≤ t.length + (9 * l.length - cntF f) := fun hf => by
      have hcs := come_same hf
      refine ⟨by omega, hsd, fun x hx => ?_, fun i hi hne hci => ?_, ?_, by rw [hcs]; exact hL⟩
      · rw [hcs]; exact hU x hx
      · rw [hcs] at hci ⊢; exact hD i hi hne hci
      · rcases hVV with h9 | ⟨h1, h2⟩
        · exact .inl h9
        · refine .inr ⟨by rw [hcs]; exact h1, fun j hj => ?_⟩
          by_cases ej : j = k
          · subst ej; rw [hJn]; exact hhas
          · rw [hcs]; exact h2 j (by omega)
    have hfr : freshM z J out = (!(z.come.getD J fB) || newTo (z.may.getD J []) out 8) := rfl
    have hcome : comeM z J out = ⟨z.come.set J true, z.may.set J (orTo (z.may.getD J []) out 8)⟩ := rfl
    have hR2a := hR2 (k + 1, u ++ [(J : Int)], comeM z J out)
    have hR2b := hR2 (k + 1, u, comeM z J out)
    have hul : u.length ≤ 1000 := by omega
    have hzl : z.may.length = l.length := hZ.ok.2.1
    dsimp only at hR2a hR2b
    clear hR hR2 hT hC hT2 hC2 hD hVV hsd hct hhas hbel hzn hU
    rw [hcome] at hR2a hR2b fin1 fin0
    dsimp only at hR2a hR2b
    clear hcome
    generalize hxx : z.may.getD J [] = x at *
    generalize hcc : (!z.come.getD J fB) = cf at *
    have hset : z.may.set J x = z.may := by rw [← hxx]; exact setR_same _ _
    have newT : ∀ k, newTo x out (k + 1) = (newTo x out k || (out.getD k fB && !x.getD k fB)) := fun _ => rfl
    refine loop (α := Nat × List (List Bool) × Cell) (fun ⟨r, M, b⟩ => ⟨[(0, .v (.c (.sl false .inst 0))), (5, .v (.c (.sl true .str 1))), (8, .v (.c (.sl true .bool 2))), (9, .v (.c (.sl true (.int .i64) 3))), (11, .v (.c (.sl false .bool 4))), (12, .v (.c (.sl false (.int .i64) 5))), (13, .v (.c (.int .i64 (k : Int)))), (14, .v (.c (.int .i64 (J : Int)))), (15, .v (.c b)), (16, .v (.c (.int .i64 (r : Int))))],
        [(5, some (.flat true (.int .i64) none ns)), (4, some (.flat true .bool none out)), (3, some (.flat true (.int .i64) none u)), (2, some (.flat true .bool none (z.come.set J true))), (1, some (.rows true .bool M)), (0, some (.flat false .inst none l))], nums.tail.tail.tail.tail.tail.tail, [], false, []⟩)
      (fun q => q.1 ≤ 8 ∧ q.2.1 = z.may.set J (orTo x out q.1) ∧ ((q.2.2 = .tt ∧ (cf || newTo x out q.1) = true) ∨ q.2.2 = .bool (cf || newTo x out q.1))) (fun q => 8 - q.1) (fun q R3 hI3 hR3 => ?_) (0, z.may, .bool cf) _ ⟨by simp, hset.symm, .inr (by simp [newTo])⟩ (by show 8 - 0 < 500 + s.length + FU; omega)
    obtain ⟨r, M, b⟩ := q
    obtain ⟨hr, hM, hb⟩ := hI3
    dsimp only at hr hM hb hR3 ⊢
    have hMA : M.getD J [] = orTo x out r := by rw [hM]; exact getR_set (by omega)
    have hMl : M.length = l.length := by rw [hM, List.length_set]; exact hzl
    have hol : (orTo x out r).length = 8 := by rw [orTo_len]; exact h8
    have hat : (orTo x out r).getD r fB = x.getD r fB := orTo_at
    have w6 : IntKind.i64.wrap ((r : Int) + 1) = ((r + 1 : Nat) : Int) := by rw [wrap_id (by omega) (by omega)]; rfl
    have hnT := newT r
    clear hset newT
    rcases hb with ⟨rfl, hb⟩ | rfl
    all_goals (
      conv => whnf
      repeat' (first | (refine sel_i (fun h => ?_) (fun h => ?_) <;> conv => whnf) | (refine chk_c ?_ ?_ <;> conv => whnf) | (refine And.intro ?_ rfl) | (refine And.intro ?_ ?_ <;> conv => whnf))
      all_goals (try simp only [w4, w6, hMA, hMl, hol, hat, Int.toNat_natCast, Bool.not_eq_true', Bool.not_eq_false', decide_eq_true_eq, decide_eq_false_iff_not] at *)
      all_goals first
        | (refine ⟨?_⟩; omega)
        | (refine ⟨?_⟩; exact ⟨by omega, by omega⟩)
        | (refine ⟨?_⟩; simp only [List.length_cons, List.length_nil]; omega)
        | (have hy1 : out.getD r fB = true := by assumption
           have hx1 : x.getD r fB = false := by assumption
           exact hR3 (r + 1, M.set J ((orTo x out r).set r true), .tt) ⟨by dsimp only; omega, by dsimp only; rw [hM, List.set_set, orTo_yes hy1], .inl ⟨rfl, by dsimp only; rw [hnT, hy1, hx1]; simp⟩⟩ (by dsimp only; omega))
        | (have hx1 : x.getD r fB = true := by assumption
           exact hR3 (r + 1, M, _) ⟨by dsimp only; omega, by dsimp only; rw [hM, orTo_no (.inr hx1)], by dsimp only; rw [hnT, hx1]; first | exact .inl ⟨rfl, by simpa using hb⟩ | exact .inr (by simp)⟩ (by dsimp only; omega))
        | (have hy1 : out.getD r fB = false := by assumption
           exact hR3 (r + 1, M, _) ⟨by dsimp only; omega, by dsimp only; rw [hM, orTo_no (.inl hy1)], by dsimp only; rw [hnT, hy1]; first | exact .inl ⟨rfl, by simpa using hb⟩ | exact .inr (by simp)⟩ (by dsimp only; omega))
        | (have hr8 : r = 8 := by omega
           subst hr8
           rw [hM]
           first
             | (refine hR2a (fin1 ?_) (by omega); rw [hfr]; first | exact hb | assumption)
             | (refine hR2b (fin0 ?_) (by omega); rw [hfr]; first | exact hb | assumption))
        | trace_state)
theorem ok_spec_l25Flow : FunOk Try.prog c_spec_l25Flow := funOkR (E := [c_spec_l1In, c_spec_l25Behind, c_spec_NextPlaces]) (envOk_cons ok_spec_l1In (envOk_cons ok_spec_l25Behind (envOk_cons ok_spec_NextPlaces (envOk_nil)))) mixd Try.func20 (pf := pf_spec_l25Flow) (by kernel_rfl) fun ts K h => by
  obtain ⟨t0, t1, e0, h⟩ := as2_out h
  subst e0
  obtain ⟨l, e1, hq⟩ := arC_out (rd_l .inst) h
  clear h
  subst e1
  have h := hq
  clear hq
  obtain ⟨s, e1, hq⟩ := arC_out (rd_l (.int .i64)) h
  clear h
  subst e1
  have h := hq
  clear hq
  obtain ⟨hpre, h⟩ := chk_o h
  exact ⟨Nat.le_of_ble_eq_true (show Nat.ble 2 Try.f20.ntmps = true by kernel_rfl), _, run_spec_l25Flow 0 l s hpre h⟩

def keyAt (l : List Inst) (m : List (List Bool)) (i : Nat) : Bool := ((l.getD i (FT.zero .inst)).op == 11) && (m.getD i []).getD (l.getD i (FT.zero .inst)).b.toNat (FT.zero .bool)
def onlyTo (l : List Inst) (m : List (List Bool)) : Nat → Bool
  | 0 => true
  | k + 1 => onlyTo l m k && !keyAt l m k
theorem onlyTo_no {l : List Inst} {m : List (List Bool)} {k : Nat} (h : keyAt l m k = true) : ∀ {n : Nat}, k < n → onlyTo l m n = false
  | 0, q => absurd q (Nat.not_lt_zero _)
  | n + 1, q => by
    unfold onlyTo
    by_cases e : k = n
    · subst e; rw [h]; simp
    · rw [onlyTo_no h (n := n) (by omega)]; rfl
def OnlyIs (l : List Inst) (s : List Int) (b : Bool) : Prop := (codeOk l = false → b = false) ∧ (codeOk l = true → ∃ f, IsFlow l s f ∧ b = onlyTo l f.may l.length)
theorem only_unique {l : List Inst} {s : List Int} {a b : Bool} (h : OnlyIs l s a) (k : OnlyIs l s b) : a = b := by
  cases hc : codeOk l with
  | false => rw [h.1 hc, k.1 hc]
  | true =>
    obtain ⟨f, f1, f2⟩ := h.2 hc
    obtain ⟨g, g1, g2⟩ := k.2 hc
    rw [f2, g2, flow_unique f1 g1]

def lb_impl_OnlyNumbers_0 : PC := .seq (.reg [.s (.bin 17 .lss (.t 16) (.t 15))]) (.seq (.cond (.t 17) (.skip) (.exit 0)) (.seq (.blk 1 (.seq (.reg [.s (.mv 18 (.t 16)), .s (.ia 19 .inst (.t 14) (.t 16)), .s (.load 20 true 5 (.t 19)), .s (.alloc 7 [.int .i64 0, .int .i64 0, .int .i64 0, .int .i64 0, .int .i64 0]), .s (.mv 6 (.t 18)), .s (.store 5 (.t 7) (.t 20))]) (.seq (.rgd [] [.s (.fa 21 (.t 7) 0), .s (.load 22 false 1 (.t 21)), .s (.bin 23 .eql (.t 22) (.k (.v (.c (.int .i64 11))))), .s (.mv 24 (.t 23)), .g 24 true (some 25) (.mv 25 (.t 5)), .g 24 true (some 26) (.nchk 26 (.t 25)), .g 24 true (some 27) (.fa 27 (.t 26) 1), .g 24 true (some 28) (.load 28 false 1 (.t 27)), .g 24 true (some 29) (.mv 29 (.t 6)), .g 24 true (some 30) (.ia 30 .str (.t 28) (.t 29)), .g 24 true (some 31) (.load 31 false 1 (.t 30)), .g 24 true (some 32) (.fa 32 (.t 7) 3), .g 24 true (some 33) (.load 33 false 1 (.t 32)), .g 24 true (some 34) (.ia 34 .bool (.t 31) (.t 33)), .g 24 true (some 35) (.load 35 false 1 (.t 34)), .s (.pick 36 (.t 24) (.t 35) (.k (.v (.c .ff))))] (.tk 0 (.tk 1 (.tk 2 (.tk 3 (.tk 4 (.tk 5 (.tk 6 (.tk 7 (.tk 8 (.tk 9 (.tk 10 (.tk 11 (.tk 12 (.tk 13 (.tk 14 (.tk 15 (.done none)))))))))))))))))) (.cond (.t 36) (.seq (.reg [.s (.mv 4 (.k (.v (.c .ff))))]) (.ret)) (.skip))))) (.reg [.s (.bin 37 .add (.t 16) (.k (.v (.c (.int .i64 1))))), .s (.mv 16 (.t 37))])))
def pf_impl_OnlyNumbers : PF := ⟨[.t 4], .seq (.reg [.s (.mv 4 (.k (.v (.c .ff))))]) (.seq (.seq (.reg [.s (.mv 8 (.t 0)), .s (.call (some 9) 22 [(.t 8)]), .s (.bnot 10 (.t 9))]) (.cond (.t 10) (.seq (.reg [.s (.mv 4 (.k (.v (.c .ff))))]) (.ret)) (.skip))) (.seq (.reg [.s (.mv 11 (.t 0)), .s (.mv 12 (.t 1)), .s (.call (some 13) 23 [(.t 11), (.t 12)]), .s (.mv 5 (.t 13))]) (.seq (.seq (.reg [.s (.mv 14 (.t 0)), .s (.len 15 false (.t 14)), .s (.mv 16 (.k (.v (.c (.int .i64 0)))))]) (.blk 0 (.loop [5, 14, 15, 16] lb_impl_OnlyNumbers_0))) (.seq (.reg [.s (.mv 4 (.k (.v (.c .tt))))]) (.ret)))))⟩
def c_impl_OnlyNumbers : Fun := ⟨18, [], fun ts K => as2 ts fun t0 t1 => arC (pL .inst) t0 fun l => arC (pL (.int .i64)) t1 fun s => chk (l.length ≤ 2147483647 ∧ s.length ≤ 2147483647) (∀ (b : Bool), (OnlyIs l s b) → K (tB b) [])⟩
theorem run_impl_OnlyNumbers (FU : Nat) (l : List (FT.Ty .inst)) (s : List (FT.Ty (.int .i64))) (hpre : l.length ≤ 2147483647 ∧ s.length ≤ 2147483647) {K : Tree → List Tree → Prop} (hK : ∀ (b : Bool), (OnlyIs l s b) → K (tB b) []) : runK [c_impl_CodeOk, c_impl_flowOf] (100 + FU) [] pf_impl_OnlyNumbers [tL false .inst l, tL false (.int .i64) s] K := by
  obtain ⟨l1, l2⟩ := hpre
  conv => whnf
  repeat' (first | (refine sel_i (fun h => ?_) (fun h => ?_) <;> conv => whnf) | (refine chk_c ?_ ?_ <;> conv => whnf) | (refine And.intro ?_ rfl) | (refine And.intro ?_ ?_ <;> conv => whnf) | (intro x y z d hd; (try have g1 := And.left hd); (try have g2 := And.right hd); (try have g3 := And.left (And.right hd)); (try have g4 := And.right (And.right hd)); conv => whnf) | (intro x y d hd; (try have g1 := And.left hd); (try have g2 := And.right hd); (try have g3 := And.left (And.right hd)); (try have g4 := And.right (And.right hd)); conv => whnf) | (intro x d hd; (try have g1 := And.left hd); (try have g2 := And.right hd); (try have g3 := And.left (And.right hd)); (try have g4 := And.right (And.right hd)); conv => whnf) | (intro d hd; (try have g1 := And.left hd); (try have g2 := And.right hd); (try have g3 := And.left (And.right hd)); (try have g4 := And.right (And.right hd)); conv => whnf))
  all_goals (try simp only [Bool.not_eq_true', Bool.not_eq_false'] at *)
  all_goals first
    | (refine ⟨?_⟩; exact l1)
    | (refine ⟨?_⟩; exact ⟨by assumption, l2⟩)
    | (exact hK false ⟨fun _ => rfl, fun h => by simp_all⟩)
    | skip
  have hc : codeOk l = true := by assumption
  obtain ⟨n1, n2, hok⟩ := codeOk_out hc
  have hfc : d.come.length = l.length := hd.1.ok.1
  have hfl : d.may.length = l.length := hd.1.ok.2.1
  refine loop (α := Nat) (fun i => ⟨[(5, .v (.c (.ptr 0 0))), (14, .v (.c (.sl false .inst 3))), (15, .v (.c (.int .i64 (l.length : Int)))), (16, .v (.c (.int .i64 (i : Int))))],
      [(3, some (.flat false .inst none l)), (2, some (.rows true .bool d.may)), (1, some (.flat true .bool none d.come)), (0, some (.box true [.sl false .bool 1, .sl false .str 2]))], nums.tail.tail.tail.tail, [], false, []⟩)
    (fun i => i ≤ l.length ∧ onlyTo l d.may i = true) (fun i => l.length - i) (fun i R hI hR => ?_) 0 _ ⟨by omega, rfl⟩ (by show l.length - 0 < 100 + FU; omega)
  obtain ⟨hi, ho⟩ := hI
  have w3 : IntKind.i64.wrap ((i : Int) + 1) = ((i + 1 : Nat) : Int) := by rw [wrap_id (by omega) (by omega)]; rfl
  have h8 := hd.1.ok.2.2 i
  have hx := fun q => atI_ok hok (a := (i : Int)) (by omega) q
  have hxe : Go.Pi.atI l (i : Int) = l.getD i (FT.zero .inst) := rfl
  rw [hxe] at hx
  have hab := fun q => insOk_ab (hx q)
  have hk : keyAt l d.may i = (((l.getD i (FT.zero .inst)).op == 11) && (d.may.getD i []).getD (l.getD i (FT.zero .inst)).b.toNat (FT.zero .bool)) := rfl
  have hs : onlyTo l d.may (i + 1) = (onlyTo l d.may i && !keyAt l d.may i) := rfl
  clear g1 g2 hxe
  conv => whnf
  repeat' (first | (refine sel_i (fun h => ?_) (fun h => ?_) <;> conv => whnf) | (refine chk_c ?_ ?_ <;> conv => whnf) | (refine And.intro ?_ rfl) | (refine And.intro ?_ ?_ <;> conv => whnf))
  all_goals (try simp only [w3, hfl, hfc, Int.toNat_natCast, decide_eq_true_eq, decide_eq_false_iff_not] at *)
  all_goals first
    | (refine ⟨?_⟩; omega)
    | (refine ⟨?_⟩; exact ⟨by omega, by omega⟩)
    | (refine ⟨?_⟩; have h9 := hab (by omega); have h10 := h8 (by omega); omega)
    | (have hkt : keyAt l d.may i = true := (by rw [hk]; simp only [*, Bool.and_self, Bool.and_true, Bool.true_and]; done)
       exact hK false ⟨fun _ => rfl, fun _ => ⟨d, hd, (onlyTo_no hkt (by omega)).symm⟩⟩)
    | (have hkf : keyAt l d.may i = false := (by rw [hk]; simp only [*, Bool.and_false, Bool.false_and]; done)
       exact hR (i + 1) ⟨by omega, by rw [hs, ho, hkf]; rfl⟩ (by omega))
    | (have e : i = l.length := by omega
       have e2 : true = onlyTo l d.may l.length := by rw [← e]; exact ho.symm
       exact hK true ⟨fun h => (by rw [hc] at h; cases h), fun _ => ⟨d, hd, e2⟩⟩)
    | trace_state
theorem ok_impl_OnlyNumbers : FunOk Try.prog c_impl_OnlyNumbers := funOkR (E := [c_impl_CodeOk, c_impl_flowOf]) (envOk_cons ok_impl_CodeOk (envOk_cons ok_impl_flowOf (envOk_nil))) mixd Try.func18 (pf := pf_impl_OnlyNumbers) (by kernel_rfl) fun ts K h => by
  obtain ⟨t0, t1, e0, h⟩ := as2_out h
  subst e0
  obtain ⟨l, e1, hq⟩ := arC_out (rd_l .inst) h
  clear h
  subst e1
  have h := hq
  clear hq
  obtain ⟨s, e1, hq⟩ := arC_out (rd_l (.int .i64)) h
  clear h
  subst e1
  have h := hq
  clear hq
  obtain ⟨hpre, h⟩ := chk_o h
  exact ⟨Nat.le_of_ble_eq_true (show Nat.ble 2 Try.f18.ntmps = true by kernel_rfl), _, run_impl_OnlyNumbers 0 l s hpre h⟩

def lb_spec_OnlyNumbers_0 : PC := .seq (.seq (.reg [.s (.mv 13 (.t 6)), .s (.mv 14 (.t 0)), .s (.len 15 false (.t 14)), .s (.bin 16 .lss (.t 13) (.t 15))]) (.cond (.t 16) (.skip) (.exit 0))) (.seq (.blk 1 (.seq (.rgd [] [.s (.mv 19 (.t 0)), .s (.mv 20 (.t 6)), .s (.ia 21 .inst (.t 19) (.t 20)), .s (.fa 22 (.t 21) 0), .s (.load 23 false 1 (.t 22)), .s (.bin 24 .eql (.t 23) (.k (.v (.c (.int .i64 11))))), .s (.mv 25 (.t 24)), .g 25 true (some 26) (.mv 26 (.t 5)), .g 25 true (some 27) (.mv 27 (.t 6)), .g 25 true (some 28) (.ia 28 .str (.t 26) (.t 27)), .g 25 true (some 29) (.load 29 false 1 (.t 28)), .g 25 true (some 30) (.mv 30 (.t 0)), .g 25 true (some 31) (.mv 31 (.t 6)), .g 25 true (some 32) (.ia 32 .inst (.t 30) (.t 31)), .g 25 true (some 33) (.fa 33 (.t 32) 3), .g 25 true (some 34) (.load 34 false 1 (.t 33)), .g 25 true (some 35) (.ia 35 .bool (.t 29) (.t 34)), .g 25 true (some 36) (.load 36 false 1 (.t 35)), .s (.pick 37 (.t 25) (.t 36) (.k (.v (.c .ff))))] (.tk 0 (.tk 1 (.tk 2 (.tk 3 (.tk 4 (.tk 5 (.tk 6 (.tk 7 (.tk 8 (.tk 9 (.tk 10 (.tk 11 (.tk 12 (.tk 13 (.tk 14 (.tk 15 (.tk 16 (.tk 17 (.tk 18 (.done none))))))))))))))))))))) (.cond (.t 37) (.seq (.reg [.s (.mv 4 (.k (.v (.c .ff))))]) (.ret)) (.skip)))) (.reg [.s (.mv 17 (.t 6)), .s (.bin 18 .add (.t 17) (.k (.v (.c (.int .i64 1))))), .s (.mv 6 (.t 18))]))
def pf_spec_OnlyNumbers : PF := ⟨[.t 4], .seq (.reg [.s (.mv 4 (.k (.v (.c .ff))))]) (.seq (.seq (.reg [.s (.mv 7 (.t 0)), .s (.call (some 8) 19 [(.t 7)]), .s (.bnot 9 (.t 8))]) (.cond (.t 9) (.seq (.reg [.s (.mv 4 (.k (.v (.c .ff))))]) (.ret)) (.skip))) (.seq (.reg [.s (.mv 10 (.t 0)), .s (.mv 11 (.t 1)), .s (.call (some 12) 20 [(.t 10), (.t 11)]), .s (.mv 5 (.t 12))]) (.seq (.seq (.reg [.s (.mv 6 (.k (.v (.c (.int .i64 0)))))]) (.blk 0 (.loop [0, 5, 6] lb_spec_OnlyNumbers_0))) (.seq (.reg [.s (.mv 4 (.k (.v (.c .tt))))]) (.ret)))))⟩
def c_spec_OnlyNumbers : Fun := ⟨17, [], fun ts K => as2 ts fun t0 t1 => arC (pL .inst) t0 fun l => arC (pL (.int .i64)) t1 fun s => chk (l.length ≤ 2147483647 ∧ s.length ≤ 2147483647) (∀ (b : Bool), (OnlyIs l s b) → K (tB b) [])⟩
theorem run_spec_OnlyNumbers (FU : Nat) (l : List (FT.Ty .inst)) (s : List (FT.Ty (.int .i64))) (hpre : l.length ≤ 2147483647 ∧ s.length ≤ 2147483647) {K : Tree → List Tree → Prop} (hK : ∀ (b : Bool), (OnlyIs l s b) → K (tB b) []) : runK [c_spec_CodeOk, c_spec_l25Flow] (100 + FU) [] pf_spec_OnlyNumbers [tL false .inst l, tL false (.int .i64) s] K := by
  obtain ⟨l1, l2⟩ := hpre
  conv => whnf
  repeat' (first | (refine sel_i (fun h => ?_) (fun h => ?_) <;> conv => whnf) | (refine chk_c ?_ ?_ <;> conv => whnf) | (refine And.intro ?_ rfl) | (refine And.intro ?_ ?_ <;> conv => whnf) | (intro x y z d hd; (try have g1 := And.left hd); (try have g2 := And.right hd); (try have g3 := And.left (And.right hd)); (try have g4 := And.right (And.right hd)); conv => whnf) | (intro x y d hd; (try have g1 := And.left hd); (try have g2 := And.right hd); (try have g3 := And.left (And.right hd)); (try have g4 := And.right (And.right hd)); conv => whnf) | (intro x d hd; (try have g1 := And.left hd); (try have g2 := And.right hd); (try have g3 := And.left (And.right hd)); (try have g4 := And.right (And.right hd)); conv => whnf) | (intro d hd; (try have g1 := And.left hd); (try have g2 := And.right hd); (try have g3 := And.left (And.right hd)); (try have g4 := And.right (And.right hd)); conv => whnf))
  all_goals (try simp only [Bool.not_eq_true', Bool.not_eq_false'] at *)
  all_goals first
    | (refine ⟨?_⟩; exact l1)
    | (refine ⟨?_⟩; exact ⟨by assumption, l2⟩)
    | (exact hK false ⟨fun _ => rfl, fun h => by simp_all⟩)
    | skip
  have hc : codeOk l = true := by assumption
  obtain ⟨n1, n2, hok⟩ := codeOk_out hc
  have hfc : d.come.length = l.length := hd.1.ok.1
  have hfl : d.may.length = l.length := hd.1.ok.2.1
  refine loop (α := Nat) (fun i => ⟨[(0, .v (.c (.sl false .inst 0))), (5, .v (.c (.sl false .str 1))), (6, .v (.c (.int .i64 (i : Int))))],
      [(1, some (.rows true .bool d.may)), (0, some (.flat false .inst none l))], nums.tail.tail, [], false, []⟩)
    (fun i => i ≤ l.length ∧ onlyTo l d.may i = true) (fun i => l.length - i) (fun i R hI hR => ?_) 0 _ ⟨by omega, rfl⟩ (by show l.length - 0 < 100 + FU; omega)
  obtain ⟨hi, ho⟩ := hI
  have w3 : IntKind.i64.wrap ((i : Int) + 1) = ((i + 1 : Nat) : Int) := by rw [wrap_id (by omega) (by omega)]; rfl
  have h8 := hd.1.ok.2.2 i
  have hx := fun q => atI_ok hok (a := (i : Int)) (by omega) q
  have hxe : Go.Pi.atI l (i : Int) = l.getD i (FT.zero .inst) := rfl
  rw [hxe] at hx
  have hab := fun q => insOk_ab (hx q)
  have hk : keyAt l d.may i = (((l.getD i (FT.zero .inst)).op == 11) && (d.may.getD i []).getD (l.getD i (FT.zero .inst)).b.toNat (FT.zero .bool)) := rfl
  have hs : onlyTo l d.may (i + 1) = (onlyTo l d.may i && !keyAt l d.may i) := rfl
  clear g1 g2 hxe
  conv => whnf
  repeat' (first | (refine sel_i (fun h => ?_) (fun h => ?_) <;> conv => whnf) | (refine chk_c ?_ ?_ <;> conv => whnf) | (refine And.intro ?_ rfl) | (refine And.intro ?_ ?_ <;> conv => whnf))
  all_goals (try simp only [w3, hfl, hfc, Int.toNat_natCast, decide_eq_true_eq, decide_eq_false_iff_not] at *)
  all_goals first
    | (refine ⟨?_⟩; omega)
    | (refine ⟨?_⟩; exact ⟨by omega, by omega⟩)
    | (refine ⟨?_⟩; have h9 := hab (by omega); have h10 := h8 (by omega); omega)
    | (have hkt : keyAt l d.may i = true := (by rw [hk]; simp only [*, Bool.and_self, Bool.and_true, Bool.true_and]; done)
       exact hK false ⟨fun _ => rfl, fun _ => ⟨d, hd, (onlyTo_no hkt (by omega)).symm⟩⟩)
    | (have hkf : keyAt l d.may i = false := (by rw [hk]; simp only [*, Bool.and_false, Bool.false_and]; done)
       exact hR (i + 1) ⟨by omega, by rw [hs, ho, hkf]; rfl⟩ (by omega))
    | (have e : i = l.length := by omega
       have e2 : true = onlyTo l d.may l.length := by rw [← e]; exact ho.symm
       exact hK true ⟨fun h => (by rw [hc] at h; cases h), fun _ => ⟨d, hd, e2⟩⟩)
    | trace_state
theorem ok_spec_OnlyNumbers : FunOk Try.prog c_spec_OnlyNumbers := funOkR (E := [c_spec_CodeOk, c_spec_l25Flow]) (envOk_cons ok_spec_CodeOk (envOk_cons ok_spec_l25Flow (envOk_nil))) mixd Try.func17 (pf := pf_spec_OnlyNumbers) (by kernel_rfl) fun ts K h => by
  obtain ⟨t0, t1, e0, h⟩ := as2_out h
  subst e0
  obtain ⟨l, e1, hq⟩ := arC_out (rd_l .inst) h
  clear h
  subst e1
  have h := hq
  clear hq
  obtain ⟨s, e1, hq⟩ := arC_out (rd_l (.int .i64)) h
  clear h
  subst e1
  have h := hq
  clear hq
  obtain ⟨hpre, h⟩ := chk_o h
  exact ⟨Nat.le_of_ble_eq_true (show Nat.ble 2 Try.f17.ntmps = true by kernel_rfl), _, run_spec_OnlyNumbers 0 l s hpre h⟩

end Go.Pi
