/- FnNoMore: the given statement holds, out of the law's run by PI. No conditions. -/
import Derived.Test.YtkiokbkbgjomeaaGreatC5
namespace Go.Pi
open Go.Proofs
set_option linter.unusedVariables false
set_option linter.unusedSimpArgs false
set_option maxRecDepth 100000
attribute [local irreducible] iterN
def lb_laws_FnNoMore_0 : PC := .seq (.seq (.reg [.s (.mv 62 (.t 12)), .s (.mv 63 (.t 11)), .s (.len 64 false (.t 63)), .s (.bin 65 .lss (.t 62) (.t 64))]) (.cond (.t 65) (.skip) (.exit 2))) (.seq (.blk 3 (.seq (.reg [.s (.mv 68 (.t 11)), .s (.mv 69 (.t 12)), .s (.ia 70 .word (.t 68) (.t 69)), .s (.load 71 true 6 (.t 70)), .s (.mv 72 (.t 6)), .s (.call (some 73) 17 [(.t 71), (.t 72)]), .s (.bnot 74 (.t 73))]) (.cond (.t 74) (.seq (.reg [.s (.mv 2 (.k (.v (.c .ff))))]) (.ret)) (.skip)))) (.reg [.s (.mv 66 (.t 12)), .s (.bin 67 .add (.t 66) (.k (.v (.c (.int .i64 1))))), .s (.mv 12 (.t 67))]))
def lb_laws_FnNoMore_1 : PC := .seq (.seq (.reg [.s (.mv 43 (.t 9)), .s (.bin 44 .lss (.t 43) (.k (.v (.c (.int .i64 20)))))]) (.cond (.t 44) (.skip) (.exit 0))) (.seq (.blk 1 (.seq (.reg [.s (.mv 47 (.t 3)), .s (.load 48 true 10 (.t 4)), .s (.call (some 49) 16 [(.t 47), (.t 48)]), .s (.store 10 (.t 4) (.t 49))]) (.seq (.rgd [] [.s (.bs 50 .word []), .s (.fa 51 (.t 4) 0), .s (.load 52 false 1 (.t 51)), .s (.app 53 .word (.t 50) (.t 52)), .s (.fa 54 (.t 4) 1), .s (.load 55 true 6 (.t 54)), .s (.bs 56 .word [(.t 55)]), .s (.app 57 .word (.t 53) (.t 56)), .s (.mv 10 (.t 57))] (.tk 1 (.tk 2 (.tk 4 (.tk 5 (.alt 0 false (.alt 3 false (.one 6 false (.one 7 true (.tk 8 (.done (some [3, 4, 6, 7, 8, 9, 10]))))) (.alt 6 false (.one 3 false (.one 7 true (.tk 8 (.done (some [3, 4, 6, 7, 8, 9, 10]))))) (.nil))) (.alt 6 false (.one 0 false (.one 3 false (.one 7 true (.tk 8 (.done (some [3, 4, 6, 7, 8, 9, 10])))))) (.nil)))))))) (.seq (.reg [.s (.fa 58 (.t 4) 7), .s (.load 59 true 2 (.t 58)), .s (.mv 60 (.t 10)), .s (.call (some 61) 13 [(.t 59), (.t 60)]), .s (.mv 11 (.t 61))]) (.seq (.seq (.reg [.s (.mv 12 (.k (.v (.c (.int .i64 0)))))]) (.blk 2 (.loop [3, 4, 6, 7, 8, 9, 10, 11, 12] lb_laws_FnNoMore_0))) (.seq (.reg [.s (.fa 75 (.t 4) 7), .s (.load 76 true 2 (.t 75)), .s (.mv 77 (.t 10)), .s (.call (some 78) 14 [(.t 76), (.t 77)]), .s (.mv 79 (.t 7)), .s (.call (some 80) 18 [(.t 78), (.t 79)]), .s (.bnot 81 (.t 80)), .s (.mv 82 (.t 81)), .g 82 false (some 83) (.fa 83 (.t 4) 7), .g 82 false (some 84) (.load 84 true 2 (.t 83)), .g 82 false (some 85) (.mv 85 (.t 10)), .g 82 false (some 86) (.call (some 86) 15 [(.t 84), (.t 85)]), .g 82 false (some 87) (.mv 87 (.t 8)), .g 82 false (some 88) (.call (some 88) 18 [(.t 86), (.t 87)]), .g 82 false (some 89) (.bnot 89 (.t 88)), .s (.pick 90 (.t 82) (.k (.v (.c .tt))) (.t 89))]) (.cond (.t 90) (.seq (.reg [.s (.mv 2 (.k (.v (.c .ff))))]) (.ret)) (.skip)))))))) (.reg [.s (.mv 45 (.t 9)), .s (.bin 46 .add (.t 45) (.k (.v (.c (.int .i64 1))))), .s (.mv 9 (.t 46))]))
def pf_laws_FnNoMore : PF := ⟨[.t 2], .seq (.reg [.s (.mv 2 (.k (.v (.c .ff))))]) (.seq (.seq (.reg [.s (.mv 13 (.t 0)), .s (.call (some 14) 10 [(.t 13)])]) (.cond (.t 14) (.seq (.reg [.s (.mv 2 (.k (.v (.c .tt))))]) (.ret)) (.skip))) (.seq (.reg [.s (.mv 16 (.t 0)), .s (.call (some 17) 11 [(.t 16)]), .s (.mv 15 (.t 17)), .s (.ext 18 (.t 15) 0), .s (.ext 19 (.t 15) 1), .s (.alloc 4 [.nils .word, .int .i64 0, .ff, .int .i64 0, .int .i64 0, .int .i64 0, .int .i64 0, .nils .word, .nils .bool, .int .i64 0]), .s (.mv 3 (.t 18)), .s (.store 10 (.t 4) (.t 19))]) (.seq (.seq (.reg [.s (.load 20 true 10 (.t 4)), .s (.call (some 21) 12 [(.t 20)]), .s (.bnot 22 (.t 21))]) (.cond (.t 22) (.seq (.reg [.s (.mv 2 (.k (.v (.c .ff))))]) (.ret)) (.skip))) (.seq (.rgd [] [.s (.bs 23 .word []), .s (.fa 24 (.t 4) 0), .s (.load 25 false 1 (.t 24)), .s (.app 26 .word (.t 23) (.t 25)), .s (.fa 27 (.t 4) 1), .s (.load 28 true 6 (.t 27)), .s (.bs 29 .word [(.t 28)]), .s (.app 30 .word (.t 26) (.t 29)), .s (.mv 5 (.t 30))] (.tk 1 (.tk 2 (.tk 4 (.tk 5 (.alt 0 false (.alt 3 false (.one 6 false (.one 7 true (.tk 8 (.done (some [3, 4, 5]))))) (.alt 6 false (.one 3 false (.one 7 true (.tk 8 (.done (some [3, 4, 5]))))) (.nil))) (.alt 6 false (.one 0 false (.one 3 false (.one 7 true (.tk 8 (.done (some [3, 4, 5])))))) (.nil)))))))) (.seq (.reg [.s (.fa 31 (.t 4) 7), .s (.load 32 true 2 (.t 31)), .s (.mv 33 (.t 5)), .s (.call (some 34) 13 [(.t 32), (.t 33)]), .s (.mv 6 (.t 34))]) (.seq (.rgd [] [.s (.fa 35 (.t 4) 7), .s (.load 36 true 2 (.t 35)), .s (.mv 37 (.t 5)), .s (.call (some 38) 14 [(.t 36), (.t 37)]), .s (.fa 39 (.t 4) 7), .s (.load 40 true 2 (.t 39)), .s (.mv 41 (.t 5)), .s (.call (some 42) 15 [(.t 40), (.t 41)]), .s (.mv 7 (.t 38)), .s (.mv 8 (.t 42))] (.tk 0 (.tk 1 (.tk 2 (.tk 4 (.tk 5 (.tk 6 (.one 3 false (.one 7 true (.tk 8 (.tk 9 (.done none)))))))))))) (.seq (.seq (.reg [.s (.mv 9 (.k (.v (.c (.int .i64 0)))))]) (.blk 0 (.loop [3, 4, 6, 7, 8, 9] lb_laws_FnNoMore_1))) (.seq (.reg [.s (.mv 2 (.k (.v (.c .tt))))]) (.ret)))))))))⟩
def c_laws_FnNoMore : Fun := ⟨3, [], fun ts K => as1 ts fun t0 => arC (pL (.int .u8)) t0 fun code => chk (code.length ≤ 9223372036854775807) (K (tB true) [])⟩
theorem run_laws_FnNoMore (FU : Nat) (code : List (FT.Ty (.int .u8))) (hpre : code.length ≤ 9223372036854775807) : runK [c_laws_big, c_spec_DrawGoing, c_impl_StateOk, c_impl_Closure, c_impl_LoadCells, c_impl_StoreCells, c_impl_Step, c_impl_Unders, c_laws_allIn] (100 + FU) [] pf_laws_FnNoMore [tL false (.int .u8) code] fun r o => r = tB true ∧ o = [] := by
  conv => whnf
  refine sel_i (fun h => ?_) (fun h => ?_) <;> conv => whnf
  · exact ⟨rfl, rfl⟩
  have hc : code.length ≤ 1048576 := by simp at h; omega
  clear h
  refine chk_i hc ?_
  conv => whnf
  repeat' (first | (refine sel_i (fun h => ?_) (fun h => ?_) <;> conv => whnf) | (refine chk_c ?_ ?_ <;> conv => whnf) | (refine And.intro ?_ rfl) | (refine And.intro ?_ ?_ <;> conv => whnf) | (intro x y z d hd; (try have g1 := And.left hd); (try have g2 := And.right hd); (try have g3 := And.left (And.right hd)); (try have g4 := And.right (And.right hd)); conv => whnf) | (intro x y d hd; (try have g1 := And.left hd); (try have g2 := And.right hd); (try have g3 := And.left (And.right hd)); (try have g4 := And.right (And.right hd)); conv => whnf) | (intro x d hd; (try have g1 := And.left hd); (try have g2 := And.right hd); (try have g3 := And.left (And.right hd)); (try have g4 := And.right (And.right hd)); conv => whnf) | (intro d hd; (try have g1 := And.left hd); (try have g2 := And.right hd); (try have g3 := And.left (And.right hd)); (try have g4 := And.right (And.right hd)); conv => whnf))
  all_goals (try simp only [etaKey, etaWord, etaMemory, etaState, holdE] at *)
  all_goals first
    | rfl
    | trivial
    | (exact ⟨rfl, rfl⟩)
    | (refine ⟨?_⟩; exact (stateOk_len hd.2).l)
    | (exfalso; rw [hd.2] at h; simp at h; done)
    | (refine ⟨?_⟩; have hl := stateOk_len hd.2; have h1 := hl.1; have h2 := hl.2.1; have h3 := hl.2.2; first | (show _ ≤ _; simp [h1]; done) | (refine ⟨⟨?_, ?_⟩, ?_⟩ <;> first | omega | (simp [hold, h1]; done)))
    | skip
  have hs := hd.2
  have hC := inv_first hs
  clear h
  refine loop (α := Nat × State) (fun q => ⟨[(3, .v (.c (.sl false .inst 0))), (4, .v (.c (.ptr 1 0))), (6, .v (.c (.sl false .word 5))), (7, .v (.c (.sl false (.int .i64) 6))), (8, .v (.c (.sl false (.int .i64) 7))), (9, .v (.c (.int .i64 (q.1 : Int))))],
        [(7, some (.flat true (.int .i64) none (cellsBy d.mem (hold d) 2))), (6, some (.flat true (.int .i64) none (cellsBy d.mem (hold d) 1))), (5, some (.flat true .word none (closure d.mem (hold d)))),
          (4, some (.flat true .bool none q.2.mem.gone)), (3, some (.flat true .word none q.2.mem.words)), (2, some (.flat true .word none q.2.regs)), (1, some (.box true (stC q.2 2 3 4 []))), (0, some (.flat true .inst none x))], nums.tail.tail.tail.tail.tail.tail.tail.tail, [], false, []⟩)
      (fun q => q.1 ≤ 20 ∧ Inv (closure d.mem (hold d)) q.2) (fun q => 20 - q.1) (fun q R hI hR => ?_) (0, d) _ ⟨Nat.zero_le _, hC⟩ (by show 20 - 0 < 100 + FU; omega)
  obtain ⟨i, v⟩ := q
  obtain ⟨hi, hv⟩ := hI
  dsimp only at hi hv ⊢
  have hv2 := hv.step (l := x)
  have hl := stateOk_len hv.ok
  conv => whnf
  refine sel_i (fun h => ?_) (fun h => ?_)
  · have hi2 : i < 20 := by have h := of_decide_eq_true h; omega
    clear h
    conv => whnf
    refine chk_i ⟨by omega, hl.l⟩ ?_
    simp only [etaKey, etaWord, etaMemory, etaState]
    obtain ⟨u, hu⟩ : ∃ u, u = stepS x v := ⟨_, rfl⟩
    rw [← hu] at hv2 ⊢
    clear hu
    obtain ⟨m1, m2, m3⟩ := stateOk_len hv2.ok
    have hcl := closure_len u.mem (hold u)
    have hun := hv2.under
    have hcl2 := closure_len d.mem (hold d)
    have hl1 : (hold d).length = 9 := by simp [hold, (stateOk_len hs).1]
    have hl2 : (hold u).length = 9 := by simp [hold, m1]
    have hce1 : ∀ c ∈ cellsBy u.mem (hold u) 1, c ∈ cellsBy d.mem (hold d) 1 := fun c hc => cells_under hun hc
    have hce2 : ∀ c ∈ cellsBy u.mem (hold u) 2, c ∈ cellsBy d.mem (hold d) 2 := fun c hc => cells_under hun hc
    have hcn1 := cellsBy_le u.mem (hold u) 1
    have hcn2 := cellsBy_le u.mem (hold u) 2
    have hcm1 := cellsBy_le d.mem (hold d) 1
    have hcm2 := cellsBy_le d.mem (hold d) 2
    generalize closure d.mem (hold d) = C at *
    generalize cellsBy d.mem (hold d) 1 = C1 at *
    generalize cellsBy d.mem (hold d) 2 = C2 at *
    conv => whnf
    refine chk_i (by simp [m1]) ?_
    conv => whnf
    refine chk_i (by simp [m1]) ?_
    conv => whnf
    refine And.intro ?_ ?_
    · conv => whnf
      repeat' (first | (refine sel_i (fun h => ?_) (fun h => ?_) <;> conv => whnf) | (refine chk_c ?_ ?_ <;> conv => whnf) | (refine And.intro ?_ rfl) | (refine And.intro ?_ ?_ <;> conv => whnf))
      all_goals first | trivial | (refine ⟨?_⟩; simp [m1]; done)
    conv => whnf
    refine And.intro ?_ ?_
    · conv => whnf
      repeat' (first | (refine sel_i (fun h => ?_) (fun h => ?_) <;> conv => whnf) | (refine chk_c ?_ ?_ <;> conv => whnf) | (refine And.intro ?_ rfl) | (refine And.intro ?_ ?_ <;> conv => whnf))
      all_goals first | trivial | (refine ⟨?_⟩; simp [m1]; done)
    conv => whnf
    refine chk_i ⟨⟨by show u.mem.words.length ≤ _; omega, by show u.mem.gone.length ≤ _; omega⟩, by simp [m1]⟩ ?_
    simp only [etaKey, etaWord, etaMemory, etaState, holdE]
    generalize closure u.mem (hold u) = cu at hun hcl ⊢
    conv => whnf
    refine loop (α := Nat) (fun j => ⟨[(3, .v (.c (.sl false .inst 0))), (4, .v (.c (.ptr 1 0))), (6, .v (.c (.sl false .word 5))), (7, .v (.c (.sl false (.int .i64) 6))), (8, .v (.c (.sl false (.int .i64) 7))), (9, .v (.c (.int .i64 (i : Int)))),
          (10, .v (.c (.sl true .word 8))), (11, .v (.c (.sl false .word 9))), (12, .v (.c (.int .i64 (j : Int))))],
        [(9, some (.flat true .word none cu)), (8, some (.flat true .word none (hold u))), (7, some (.flat true (.int .i64) none C2)), (6, some (.flat true (.int .i64) none C1)), (5, some (.flat true .word none C)),
          (4, some (.flat true .bool none u.mem.gone)), (3, some (.flat true .word none u.mem.words)), (2, some (.flat true .word none u.regs)), (1, some (.box true (stC u 2 3 4 []))), (0, some (.flat true .inst none x))], nums.tail.tail.tail.tail.tail.tail.tail.tail.tail.tail, [], false, []⟩)
      (fun j => j ≤ cu.length) (fun j => cu.length - j) (fun j R2 hJ hR2 => ?_) 0 _ (Nat.zero_le _) (by show cu.length - 0 < 100 + FU; omega)
    conv => whnf
    refine sel_i (fun h => ?_) (fun h => ?_)
    · conv => whnf
      repeat' (first | (refine sel_i (fun h => ?_) (fun h => ?_) <;> conv => whnf) | (refine chk_c ?_ ?_ <;> conv => whnf) | (refine And.intro ?_ rfl) | (refine And.intro ?_ ?_ <;> conv => whnf))
      all_goals (try simp only [etaKey, etaWord, etaMemory, etaState, holdE, Int.toNat_natCast, Bool.not_eq_true', Bool.not_eq_false', decide_eq_true_eq, decide_eq_false_iff_not] at *)
      all_goals first
        | (refine ⟨?_⟩; exact ⟨by omega, by omega⟩)
        | (refine ⟨?_⟩; omega)
        | (exfalso; rw [und_in (hun _ (getD_mem (by omega)))] at h; cases h; done)
        | (rw [wrap_id (n := (j : Int) + 1) (by omega) (by omega)]; exact hR2 (j + 1) (by omega) (by omega))
        | trace_state
    clear hR2 hJ h
    conv => whnf
    refine chk_i ⟨⟨by show u.mem.words.length ≤ _; omega, by show u.mem.gone.length ≤ _; omega⟩, by show (hold u).length ≤ _; omega⟩ ?_
    simp only [etaKey, etaWord, etaMemory, etaState, holdE]
    have hal1 := all_in hce1
    have hal2 := all_in hce2
    clear hce1 hce2
    generalize cellsBy u.mem (hold u) 1 = c1 at *
    conv => whnf
    refine chk_i ⟨by omega, by omega⟩ ?_
    rw [hal1]
    conv => whnf
    refine sel_i (fun h => absurd h (by decide)) (fun h => ?_)
    clear h
    conv => whnf
    refine chk_i ⟨⟨by show u.mem.words.length ≤ _; omega, by show u.mem.gone.length ≤ _; omega⟩, by show (hold u).length ≤ _; omega⟩ ?_
    simp only [etaKey, etaWord, etaMemory, etaState, holdE]
    generalize cellsBy u.mem (hold u) 2 = c2 at *
    conv => whnf
    refine chk_i ⟨by omega, by omega⟩ ?_
    rw [hal2]
    conv => whnf
    repeat' (first | (refine sel_i (fun h => ?_) (fun h => ?_) <;> conv => whnf) | (refine chk_c ?_ ?_ <;> conv => whnf) | (refine And.intro ?_ rfl) | (refine And.intro ?_ ?_ <;> conv => whnf))
    all_goals (try simp only [etaKey, etaWord, etaMemory, etaState, holdE, Int.toNat_natCast, Bool.not_eq_true', Bool.not_eq_false', decide_eq_true_eq, decide_eq_false_iff_not] at *)
    all_goals first
      | rfl
      | trivial
      | (exfalso; exact absurd h (by decide))
      | (refine ⟨?_⟩; exact ⟨by omega, by omega⟩)
      | (refine ⟨?_⟩; omega)
      | (exfalso; rw [und_in (hun _ (getD_mem (by omega)))] at h; cases h; done)
      | (rw [wrap_id (n := (j : Int) + 1) (by omega) (by omega)]; exact hR2 (j + 1) (by omega) (by omega))
      | (refine ⟨?_⟩; exact ⟨⟨by omega, by omega⟩, by omega⟩)
      | (refine ⟨?_⟩; exact ⟨Nat.le_trans (cellsBy_le _ _ _) (by decide), Nat.le_trans (cellsBy_le _ _ _) (by decide)⟩)
      | (exfalso; rw [all_in hce1] at h; cases h; done)
      | (exfalso; rw [all_in hce2] at h; cases h; done)
      | (rw [wrap_id (n := (i : Int) + 1) (by omega) (by omega)]; exact hR (i + 1, u) ⟨hi2, hv2⟩ (by show 20 - (i + 1) < 20 - i; omega))
      | trace_state
  · conv => whnf
    exact ⟨rfl, rfl⟩
theorem ok_laws_FnNoMore : FunOk Tryz.prog c_laws_FnNoMore := funOk (E := [c_laws_big, c_spec_DrawGoing, c_impl_StateOk, c_impl_Closure, c_impl_LoadCells, c_impl_StoreCells, c_impl_Step, c_impl_Unders, c_laws_allIn]) (envOk_cons ok_laws_big (envOk_cons ok_spec_DrawGoing (envOk_cons ok_impl_StateOk (envOk_cons ok_impl_Closure (envOk_cons ok_impl_LoadCells (envOk_cons ok_impl_StoreCells (envOk_cons ok_impl_Step (envOk_cons ok_impl_Unders (envOk_cons ok_laws_allIn (envOk_nil)))))))))) mixd Tryz.func3 (pf := pf_laws_FnNoMore) (by kernel_rfl) fun ts K h => by
  obtain ⟨t0, e0, h⟩ := as1_out h
  subst e0
  obtain ⟨code, e1, hq⟩ := arC_out (rd_l (.int .u8)) h
  clear h
  subst e1
  have h := hq
  clear hq
  obtain ⟨hpre, h⟩ := chk_o h
  exact ⟨_, _, h, Nat.le_of_ble_eq_true (show Nat.ble 1 Tryz.f3.ntmps = true by kernel_rfl), _, run_laws_FnNoMore 0 code hpre⟩

end Go.Pi
namespace Go.Proofs.YtkiokbkbgjomeaaGreat
open Go.Pi
theorem fnNoMore_lifted (os : Os) (started : os.Started) (H : Type) (enc : TypeId × Value → H) :
    ReturnsInHanded {} Tryz.checked os 3 .any (Rows.fnNoMoreSpec.pre6 enc Tryz.prog Tryz.f3 Rows.fnNoMoreRow.domain false) (Rows.fnNoMoreSpec.post enc Tryz.prog Tryz.f3 false true false false) :=
  lifted (C := Tryz.checked) (E := [c_laws_big, c_spec_DrawGoing, c_impl_StateOk, c_impl_Closure, c_impl_LoadCells, c_impl_StoreCells, c_impl_Step, c_impl_Unders, c_laws_allIn]) (fuel := _) (pf := pf_laws_FnNoMore) (shs := [(false, [.sl (.int .u8)])]) (tb := 4) (by kernel_rfl) started (by kernel_rfl) Tryz.func3
    (ChangeSpec.witness6 (enc := enc) (C := Tryz.checked) false ⟨#[], #[.slice none 0 0], []⟩ 12 (by kernel_rfl) (by kernel_rfl) (by kernel_rfl) (by kernel_rfl))
    mixd (envOk_cons ok_laws_big (envOk_cons ok_spec_DrawGoing (envOk_cons ok_impl_StateOk (envOk_cons ok_impl_Closure (envOk_cons ok_impl_LoadCells (envOk_cons ok_impl_StoreCells (envOk_cons ok_impl_Step (envOk_cons ok_impl_Unders (envOk_cons ok_laws_allIn (envOk_nil)))))))))) (by kernel_rfl) (by kernel_rfl) (by kernel_rfl) rfl (by kernel_rfl) rfl
    (fun ds h => by
      obtain _ | ⟨d0, ds⟩ := ds
      · simp at h
      obtain _ | ⟨x, ds⟩ := ds
      · rfl
      · simp at h)
    (fun ain h0 => by
      obtain ⟨T0, ain0, e, k0, h1⟩ := areCons h0
      subst e
      have e := areNil h1
      subst e
      obtain ⟨code, e, w0⟩ := isL k0
      subst e
      exact run_laws_FnNoMore 0 code (w0.2))
theorem fnNoMore_over : Rows.fnNoMoreRow.holds Tryz.pinned (OpenSpec.ofChange Rows.fnNoMoreSpec) :=
  OpenClaim.holds_of_wide 3 Tryz.f3 rfl rfl rfl rfl rfl rfl rfl ⟨rfl, rfl, rfl, rfl, rfl⟩ rfl rfl rfl rfl rfl (by kernel_rfl) Tryz.func3 (by kernel_rfl)
    (of_decide_eq_true (by kernel_rfl)) (by unfold Func.isWrapper; first | (rw [if_pos (by decide +kernel)]; kernel_rfl) | (rw [if_neg (by decide +kernel)]; exact ⟨rfl, rfl⟩))
    (fun os started H enc _ => fnNoMore_lifted os started H enc)
theorem fnNoMore_holds : Rows.FnNoMoreSaid := fnNoMore_over
#print axioms fnNoMore_holds
end Go.Proofs.YtkiokbkbgjomeaaGreat
