/- Contracts of functions, each out of its run by PI. No conditions. -/
import Derived.Test.YthpjpaginggjaaaC3
namespace Go.Pi
open Go.Proofs
set_option linter.unusedVariables false
set_option linter.unusedSimpArgs false
set_option maxRecDepth 100000
attribute [local irreducible] iterN
theorem wipeAll_eq {A N : Nat} (hN : 1 ≤ N ∧ N ≤ 20) (hA : A + N ≤ 24) : wipeAll (A : Int) (N : Int) = (⟨1, 1, 0, 0, ((0 : Nat) : Int)⟩ : Inst) :: ((List.range N).map (fun j : Nat => (⟨11, 0, 0, ((1 : Nat) : Int), ((A + j : Nat) : Int)⟩ : Inst)) ++ [⟨15, 0, 0, 0, 0⟩]) := by
  have hr : room (A : Int) (N : Int) = true := by
    simp only [room, Bool.and_eq_true, inR_t]
    rw [show w64 (24 - (N : Int)) = 24 - (N : Int) from wrap_id (by omega) (by omega)]
    omega
  unfold wipeAll
  rw [if_pos hr]
  unfold wipeCode
  rw [Int.toNat_natCast, List.cons_append]
  congr 2
  refine List.map_congr_left fun j hj => ?_
  have hj := List.mem_range.1 hj
  rw [show w64 ((A : Int) + (j : Int)) = (A : Int) + j from wrap_id (by omega) (by omega)]
  rfl
theorem wipe_get {A N : Nat} (hN : 1 ≤ N ∧ N ≤ 20) (hA : A + N ≤ 24) {i : Nat} (hi : i < N) : (wipeAll (A : Int) (N : Int)).getD (1 + i) zI0 = ⟨11, 0, 0, ((1 : Nat) : Int), ((A + i : Nat) : Int)⟩ := by
  rw [wipeAll_eq hN hA, Nat.add_comm]
  refine getD_of ?_
  rw [List.getElem?_cons_succ, List.getElem?_append_left (by simpa using hi)]
  simp [hi]
theorem wipe_last {A N : Nat} (hN : 1 ≤ N ∧ N ≤ 20) (hA : A + N ≤ 24) : (wipeAll (A : Int) (N : Int)).getD (1 + N) zI0 = ⟨15, 0, 0, 0, 0⟩ := by
  rw [wipeAll_eq hN hA, Nat.add_comm]
  refine getD_of ?_
  rw [List.getElem?_cons_succ, List.getElem?_append_right (by simp)]
  simp
theorem wipe_len {A N : Nat} (hN : 1 ≤ N ∧ N ≤ 20) (hA : A + N ≤ 24) : (wipeAll (A : Int) (N : Int)).length = N + 2 := by
  rw [wipeAll_eq hN hA]; simp
theorem work_set (n : Int) (pc a b : Word) : workE ⟨1, 1, 0, 0, n⟩ pc a b zW = ⟨0, ((1 : Nat) : Int), plainW n, nextW pc, -1, zW, -1⟩ := rfl
theorem work_point (n : Int) (pc a b : Word) : workE ⟨6, 2, 0, 3, n⟩ pc a b zW = ⟨0, ((2 : Nat) : Int), pointW a (IntKind.i64.wrap (IntKind.i64.wrap (a.n + b.n) + n)), nextW pc, -1, zW, -1⟩ := rfl
theorem work_bound (pc a b : Word) : workE ⟨5, 3, 2, 1, 0⟩ pc a b zW = ⟨0, ((3 : Nat) : Int), narrowW a b.n, nextW pc, -1, zW, -1⟩ := rfl
theorem wipe_run {A N : Nat} (hN : 1 ≤ N ∧ N ≤ 20) (hA : A + N ≤ 24) {m : Mem} (hm : memoryOk m = true) : ∀ i : Nat, i ≤ N →
    ∃ r ws, (inGo (wipeAll (A : Int) (N : Int)) (1 + i) (runFrom m)).1 = ⟨r, pcW (1 + i), ⟨ws, m.gone⟩, 0⟩ ∧ r.getD 0 zW0 = rootW ∧ r.getD 1 zW0 = plainW 0 ∧
      ∀ c : Nat, c < 24 → ws.getD c zW0 = if A ≤ c ∧ c < A + i then plainW 0 else m.words.getD c zW0 := by
  intro i
  have hlen := wipe_len hN hA
  have h0 := runFrom_ok hm
  obtain ⟨z1, z2, z3⟩ := stateOk_len h0
  induction i with
  | zero =>
    intro _
    have q0 : (wipeAll (A : Int) (N : Int)).getD 0 zI0 = ⟨1, 1, 0, 0, ((0 : Nat) : Int)⟩ := by rw [wipeAll_eq hN hA]; rfl
    have s0 := step_made (r := 1) (l := wipeAll (A : Int) (N : Int)) h0 rfl (run_pc m) (by omega) (by omega) q0 (ins_01t (by omega)) rfl rfl (memE_x (show ¬ (1 : Int) = 10 by decide) (show ¬ (1 : Int) = 11 by decide)) (work_set _ _ _ _) (by omega)
    refine ⟨(runFrom m).regs.set 1 (plainW 0), m.words, ?_, ?_, ?_, fun c _ => by rw [if_neg (by omega)]⟩
    · show (inGo (wipeAll (A : Int) (N : Int)) 1 ⟨stateNew.regs, stateNew.pc, m, 0⟩).1 = _
      rw [inGo_one]; exact s0
    · rw [set_getD (by omega), if_neg (by omega)]; exact run_regs m
    · rw [set_getD (by omega), if_pos rfl]
  | succ i ih =>
    intro hi
    obtain ⟨r, ws, e, hr, hr1, hw⟩ := ih (by omega)
    have hok : stateOk (⟨r, pcW (1 + i), ⟨ws, m.gone⟩, 0⟩ : State) = true := by rw [← e]; exact inGo_ok h0
    obtain ⟨n1, n2, n3⟩ := stateOk_len hok
    dsimp only at n1 n2 n3
    have s2 := step_store (r := 1) hok rfl rfl (by omega) (by omega) (wipe_get hN hA (show i < N by omega)) (by omega) (by omega) hr hr1
    dsimp only at s2
    refine ⟨r, ws.set (A + i) (plainW 0), ?_, hr, hr1, fun c hc => ?_⟩
    · rw [show 1 + (i + 1) = (1 + i) + 1 by omega, inGo_add, e, inGo_one, s2]
    · rw [set_getD (by omega)]
      by_cases h1 : c = A + i
      · rw [if_pos h1, if_pos (by omega)]
      · rw [if_neg h1, hw _ hc]
        by_cases h2 : A ≤ c ∧ c < A + i
        · rw [if_pos h2, if_pos (by omega)]
        · rw [if_neg h2, if_neg (by omega)]
theorem wipe_end {A N : Nat} (hN : 1 ≤ N ∧ N ≤ 20) (hA : A + N ≤ 24) {m : Mem} (hm : memoryOk m = true) :
      ∀ c : Nat, c < 24 → (inOrder (wipeAll (A : Int) (N : Int)) (runFrom m) 100).1.mem.words.getD c zW0 = if A ≤ c ∧ c < A + N then plainW 0 else m.words.getD c zW0 := by
  obtain ⟨r, ws, e, hr, hr1, hw⟩ := wipe_run hN hA hm N (Nat.le_refl _)
  have hok : stateOk (⟨r, pcW (1 + N), ⟨ws, m.gone⟩, 0⟩ : State) = true := by rw [← e]; exact inGo_ok (runFrom_ok hm)
  have s1 := step_halt hok rfl rfl (by omega) (by rw [wipe_len hN hA]; omega) (wipe_last hN hA)
  dsimp only at s1
  rw [inOrder_100 (runFrom_ok hm), show 100 = (1 + N) + (1 + (100 - (1 + N) - 1)) by omega, inGo_add, e, inGo_add, inGo_one, s1, inGo_stop]
  exact hw
theorem wide_low : ∀ b t : Fin 25, b ≤ t → wide (b.val : Int) (t.val : Int) = ((b.val : Int), (t.val : Int)) := by decide +kernel
theorem mark_end {A N : Nat} (hN : 1 ≤ N ∧ N ≤ 20) (hA : A + N ≤ 24) {m : Mem} (hm : memoryOk m = true) :
    (inOrder (markCode (A : Int) (N : Int)) (runFrom m) 100).1.trap = 5 ∧ (inOrder (markCode (A : Int) (N : Int)) (runFrom m) 100).1.mem.words.getD A zW0 = ⟨(A : Int), true, ⟨(A : Int), ((A + N : Nat) : Int), 59, 0⟩⟩ := by
  have hr : room (A : Int) (N : Int) = true := by
    simp only [room, Bool.and_eq_true, inR_t]
    rw [show w64 (24 - (N : Int)) = 24 - (N : Int) from wrap_id (by omega) (by omega)]
    omega
  have hL : markCode (A : Int) (N : Int) = [⟨1, 1, 0, 0, (N : Int)⟩, ⟨6, 2, 0, 3, (A : Int)⟩, ⟨5, 3, 2, 1, 0⟩, ⟨11, 0, 0, ((3 : Nat) : Int), (A : Int)⟩, ⟨15, 0, 0, 0, 0⟩] := by
    unfold markCode; rw [if_pos hr]; rfl
  rw [hL]
  obtain ⟨L, hl⟩ : ∃ L : List Inst, L = [⟨1, 1, 0, 0, (N : Int)⟩, ⟨6, 2, 0, 3, (A : Int)⟩, ⟨5, 3, 2, 1, 0⟩, ⟨11, 0, 0, ((3 : Nat) : Int), (A : Int)⟩, ⟨15, 0, 0, 0, 0⟩] := ⟨_, rfl⟩
  rw [← hl]
  have hlen : L.length = 5 := by rw [hl]; rfl
  have g0 : L.getD 0 zI0 = ⟨1, 1, 0, 0, (N : Int)⟩ := by rw [hl]; rfl
  have g1 : L.getD 1 zI0 = ⟨6, 2, 0, 3, (A : Int)⟩ := by rw [hl]; rfl
  have g2 : L.getD 2 zI0 = ⟨5, 3, 2, 1, 0⟩ := by rw [hl]; rfl
  have g3 : L.getD 3 zI0 = ⟨11, 0, 0, ((3 : Nat) : Int), (A : Int)⟩ := by rw [hl]; rfl
  have g4 : L.getD 4 zI0 = ⟨15, 0, 0, 0, 0⟩ := by rw [hl]; rfl
  have ok0 := runFrom_ok hm
  have n0 := (stateOk_len ok0).1
  have r00 := run_regs m
  have r03 : (runFrom m).regs.getD 3 zW0 = zW0 := by
    show stateNew.regs.getD 3 zW0 = zW0
    decide +kernel
  have t0 : (runFrom m).trap = 0 := rfl
  have p0 := run_pc m
  have s0 := step_made (r := 1) (l := L) ok0 t0 p0 (by omega) (by omega) g0 (ins_01t (by omega)) rfl rfl (memE_x (show ¬ (1 : Int) = 10 by decide) (show ¬ (1 : Int) = 11 by decide)) (work_set _ _ _ _) (by omega)
  have e0 : (inGo L 100 (runFrom m)).1 = (inGo L 99 (stepS L (runFrom m))).1 := by
    rw [show 100 = 1 + 99 from rfl, inGo_add]
    exact congrArg (fun x => (inGo L 99 x).1) (inGo_one (l := L) (r := stateNew.regs) (p := stateNew.pc) (m := m))
  have ok1 := stepS_ok (l := L) ok0
  rw [inOrder_100 ok0, e0]
  rw [s0] at ok1 ⊢
  have nN : plainW (N : Int) = ⟨(N : Int), false, ⟨0, 0, 0, 0⟩⟩ := by unfold plainW; rw [and65_id ⟨by omega, by omega⟩]
  rw [nN] at ok1 ⊢
  obtain ⟨R1, hR1⟩ : ∃ R1, R1 = (runFrom m).regs.set 1 ⟨(N : Int), false, ⟨0, 0, 0, 0⟩⟩ := ⟨_, rfl⟩
  have r10 : R1.getD 0 zW0 = rootW := by rw [hR1, set_getD (by omega), if_neg (by omega)]; exact r00
  have r11 : R1.getD 1 zW0 = ⟨(N : Int), false, ⟨0, 0, 0, 0⟩⟩ := by rw [hR1, set_getD (by omega), if_pos rfl]
  have r13 : R1.getD 3 zW0 = zW0 := by rw [hR1, set_getD (by omega), if_neg (by omega)]; exact r03
  have n1 : R1.length = 8 := by rw [hR1, List.length_set]; exact n0
  rw [← hR1] at ok1 ⊢
  have s1 := step_made (r := 2) (l := L) ok1 rfl rfl (by omega) (by omega) g1 (ins_06t (by omega)) r10 r13 (memE_x (show ¬ (6 : Int) = 10 by decide) (show ¬ (6 : Int) = 11 by decide)) (work_point _ _ _ _) (by omega)
  have hpt : pointW rootW (IntKind.i64.wrap (IntKind.i64.wrap (rootW.n + zW0.n) + (A : Int))) = ⟨(A : Int), true, ⟨0, 24, 59, 0⟩⟩ := by
    rw [show IntKind.i64.wrap (rootW.n + zW0.n) = 0 by decide +kernel, Int.zero_add, wrap_id (by omega) (by omega)]
    unfold pointW
    rw [if_pos (openW_iff.2 ⟨rootW_ok, rfl, rfl⟩), and65_id ⟨by omega, by omega⟩]
    rfl
  rw [hpt] at s1
  have ok2 := stepS_ok (l := L) ok1
  rw [show 99 = 1 + 98 from rfl, inGo_add, inGo_one]
  rw [s1] at ok2 ⊢
  dsimp only at ok2 ⊢
  obtain ⟨R2, hR2⟩ : ∃ R2, R2 = R1.set 2 ⟨(A : Int), true, ⟨0, 24, 59, 0⟩⟩ := ⟨_, rfl⟩
  have r20 : R2.getD 0 zW0 = rootW := by rw [hR2, set_getD (by omega), if_neg (by omega)]; exact r10
  have r21 : R2.getD 1 zW0 = ⟨(N : Int), false, ⟨0, 0, 0, 0⟩⟩ := by rw [hR2, set_getD (by omega), if_neg (by omega)]; exact r11
  have r22 : R2.getD 2 zW0 = ⟨(A : Int), true, ⟨0, 24, 59, 0⟩⟩ := by rw [hR2, set_getD (by omega), if_pos rfl]
  have n2 : R2.length = 8 := by rw [hR2, List.length_set]; exact n1
  rw [← hR2] at ok2 ⊢
  have s2 := step_made (r := 3) (l := L) ok2 rfl rfl (by omega) (by omega) g2 ins_05 r22 r21 (memE_x (show ¬ (5 : Int) = 10 by decide) (show ¬ (5 : Int) = 11 by decide)) (work_bound _ _ _) (by omega)
  have hnr : narrowW ⟨(A : Int), true, ⟨0, 24, 59, 0⟩⟩ (N : Int) = ⟨(A : Int), true, ⟨(A : Int), ((A + N : Nat) : Int), 59, 0⟩⟩ := by
    have hw := wide_low ⟨A, by omega⟩ ⟨A + N, by omega⟩ (by show A ≤ A + N; omega)
    dsimp only at hw
    have e : IntKind.i64.wrap ((A : Int) + (N : Int)) = ((A + N : Nat) : Int) := by rw [wrap_id (by omega) (by omega)]; rfl
    rw [narrow_yes ⟨openW_iff.2 ⟨wordOk_mk ⟨by omega, by omega⟩ (by decide +kernel), rfl, rfl⟩, ⟨by omega, by omega⟩, by
      show boundsOk (A : Int) (IntKind.i64.wrap ((A : Int) + (N : Int))) = true
      rw [e]; simp [boundsOk]; omega⟩]
    dsimp only
    rw [e, hw, if_neg (by dsimp only; omega)]
  rw [show (⟨(N : Int), false, ⟨0, 0, 0, 0⟩⟩ : Word).n = (N : Int) from rfl, hnr] at s2
  have ok3 := stepS_ok (l := L) ok2
  rw [show 98 = 1 + 97 from rfl, inGo_add, inGo_one]
  rw [s2] at ok3 ⊢
  dsimp only at ok3 ⊢
  obtain ⟨R3, hR3⟩ : ∃ R3, R3 = R2.set 3 ⟨(A : Int), true, ⟨(A : Int), ((A + N : Nat) : Int), 59, 0⟩⟩ := ⟨_, rfl⟩
  have r30 : R3.getD 0 zW0 = rootW := by rw [hR3, set_getD (by omega), if_neg (by omega)]; exact r20
  have r33 : R3.getD 3 zW0 = ⟨(A : Int), true, ⟨(A : Int), ((A + N : Nat) : Int), 59, 0⟩⟩ := by rw [hR3, set_getD (by omega), if_pos rfl]
  rw [← hR3] at ok3 ⊢
  have s3 := step_store (r := 3) (l := L) ok3 rfl rfl (by omega) (by omega) g3 (by omega) (by omega) r30 r33
  have ok4 := stepS_ok (l := L) ok3
  rw [show 97 = 1 + 96 from rfl, inGo_add, inGo_one]
  rw [s3] at ok4 ⊢
  dsimp only at ok4 ⊢
  have s4 := step_halt (l := L) ok4 rfl rfl (by omega) (by omega) g4
  rw [show 96 = 1 + 95 from rfl, inGo_add, inGo_one, s4, inGo_stop]
  have hml := (stateOk_len ok3).2.1
  refine ⟨rfl, ?_⟩
  dsimp only at hml ⊢
  rw [set_getD (by omega), if_pos rfl]

theorem runE (d : Mem) : (⟨stateNew.regs, stateNew.pc, d, stateNew.trap⟩ : State) = runFrom d := rfl
theorem mark_facts {y p : Int} (h : room y p = true) (m : Mem) (hm : memoryOk m = true) : (inOrder (markCode y p) ⟨stateNew.regs, stateNew.pc, m, stateNew.trap⟩ 100).1.trap = 5 ∧
    (inOrder (markCode y p) ⟨stateNew.regs, stateNew.pc, m, stateNew.trap⟩ 100).1.mem.words.getD y.toNat (FT.zero .word) = ⟨y, true, ⟨y, IntKind.i64.wrap (y + p), 59, 0⟩⟩ ∧ 0 ≤ y ∧ y < 24 ∧
    (inOrder (markCode y p) ⟨stateNew.regs, stateNew.pc, m, stateNew.trap⟩ 100).1.mem.words.length = 24 := by
  obtain ⟨A, N, rfl, rfl, hN1, hN2, hA⟩ := room_nat h
  obtain ⟨e1, e2⟩ := mark_end ⟨hN1, hN2⟩ hA hm
  have hok := inOrder_ok (l := markCode (A : Int) (N : Int)) (n := 100) (runFrom_ok hm)
  rw [runE, show IntKind.i64.wrap ((A : Int) + (N : Int)) = ((A + N : Nat) : Int) by rw [wrap_id (by omega) (by omega)]; rfl]
  exact ⟨e1, e2, by omega, by omega, (stateOk_len hok).2.1⟩
end Go.Pi
