/- Contracts of functions, each out of its run by PI. No conditions. -/
import Derived.Test.YthpjpaginggjaaaC3
namespace Go.Pi
open Go.Proofs
set_option linter.unusedVariables false
set_option linter.unusedSimpArgs false
set_option maxRecDepth 100000
attribute [local irreducible] iterN
/-! what the small programs do -/
abbrev zI0 : Inst := FT.zero .inst
abbrev zW0 : Word := FT.zero .word
def pcW (k : Nat) : Word := ⟨(k : Int), true, ⟨0, 48, 4, 0⟩⟩
def rootW : Word := ⟨0, true, ⟨0, 24, 59, 0⟩⟩
theorem and65_id {n : Int} (h : 0 ≤ n ∧ n ≤ 65535) : andI n 65535 = n := by
  obtain ⟨m, rfl⟩ := Int.eq_ofNat_of_zero_le h.1
  have := andI_nat (m := m) (n := 65535) (by decide)
  rw [show (65535 : Int) = ((65535 : Nat) : Int) from rfl, this, Nat.mod_eq_of_lt (by omega), show (65535 : Nat) = 2 ^ 16 - 1 from rfl, Nat.and_two_pow_sub_one_eq_mod, Nat.mod_eq_of_lt (by omega)]
theorem tryW_yes {w : Word} {n p : Int} (h1 : wordOk w = true) (h2 : w.is = true) (h3 : w.key.sealed = 0) (h4 : andI w.key.perms p = p) (h5 : w.key.base ≤ n) (h6 : n < w.key.top) : tryW w n p = 0 := by
  unfold tryW
  rw [if_neg (by rw [h1, h2]; simp), if_neg (by simpa using h3), if_neg (by simpa using h4), if_neg (by omega)]
theorem pcK_ok : keyOk ⟨0, 48, 4, 0⟩ = true := by decide +kernel
theorem rootW_ok : wordOk rootW = true := by decide +kernel
theorem pc_ok {k : Nat} (h : k ≤ 65535) : wordOk (pcW k) = true := wordOk_mk ⟨by omega, by omega⟩ pcK_ok
theorem next_pc {k : Nat} (h : k + 1 ≤ 65535) : nextW (pcW k) = pcW (k + 1) := by
  unfold nextW pointW
  rw [if_pos (openW_iff.2 ⟨pc_ok (by omega), rfl, rfl⟩)]
  have e : IntKind.i64.wrap ((pcW k).n + 1) = ((k + 1 : Nat) : Int) := by
    show IntKind.i64.wrap ((k : Int) + 1) = _
    rw [wrap_id (by omega) (by omega)]; rfl
  rw [e, and65_id ⟨by omega, by omega⟩]
  rfl
theorem and44 : andI 4 4 = 4 := by decide +kernel
theorem try_pc {k : Nat} (h : k < 48) : tryW (pcW k) (pcW k).n 4 = 0 :=
  tryW_yes (pc_ok (by omega)) rfl rfl and44 (by show (0 : Int) ≤ (k : Int); omega) (by show (k : Int) < 48; omega)
theorem fetch_pc {l : List Inst} {k : Nat} (h1 : k < 48) (h2 : k < l.length) (h3 : insOk (l.getD k zI0) = true) : fetchI l (pcW k) = (l.getD k zI0, 0) :=
  fetchI_0 (l := l) (pc := pcW k) (try_pc h1) ⟨by show (0 : Int) ≤ (k : Int); omega, by show (k : Int) ≤ (l.length : Int) - 1; omega⟩ h3
theorem eff_pc {l : List Inst} {s : State} {k : Nat} {x : Inst} {a b got : Word} (h1 : k < 48) (h2 : k < l.length) (hp : s.pc = pcW k) (hx : l.getD k zI0 = x) (hi : insOk x = true)
    (ha : s.regs.getD x.a.toNat zW0 = a) (hb : s.regs.getD x.b.toNat zW0 = b) (hm : memE s.mem x a b = (got, 0)) : effE l s = workE x (pcW k) a b got := by
  have hf := fetch_pc h1 h2 (by rw [hx]; exact hi)
  rw [hx] at hf
  unfold effE
  simp only [hp, hf]
  rw [ha, hb, hm]
  rfl
theorem root_try {c : Nat} (hc : c < 24) {p : Int} (hp : andI 59 p = p) : tryW rootW (c : Int) p = 0 :=
  tryW_yes rootW_ok rfl rfl hp (by show (0 : Int) ≤ (c : Int); omega) (by show (c : Int) < 24; omega)
theorem root_taken (w : Word) : takenW rootW w = w := if_neg (by decide +kernel)
theorem root_put (w : Word) : mayPut rootW w = true := by unfold mayPut; rw [show (andI rootW.key.perms 16 != 0) = true by decide +kernel, Bool.or_true]
theorem w0c {c : Nat} (hc : c < 24) : IntKind.i64.wrap (rootW.n + (c : Int)) = (c : Int) := by
  show IntKind.i64.wrap (0 + (c : Int)) = _
  rw [Int.zero_add, wrap_id (by omega) (by omega)]
theorem insOk_mk {x : Inst} (h1 : (inR x.op 1 15 && fld x.r (andI (maskI x.op) 1 != 0) && fld x.a (andI (maskI x.op) 2 != 0) && fld x.b (andI (maskI x.op) 4 != 0)) = true) (h2 : inR x.n (-128) 127 = true) (h3 : (andI (maskI x.op) 8 != 0 || x.n == 0) = true) : insOk x = true := by
  unfold insOk; rw [h1, h2, h3]; rfl
theorem or_left' {a b : Bool} (h : a = true) : (a || b) = true := by rw [h]; rfl
theorem ins_15 : insOk ⟨15, 0, 0, 0, 0⟩ = true := by decide +kernel
theorem ins_10t {c : Nat} (hc : c < 24) : insOk ⟨10, 1, 0, 0, (c : Int)⟩ = true :=
  insOk_mk (show (inR 10 1 15 && fld 1 (andI (maskI 10) 1 != 0) && fld 0 (andI (maskI 10) 2 != 0) && fld 0 (andI (maskI 10) 4 != 0)) = true by decide +kernel) (inR_t.2 (show (-128 : Int) ≤ (c : Int) ∧ (c : Int) ≤ 127 by omega)) (or_left' (show (andI (maskI 10) 8 != 0) = true by decide +kernel))
theorem fldN {r : Nat} (hr : r ≤ 7) : fld (r : Int) true = true := by unfold fld; rw [inR_t.2 ⟨by omega, by omega⟩]; rfl
theorem ins_11t {c r : Nat} (hc : c < 24) (hr : r ≤ 7) : insOk ⟨11, 0, 0, (r : Int), (c : Int)⟩ = true :=
  insOk_mk (by
    show (inR 11 1 15 && fld 0 (andI (maskI 11) 1 != 0) && fld 0 (andI (maskI 11) 2 != 0) && fld (r : Int) (andI (maskI 11) 4 != 0)) = true
    rw [show (inR 11 1 15 && fld 0 (andI (maskI 11) 1 != 0) && fld 0 (andI (maskI 11) 2 != 0)) = true by decide +kernel, show (andI (maskI 11) 4 != 0) = true by decide +kernel, fldN hr]; rfl) (inR_t.2 (show (-128 : Int) ≤ (c : Int) ∧ (c : Int) ≤ 127 by omega)) (or_left' (show (andI (maskI 11) 8 != 0) = true by decide +kernel))
theorem and59_1 : andI 59 1 = 1 := by decide +kernel
theorem and59_2 : andI 59 2 = 2 := by decide +kernel
theorem step_eff {l : List Inst} {s : State} {e : Eff} (hs : stateOk s = true) (ht : s.trap = 0) (he : effE l s = e) (h0 : e.trap = 0) : stepS l s = putE s e := by
  rw [stepS_0 hs ht (by rw [he]; exact h0), he]
theorem step_load {l : List Inst} {s : State} {k c : Nat} (hs : stateOk s = true) (ht : s.trap = 0) (hp : s.pc = pcW k) (h1 : k < 48) (h2 : k < l.length) (hx : l.getD k zI0 = ⟨10, 1, 0, 0, (c : Int)⟩) (hc : c < 24)
    (hr : s.regs.getD 0 zW0 = rootW) : stepS l s = ⟨s.regs.set 1 (filterW s.mem.gone (s.mem.words.getD c zW0)), pcW (k + 1), s.mem, 0⟩ := by
  have hl := (stateOk_len hs).2.1
  have hm : memE s.mem ⟨10, 1, 0, 0, (c : Int)⟩ rootW rootW = (filterW s.mem.gone (s.mem.words.getD c zW0), 0) := by
    rw [memE_10 rfl, show IntKind.i64.wrap (rootW.n + (⟨10, 1, 0, 0, (c : Int)⟩ : Inst).n) = (c : Int) from w0c hc, readM_0 (root_try hc and59_1) ⟨by omega, by omega⟩, root_taken]
    rfl
  have he := eff_pc h1 h2 hp hx (ins_10t hc) hr hr hm
  rw [step_eff hs ht he rfl, show workE ⟨10, 1, 0, 0, (c : Int)⟩ (pcW k) rootW rootW (filterW s.mem.gone (s.mem.words.getD c zW0)) = ⟨0, 1, filterW s.mem.gone (s.mem.words.getD c zW0), nextW (pcW k), -1, zW, -1⟩ from rfl, next_pc (by omega)]
  show (⟨s.regs.set 1 _, _, _, s.trap⟩ : State) = _
  rw [ht]
  rfl
theorem step_store {l : List Inst} {s : State} {k c r : Nat} {w : Word} (hs : stateOk s = true) (ht : s.trap = 0) (hp : s.pc = pcW k) (h1 : k < 48) (h2 : k < l.length) (hx : l.getD k zI0 = ⟨11, 0, 0, (r : Int), (c : Int)⟩) (hc : c < 24) (hr7 : r ≤ 7)
    (hr : s.regs.getD 0 zW0 = rootW) (hw : s.regs.getD r zW0 = w) : stepS l s = ⟨s.regs, pcW (k + 1), ⟨s.mem.words.set c w, s.mem.gone⟩, 0⟩ := by
  have hl := (stateOk_len hs).2.1
  have hm : memE s.mem ⟨11, 0, 0, (r : Int), (c : Int)⟩ rootW w = (zW, 0) := by
    rw [memE_11 (show ¬ (11 : Int) = 10 by decide) rfl, show IntKind.i64.wrap (rootW.n + (⟨11, 0, 0, (r : Int), (c : Int)⟩ : Inst).n) = (c : Int) from w0c hc, writeC_0 (root_try hc and59_2) ⟨by omega, by omega⟩ (root_put _)]
  have he := eff_pc h1 h2 hp hx (ins_11t hc hr7) hr hw hm
  have hwk : workE ⟨11, 0, 0, (r : Int), (c : Int)⟩ (pcW k) rootW w zW = ⟨0, -1, zW, nextW (pcW k), (c : Int), w, -1⟩ := by
    show (⟨0, -1, zW, nextW (pcW k), IntKind.i64.wrap (rootW.n + (c : Int)), w, -1⟩ : Eff) = _
    rw [w0c hc]
  rw [step_eff hs ht he rfl, hwk, next_pc (by omega)]
  show (⟨s.regs, pcW (k + 1), ⟨if inR (c : Int) 0 23 then s.mem.words.set c w else s.mem.words, s.mem.gone⟩, s.trap⟩ : State) = _
  rw [inR_t.2 ⟨by omega, by omega⟩, ht]
  rfl
theorem step_halt {l : List Inst} {s : State} {k : Nat} (hs : stateOk s = true) (ht : s.trap = 0) (hp : s.pc = pcW k) (h1 : k < 48) (h2 : k < l.length) (hx : l.getD k zI0 = ⟨15, 0, 0, 0, 0⟩) : stepS l s = ⟨s.regs, s.pc, s.mem, 5⟩ := by
  have hm : memE s.mem ⟨15, 0, 0, 0, 0⟩ (s.regs.getD 0 zW0) (s.regs.getD 0 zW0) = (zW, 0) := memE_x (show ¬ (15 : Int) = 10 by decide) (show ¬ (15 : Int) = 11 by decide)
  have he : effE l s = workE ⟨15, 0, 0, 0, 0⟩ (pcW k) (s.regs.getD 0 zW0) (s.regs.getD 0 zW0) zW := eff_pc h1 h2 hp hx ins_15 rfl rfl hm
  have hwk : workE ⟨15, 0, 0, 0, 0⟩ (pcW k) (s.regs.getD 0 zW0) (s.regs.getD 0 zW0) zW = trapE 5 (pcW k) := rfl
  rw [stepS_e hs ht (by rw [he, hwk]; exact (by decide : ¬ (5 : Int) = 0)), he, hwk]
  rfl
theorem inGo_one {l : List Inst} {r : List Word} {p : Word} {m : Mem} : (inGo l 1 ⟨r, p, m, 0⟩).1 = stepS l ⟨r, p, m, 0⟩ := by
  unfold inGo; rw [if_pos rfl]; rfl
theorem inGo_stop {l : List Inst} {r : List Word} {p : Word} {m : Mem} : ∀ k : Nat, (inGo l k ⟨r, p, m, 5⟩).1 = ⟨r, p, m, 5⟩
  | 0 => rfl
  | k + 1 => by unfold inGo; rw [if_neg (show ¬ (5 : Int) = 0 by decide)]
theorem pairs_get {α : Type} {f g : Nat → α} : ∀ {m i : Nat}, i < m → ((List.range m).flatMap (fun j => [f j, g j]))[2 * i]? = some (f i) ∧ ((List.range m).flatMap (fun j => [f j, g j]))[2 * i + 1]? = some (g i)
  | 0, _, h => absurd h (by omega)
  | m + 1, i, h => by
    have hl : ∀ m : Nat, ((List.range m).flatMap (fun j => [f j, g j])).length = 2 * m := fun m => by
      induction m with
      | zero => rfl
      | succ m ih => rw [List.range_succ, List.flatMap_append, List.length_append, ih]; simp; omega
    rw [List.range_succ, List.flatMap_append]
    by_cases h2 : i < m
    · obtain ⟨g1, g2⟩ := pairs_get (f := f) (g := g) h2
      exact ⟨by rw [List.getElem?_append_left (by rw [hl]; omega)]; exact g1, by rw [List.getElem?_append_left (by rw [hl]; omega)]; exact g2⟩
    · have e : i = m := by omega
      subst e
      exact ⟨by rw [List.getElem?_append_right (by rw [hl]; omega), hl, Nat.sub_self]; rfl, by rw [List.getElem?_append_right (by rw [hl]; omega), hl, Nat.add_sub_cancel_left]; rfl⟩
theorem room_nat {a n : Int} (h : room a n = true) : ∃ A N : Nat, a = (A : Int) ∧ n = (N : Int) ∧ 1 ≤ N ∧ N ≤ 20 ∧ A + N ≤ 24 := by
  have hn := room_n h
  simp only [room, Bool.and_eq_true, inR_t] at h
  have h2 := h.2
  rw [show w64 (24 - n) = 24 - n from wrap_id (by omega) (by omega)] at h2
  exact ⟨a.toNat, n.toNat, by omega, by omega, by omega, by omega, by omega⟩
theorem getD_of {α : Type} {l : List α} {i : Nat} {x z : α} (h : l[i]? = some x) : l.getD i z = x := by rw [List.getD_eq_getElem?_getD, h]; rfl
theorem copyAll_eq {A B N : Nat} (hN : 1 ≤ N ∧ N ≤ 20) (hA : A + N ≤ 24) (hB : B + N ≤ 24) : copyAll (A : Int) (B : Int) (N : Int) = (List.range N).flatMap (fun j : Nat => ([⟨10, 1, 0, 0, ((A + j : Nat) : Int)⟩, ⟨11, 0, 0, 1, ((B + j : Nat) : Int)⟩] : List Inst)) ++ [⟨15, 0, 0, 0, 0⟩] := by
  have hr : ∀ {C : Nat}, C + N ≤ 24 → room (C : Int) (N : Int) = true := fun {C} hC => by
    simp only [room, Bool.and_eq_true, inR_t]
    rw [show w64 (24 - (N : Int)) = 24 - (N : Int) from wrap_id (by omega) (by omega)]
    omega
  unfold copyAll
  rw [if_pos (by rw [hr hA, hr hB]; rfl)]
  congr 1
  unfold copyCode
  rw [Int.toNat_natCast]
  have hw : ∀ {C j : Nat}, C + N ≤ 24 → j < N → w64 ((C : Int) + (j : Int)) = ((C + j : Nat) : Int) := fun {C j} hC hj => by
    rw [show w64 ((C : Int) + (j : Int)) = (C : Int) + j from wrap_id (by omega) (by omega)]; rfl
  rw [List.flatMap_def, List.flatMap_def]
  refine congrArg List.flatten (List.map_congr_left fun j hj => ?_)
  have hj := List.mem_range.1 hj
  rw [hw hA hj, hw hB hj]
theorem copyAll_ok {A B N : Nat} (hN : 1 ≤ N ∧ N ≤ 20) (hA : A + N ≤ 24) (hB : B + N ≤ 24) : codeOk (copyAll (A : Int) (B : Int) (N : Int)) = true := by
  have hl := copyAll_le (A : Int) (B : Int) (N : Int)
  unfold codeOk
  rw [Bool.and_eq_true, inR_t, List.all_eq_true]
  rw [copyAll_eq hN hA hB] at hl ⊢
  refine ⟨⟨by rw [List.length_append, List.length_singleton]; omega, by omega⟩, fun x hx => ?_⟩
  rcases List.mem_append.1 hx with hx | hx
  · obtain ⟨j, hj, hx⟩ := List.mem_flatMap.1 hx
    have hj := List.mem_range.1 hj
    simp only [List.mem_cons, List.not_mem_nil, or_false] at hx
    rcases hx with rfl | rfl
    · exact ins_10t (by omega)
    · exact ins_11t (r := 1) (by omega) (by omega)
  · rw [List.mem_singleton.1 hx]; exact ins_15
def runFrom (m : Mem) : State := ⟨stateNew.regs, stateNew.pc, m, 0⟩
theorem runFrom_ok {m : Mem} (h : memoryOk m = true) : stateOk (runFrom m) = true := by
  obtain ⟨r1, r2, r3, r4, r5, r6⟩ := stateOk_iff.1 stateNew_ok
  exact stateOk_iff.2 ⟨r1, r2, r3, h, (show (0 : Int) ≤ 0 by decide), (show (0 : Int) ≤ 5 by decide)⟩
theorem run_regs (m : Mem) : (runFrom m).regs.getD 0 zW0 = rootW := by
  show stateNew.regs.getD 0 zW0 = rootW
  decide +kernel
theorem run_pc (m : Mem) : (runFrom m).pc = pcW 0 := by
  show stateNew.pc = pcW 0
  decide +kernel
theorem inOrder_100 {l : List Inst} {s : State} (h : stateOk s = true) : (inOrder l s 100).1 = (inGo l 100 s).1 := by
  unfold inOrder; rw [if_neg (by rw [h]; decide)]; rfl
theorem set_getD {ws : List Word} {c d : Nat} {w : Word} (h : d < ws.length) : (ws.set c w).getD d zW0 = if d = c then w else ws.getD d zW0 := by
  simp only [List.getD_eq_getElem?_getD, List.getElem?_set]
  by_cases e : c = d
  · subst e; simp [h]
  · rw [if_neg e, if_neg (fun x => e x.symm)]
theorem copy_run {A B N : Nat} (hN : 1 ≤ N ∧ N ≤ 20) (hA : A + N ≤ 24) (hB : B + N ≤ 24) (hap : A + N ≤ B ∨ B + N ≤ A) {m : Mem} (hm : memoryOk m = true) : ∀ i : Nat, i ≤ N →
    ∃ r ws, (inGo (copyAll (A : Int) (B : Int) (N : Int)) (2 * i) (runFrom m)).1 = ⟨r, pcW (2 * i), ⟨ws, m.gone⟩, 0⟩ ∧ r.getD 0 zW0 = rootW ∧
      ∀ c : Nat, c < 24 → ws.getD c zW0 = if B ≤ c ∧ c < B + i then filterW m.gone (m.words.getD (c - B + A) zW0) else m.words.getD c zW0 := by
  intro i
  have hlen : (copyAll (A : Int) (B : Int) (N : Int)).length = 2 * N + 1 := by
    rw [copyAll_eq hN hA hB, List.length_append]
    have : ∀ m : Nat, ((List.range m).flatMap (fun j : Nat => ([⟨10, 1, 0, 0, ((A + j : Nat) : Int)⟩, ⟨11, 0, 0, 1, ((B + j : Nat) : Int)⟩] : List Inst))).length = 2 * m := fun m => by
      induction m with
      | zero => rfl
      | succ m ih => rw [List.range_succ, List.flatMap_append, List.length_append, ih]; simp; omega
    rw [this]; rfl
  induction i with
  | zero =>
    intro _
    exact ⟨_, _, by
      show runFrom m = _
      have e : runFrom m = ⟨(runFrom m).regs, (runFrom m).pc, ⟨m.words, m.gone⟩, 0⟩ := rfl
      rw [e, run_pc], run_regs m, fun c _ => by rw [if_neg (by omega)]⟩
  | succ i ih =>
    intro hi
    obtain ⟨r, ws, e, hr, hw⟩ := ih (by omega)
    have hok : stateOk (⟨r, pcW (2 * i), ⟨ws, m.gone⟩, 0⟩ : State) = true := by rw [← e]; exact inGo_ok (runFrom_ok hm)
    obtain ⟨n1, n2, n3⟩ := stateOk_len hok
    dsimp only at n1 n2 n3
    obtain ⟨p1, p2⟩ := pairs_get (f := fun j : Nat => (⟨10, 1, 0, 0, ((A + j : Nat) : Int)⟩ : Inst)) (g := fun j : Nat => (⟨11, 0, 0, 1, ((B + j : Nat) : Int)⟩ : Inst)) (m := N) (i := i) (by omega)
    have q1 : (copyAll (A : Int) (B : Int) (N : Int)).getD (2 * i) zI0 = ⟨10, 1, 0, 0, ((A + i : Nat) : Int)⟩ := by
      rw [copyAll_eq hN hA hB]; exact getD_of (by rw [List.getElem?_append_left (List.getElem?_eq_some_iff.1 p1).1]; exact p1)
    have q2 : (copyAll (A : Int) (B : Int) (N : Int)).getD (2 * i + 1) zI0 = ⟨11, 0, 0, ((1 : Nat) : Int), ((B + i : Nat) : Int)⟩ := by
      rw [copyAll_eq hN hA hB]; exact getD_of (by rw [List.getElem?_append_left (List.getElem?_eq_some_iff.1 p2).1]; exact p2)
    have s1 := step_load hok rfl rfl (by omega) (by omega) q1 (by omega) hr
    dsimp only at s1
    have hok2 := stepS_ok (l := copyAll (A : Int) (B : Int) (N : Int)) hok
    rw [s1] at hok2
    have hr2 : (r.set 1 (filterW m.gone (ws.getD (A + i) zW0))).getD 0 zW0 = rootW := by rw [set_getD (by omega), if_neg (by omega)]; exact hr
    have hr3 : (r.set 1 (filterW m.gone (ws.getD (A + i) zW0))).getD 1 zW0 = filterW m.gone (ws.getD (A + i) zW0) := by rw [set_getD (by omega), if_pos rfl]
    have s2 := step_store (r := 1) hok2 rfl rfl (by omega) (by omega) q2 (by omega) (by omega) hr2 hr3
    dsimp only at s2
    refine ⟨r.set 1 (filterW m.gone (ws.getD (A + i) zW0)), ws.set (B + i) (filterW m.gone (ws.getD (A + i) zW0)), ?_, hr2, fun c hc => ?_⟩
    · rw [show 2 * (i + 1) = 2 * i + (1 + 1) by omega, inGo_add, e, inGo_add, inGo_one, s1, inGo_one, s2]
    · rw [set_getD (by omega)]
      by_cases h1 : c = B + i
      · rw [if_pos h1, if_pos (by omega), hw _ (by omega), if_neg (by omega), show c - B + A = A + i by omega]
      · rw [if_neg h1, hw _ hc]
        by_cases h2 : B ≤ c ∧ c < B + i
        · rw [if_pos h2, if_pos (by omega)]
        · rw [if_neg h2, if_neg (by omega)]
theorem copy_end {A B N : Nat} (hN : 1 ≤ N ∧ N ≤ 20) (hA : A + N ≤ 24) (hB : B + N ≤ 24) (hap : A + N ≤ B ∨ B + N ≤ A) {m : Mem} (hm : memoryOk m = true) :
    (inOrder (copyAll (A : Int) (B : Int) (N : Int)) (runFrom m) 100).1.trap = 5 ∧
      ∀ c : Nat, c < 24 → (inOrder (copyAll (A : Int) (B : Int) (N : Int)) (runFrom m) 100).1.mem.words.getD c zW0 = if B ≤ c ∧ c < B + N then filterW m.gone (m.words.getD (c - B + A) zW0) else m.words.getD c zW0 := by
  obtain ⟨r, ws, e, hr, hw⟩ := copy_run hN hA hB hap hm N (Nat.le_refl _)
  have hok : stateOk (⟨r, pcW (2 * N), ⟨ws, m.gone⟩, 0⟩ : State) = true := by rw [← e]; exact inGo_ok (runFrom_ok hm)
  have hlen : ((List.range N).flatMap (fun j : Nat => ([⟨10, 1, 0, 0, ((A + j : Nat) : Int)⟩, ⟨11, 0, 0, 1, ((B + j : Nat) : Int)⟩] : List Inst))).length = 2 * N := by
    have : ∀ m : Nat, ((List.range m).flatMap (fun j : Nat => ([⟨10, 1, 0, 0, ((A + j : Nat) : Int)⟩, ⟨11, 0, 0, 1, ((B + j : Nat) : Int)⟩] : List Inst))).length = 2 * m := fun m => by
      induction m with
      | zero => rfl
      | succ m ih => rw [List.range_succ, List.flatMap_append, List.length_append, ih]; simp; omega
    exact this N
  have q : (copyAll (A : Int) (B : Int) (N : Int)).getD (2 * N) zI0 = ⟨15, 0, 0, 0, 0⟩ := by
    rw [copyAll_eq hN hA hB]; exact getD_of (by rw [List.getElem?_append_right (by omega), hlen, Nat.sub_self]; rfl)
  have s1 := step_halt hok rfl rfl (by omega) (by rw [copyAll_eq hN hA hB, List.length_append, hlen]; simp) q
  dsimp only at s1
  rw [inOrder_100 (runFrom_ok hm), show 100 = 2 * N + (1 + (100 - 2 * N - 1)) by omega, inGo_add, e, inGo_add, inGo_one, s1, inGo_stop]
  exact ⟨rfl, hw⟩

theorem room_no {a b n : Int} (h : (room a n && room b n) = false) : copyAll a b n = [] := by unfold copyAll; rw [if_neg (by rw [h]; decide)]
theorem codeOk_nil : codeOk [] = false := by decide
end Go.Pi
