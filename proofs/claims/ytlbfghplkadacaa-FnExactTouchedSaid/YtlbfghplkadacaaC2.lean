/- Contracts of functions, each out of its run by PI. No conditions. -/
import Derived.Test.YtlbfghplkadacaaC1
namespace Go.Pi
open Go.Proofs
set_option linter.unusedVariables false
set_option linter.unusedSimpArgs false
set_option maxRecDepth 100000
attribute [local irreducible] iterN
/-! states that are right stay so -/
theorem memoryOk_iff {m : Mem} : memoryOk m = true ↔ m.words.length = 24 ∧ m.gone.length = 24 ∧ ∀ w ∈ m.words, wordOk w = true := by
  simp only [memoryOk, Bool.and_eq_true, decide_eq_true_eq, List.all_eq_true, and_assoc]
theorem stateOk_iff {s : State} : stateOk s = true ↔ s.regs.length = 8 ∧ (∀ w ∈ s.regs, wordOk w = true) ∧ wordOk s.pc = true ∧ memoryOk s.mem = true ∧ 0 ≤ s.trap ∧ s.trap ≤ 5 := by
  simp only [stateOk, Bool.and_eq_true, decide_eq_true_eq, List.all_eq_true, inR_t, and_assoc]
theorem fine_zero (w : Word) : Fine w zW := ⟨zW_ok, fun h => by cases h⟩
def Made (pc a b got v : Word) : Prop := Fine pc v ∨ Fine a v ∨ Fine b v ∨ Fine got v
theorem Made.ok {pc a b got v : Word} (h : Made pc a b got v) : wordOk v = true := by rcases h with h | h | h | h <;> exact h.1
theorem Made.und {C : List Word} {pc a b got v : Word} (h : Made pc a b got v) (h1 : Und C pc) (h2 : Und C a) (h3 : Und C b) (h4 : Und C got) : Und C v := by
  rcases h with h | h | h | h
  · exact h.und h1
  · exact h.und h2
  · exact h.und h3
  · exact h.und h4
theorem madeW_made {x : Inst} {pc a b got : Word} (ha : wordOk a = true) (hg : wordOk got = true) : Made pc a b got (madeW x a b got) := by
  unfold madeW
  repeat' split
  · exact .inr (.inl (fine_bare _ _))
  · exact .inr (.inl (fine_bare _ _))
  · exact .inr (.inl (fine_self ha))
  · exact .inr (.inl (weakenW_fine _ _))
  · exact .inr (.inl (narrowW_fine _ _))
  · exact .inr (.inl (pointW_fine _ _))
  · exact .inr (.inl (sealBy_fine _ _))
  · exact .inr (.inl (openBy_fine _ _))
  · exact .inr (.inl (fine_bare _ _))
  · exact .inr (.inl (fine_bare _ _))
  · exact .inr (.inr (.inr (fine_self hg)))
theorem nextW_made {pc a b got : Word} : Made pc a b got (nextW pc) := .inl (pointW_fine _ _)
theorem made_zero {pc a b got : Word} : Made pc a b got zW := .inl (fine_zero _)
structure WorkSpec (x : Inst) (pc a b got : Word) (e : Eff) : Prop where
  val : Made pc a b got e.val
  next : Made pc a b got e.next
  put : Made pc a b got e.put
  addr : e.addr ≠ -1 → x.op = 11 ∧ e.addr = IntKind.i64.wrap (a.n + x.n) ∧ e.put = b
  drop : e.drop ≠ -1 → tryW a a.n 32 = 0 ∧ e.drop = a.key.base
theorem workE_spec {x : Inst} {pc a b got : Word} (ha : wordOk a = true) (hb : wordOk b = true) (hg : wordOk got = true) :
    (0 ≤ (workE x pc a b got).trap ∧ (workE x pc a b got).trap ≤ 5) ∧ ((workE x pc a b got).trap = 0 → WorkSpec x pc a b got (workE x pc a b got)) := by
  unfold workE
  split
  · rename_i h
    exact ⟨(show (0 : Int) ≤ 0 ∧ (0 : Int) ≤ 5 by decide), fun _ => ⟨made_zero, nextW_made, .inr (.inr (.inl (fine_self hb))), fun _ => ⟨h, rfl, rfl⟩, fun h => absurd rfl h⟩⟩
  split
  · split
    · have := tryW_in a a.n 4
      rename_i h2
      exact ⟨by show 0 ≤ tryW a a.n 4 ∧ tryW a a.n 4 ≤ 5; omega, fun h => absurd h h2⟩
    · exact ⟨(show (0 : Int) ≤ 0 ∧ (0 : Int) ≤ 5 by decide), fun _ => ⟨nextW_made, .inr (.inl (fine_self ha)), made_zero, fun h => absurd rfl h, fun h => absurd rfl h⟩⟩
  split
  · refine ⟨(show (0 : Int) ≤ 0 ∧ (0 : Int) ≤ 5 by decide), fun _ => ⟨made_zero, ?_, made_zero, fun h => absurd rfl h, fun h => absurd rfl h⟩⟩
    dsimp only
    split
    · exact .inl (pointW_fine _ _)
    · exact nextW_made
  split
  · split
    · have := tryW_in a a.n 32
      rename_i h2
      exact ⟨by show 0 ≤ tryW a a.n 32 ∧ tryW a a.n 32 ≤ 5; omega, fun h => absurd h h2⟩
    · rename_i h2
      exact ⟨(show (0 : Int) ≤ 0 ∧ (0 : Int) ≤ 5 by decide), fun _ => ⟨made_zero, nextW_made, made_zero, fun h => absurd rfl h, fun _ => ⟨by simpa using h2, rfl⟩⟩⟩
  split
  · exact ⟨(show (0 : Int) ≤ 5 ∧ (5 : Int) ≤ 5 by decide), fun h => by cases h⟩
  split
  · refine ⟨(show (0 : Int) ≤ 0 ∧ (0 : Int) ≤ 5 by decide), fun _ => ⟨?_, nextW_made, made_zero, fun h => absurd rfl h, fun h => absurd rfl h⟩⟩
    dsimp only
    split
    · exact madeW_made ha hg
    · exact made_zero
  · exact ⟨(show (0 : Int) ≤ 0 ∧ (0 : Int) ≤ 5 by decide), fun _ => ⟨made_zero, nextW_made, made_zero, fun h => absurd rfl h, fun h => absurd rfl h⟩⟩
theorem readC_00 {m : Mem} {y : Word} {n : Int} (h : readC m y n = 0) : tryW y n 1 = 0 ∧ 0 ≤ n ∧ n ≤ m.words.length - 1 := by
  unfold readC at h
  split at h
  · rename_i h1; exact absurd h h1
  · rename_i h1
    split at h
    · rename_i h2; exact ⟨by omega, by have := inR_t.1 h2; omega⟩
    · cases h
theorem writeC_00 {m : Mem} {y w : Word} {n : Int} (h : writeC m y n w = 0) : tryW y n 2 = 0 ∧ 0 ≤ n ∧ n ≤ m.words.length - 1 := by
  unfold writeC at h
  split at h
  · rename_i h1; exact absurd h h1
  · rename_i h1
    split at h
    · cases h
    · rename_i h2
      have h2 : inR n 0 (m.words.length - 1) = true := by simpa using h2
      exact ⟨by omega, by have := inR_t.1 h2; omega⟩
theorem readM_00 {m : Mem} {y : Word} {n : Int} (h : (readM m y n).2 = 0) : tryW y n 1 = 0 ∧ 0 ≤ n ∧ n ≤ m.words.length - 1 ∧ (readM m y n).1 = filterW m.gone (takenW y (m.words.getD n.toNat (FT.zero .word))) := by
  unfold readM at h ⊢
  split at h
  · rename_i h1; exact absurd h h1
  · rename_i h1
    rw [if_neg h1]
    have := readC_00 (m := m) (y := y) (n := n) (by omega)
    exact ⟨this.1, this.2.1, this.2.2, rfl⟩
theorem readM_ok {m : Mem} (hm : ∀ w ∈ m.words, wordOk w = true) (y : Word) (n : Int) : wordOk (readM m y n).1 = true := by
  unfold readM
  split
  · exact zW_ok
  · exact (filterW_fine (takenW_fine (getD_ok hm _)).1).1
theorem memE_ok {m : Mem} (hm : ∀ w ∈ m.words, wordOk w = true) (x : Inst) (a b : Word) : wordOk (memE m x a b).1 = true := by
  unfold memE
  repeat' split
  · exact readM_ok hm _ _
  · exact zW_ok
  · exact zW_ok
structure EffSpec (l : List Inst) (s : State) (x : Inst) (a b got : Word) : Prop where
  fetch : fetchI l s.pc = (x, 0)
  hx : insOk x = true
  ha : a = s.regs.getD x.a.toNat (FT.zero .word)
  hb : b = s.regs.getD x.b.toNat (FT.zero .word)
  mem : memE s.mem x a b = (got, 0)
  eff : effE l s = workE x s.pc a b got
theorem effE_parts {l : List Inst} {s : State} (h : (effE l s).trap = 0) : ∃ x a b got, EffSpec l s x a b got := by
  by_cases h1 : (fetchI l s.pc).2 = 0
  · by_cases h2 : (memE s.mem (fetchI l s.pc).1 (s.regs.getD (fetchI l s.pc).1.a.toNat (FT.zero .word)) (s.regs.getD (fetchI l s.pc).1.b.toNat (FT.zero .word))).2 = 0
    · refine ⟨(fetchI l s.pc).1, _, _, (memE s.mem (fetchI l s.pc).1 (s.regs.getD (fetchI l s.pc).1.a.toNat (FT.zero .word)) (s.regs.getD (fetchI l s.pc).1.b.toNat (FT.zero .word))).1, ?_, fetchI_ok h1, rfl, rfl, ?_, ?_⟩
      · rw [← h1]
      · rw [← h2]
      · unfold effE; simp only; rw [if_neg (by simpa using h1), if_neg (by simpa using h2)]
    · unfold effE at h; simp only at h; rw [if_neg (by simpa using h1), if_pos h2] at h; exact absurd h h2
  · unfold effE at h; simp only at h; rw [if_pos h1] at h; exact absurd h h1
theorem EffSpec.work {l : List Inst} {s : State} {x : Inst} {a b got : Word} (h : EffSpec l s x a b got) (hs : stateOk s = true) (h0 : (effE l s).trap = 0) : WorkSpec x s.pc a b got (effE l s) := by
  obtain ⟨h1, h2, h3, h4, h5, h6⟩ := stateOk_iff.1 hs
  obtain ⟨m1, m2, m3⟩ := memoryOk_iff.1 h4
  have hg := memE_ok m3 x a b
  rw [h.mem] at hg
  rw [h.eff] at h0 ⊢
  exact (workE_spec (by rw [h.ha]; exact getD_ok h2 _) (by rw [h.hb]; exact getD_ok h2 _) hg).2 h0
theorem EffSpec.store {l : List Inst} {s : State} {x : Inst} {a b got : Word} (h : EffSpec l s x a b got) (hs : stateOk s = true) (h0 : (effE l s).trap = 0) (ha : (effE l s).addr ≠ -1) :
    tryW a (effE l s).addr 2 = 0 ∧ 0 ≤ (effE l s).addr ∧ (effE l s).addr ≤ 23 ∧ (effE l s).put = b := by
  obtain ⟨w1, w2, w3⟩ := (h.work hs h0).addr ha
  have hm := h.mem
  rw [memE_11 (by omega) w1] at hm
  have := writeC_00 (congrArg Prod.snd hm)
  obtain ⟨h1, h2, h3, h4, h5, h6⟩ := stateOk_iff.1 hs
  obtain ⟨m1, m2, m3⟩ := memoryOk_iff.1 h4
  rw [← w2] at this
  exact ⟨this.1, this.2.1, by omega, w3⟩
theorem EffSpec.load {l : List Inst} {s : State} {x : Inst} {a b got : Word} (h : EffSpec l s x a b got) : got = zW ∨ ∃ n : Int, tryW a n 1 = 0 ∧ 0 ≤ n ∧ n ≤ s.mem.words.length - 1 ∧ got = filterW s.mem.gone (takenW a (s.mem.words.getD n.toNat (FT.zero .word))) := by
  have hm := h.mem
  by_cases h1 : x.op = 10
  · rw [memE_10 h1] at hm
    obtain ⟨r1, r2, r3, r4⟩ := readM_00 (congrArg Prod.snd hm)
    right
    refine ⟨_, r1, r2, r3, ?_⟩
    rw [← r4, hm]
  · left
    by_cases h2 : x.op = 11
    · rw [memE_11 h1 h2] at hm; exact (congrArg Prod.fst hm).symm
    · rw [memE_x h1 h2] at hm; exact (congrArg Prod.fst hm).symm
theorem mem_set {α : Type} {xs : List α} {i : Nat} {v x : α} (h : x ∈ xs.set i v) : x ∈ xs ∨ x = v := List.mem_or_eq_of_mem_set h
theorem stepS_cases {l : List Inst} {s : State} (hs : stateOk s = true) :
    (s.trap ≠ 0 ∧ stepS l s = s) ∨ (s.trap = 0 ∧ (effE l s).trap ≠ 0 ∧ stepS l s = ⟨s.regs, s.pc, s.mem, (effE l s).trap⟩) ∨ (s.trap = 0 ∧ (effE l s).trap = 0 ∧ stepS l s = putE s (effE l s)) := by
  by_cases h : s.trap = 0
  · by_cases h2 : (effE l s).trap = 0
    · exact .inr (.inr ⟨h, h2, stepS_0 hs h h2⟩)
    · exact .inr (.inl ⟨h, h2, stepS_e hs h h2⟩)
  · exact .inl ⟨h, stepS_trap hs h⟩

/-! a closure: it has its roots, what its words open, and no more -/
theorem putW_min {P : Word → Prop} {out : List Word} {w : Word} (h : ∀ x ∈ out, P x) (hw : w.is = true → wordOk w = true → P w) : ∀ x ∈ putW out w, P x := by
  intro x hx
  unfold putW at hx
  split at hx
  · rename_i hc
    simp only [Bool.and_eq_true] at hc
    rcases List.mem_append.1 hx with q | q
    · exact h x q
    · rw [List.mem_singleton.1 q]; exact hw hc.1.1 hc.1.2
  · exact h x hx
theorem foldPut_min {P : Word → Prop} : ∀ {l out : List Word}, (∀ x ∈ out, P x) → (∀ w ∈ l, w.is = true → wordOk w = true → P w) → ∀ x ∈ l.foldl putW out, P x
  | [], out, h, _ => h
  | v :: l, out, h, hl => foldPut_min (l := l) (putW_min h (hl v (by simp))) (fun w hw => hl w (by simp [hw]))
theorem scan_min {P : Word → Prop} {ws : List Word} : ∀ {n c : Nat} {out : List Word}, (∀ x ∈ out, P x) → (∀ j, c ≤ j → j < c + n → (ws.getD j (FT.zero .word)).is = true → P (ws.getD j (FT.zero .word))) → ∀ x ∈ scan ws n c out, P x
  | 0, c, out, h, _ => h
  | n + 1, c, out, h, hj => scan_min (n := n) (c := c + 1) (putW_min h fun hi _ => hj c (by omega) (by omega) hi) (fun j h1 h2 => hj j (by omega) (by omega))
theorem closGo_min {P : Word → Prop} {ws : List Word} (hk : ∀ k : Word, P k → opens k.key = true → ∀ j : Nat, k.key.base.toNat ≤ j → j < k.key.base.toNat + (min k.key.top 24 - k.key.base).toNat → (ws.getD j (FT.zero .word)).is = true → P (ws.getD j (FT.zero .word))) :
    ∀ {n i : Nat} {out : List Word}, (∀ x ∈ out, P x) → ∀ x ∈ closGo ws n i out, P x
  | 0, _, _, h => h
  | n + 1, i, out, h => by
    unfold closGo; split
    · rename_i hi
      refine closGo_min hk (n := n) ?_
      unfold closStep; split
      · rename_i ho
        exact scan_min h (fun j h1 h2 h3 => hk _ (h _ (getD_mem hi)) ho j h1 h2 h3)
      · exact h
    · exact h
theorem closure_min {P : Word → Prop} {m : Mem} {l : List Word} (hl : ∀ w ∈ l, w.is = true → wordOk w = true → P w)
    (hk : ∀ k : Word, P k → opens k.key = true → ∀ j : Nat, k.key.base.toNat ≤ j → j < k.key.base.toNat + (min k.key.top 24 - k.key.base).toNat → (m.words.getD j (FT.zero .word)).is = true → P (m.words.getD j (FT.zero .word))) : ∀ x ∈ closure m l, P x := by
  unfold closure; split
  · exact closGo_min hk (foldPut_min (fun x hx => by cases hx) hl)
  · intro x hx; cases hx
/-! ### what is under a closed set -/
def Reach (C : List Word) (m : Mem) : Prop := ∀ c ∈ C, c.is = true → opens c.key = true → ∀ j : Nat, c.key.base ≤ j → (j : Int) < c.key.top → j < 24 → Und C (m.words.getD j (FT.zero .word))
theorem opens_iff {k : Key} : opens k = true ↔ ¬ andI k.perms 1 = 0 ∧ ¬ andI k.perms 8 = 0 := by simp [opens]
theorem opens_up {a b : Key} (h : coversK a b = true) (ho : opens b = true) : opens a = true := by
  obtain ⟨h1, h2, h3, h4, h5⟩ := coversK_iff.1 h
  obtain ⟨o1, o2⟩ := opens_iff.1 ho
  exact opens_iff.2 ⟨andI_bit h5 o1, andI_bit h5 o2⟩
theorem closure_under {C : List Word} {m : Mem} {l : List Word} (hl : ∀ w ∈ l, Und C w) (hr : Reach C m) : ∀ x ∈ closure m l, Und C x := by
  intro x hx
  have hm : memoryOk m = true := by
    unfold closure at hx; split at hx
    · assumption
    · cases hx
  obtain ⟨m1, m2, m3⟩ := memoryOk_iff.1 hm
  refine (closure_min (P := fun x => (x.is = true ∧ wordOk x = true) ∧ Und C x) (fun w hw h1 h2 => ⟨⟨h1, h2⟩, hl w hw⟩) (fun k hk ho j h1 h2 h3 => ?_) x hx).2
  obtain ⟨⟨hki, hko⟩, hku⟩ := hk
  have hn := keyOk_n (wordOk_is hko hki)
  refine ⟨⟨h3, getD_ok m3 j⟩, ?_⟩
  obtain ⟨c, c1, c2, c3⟩ := hku hki
  obtain ⟨q1, q2, q3, q4, q5⟩ := coversK_iff.1 c3
  exact hr c c1 c2 (opens_up c3 ho) j (by omega) (by omega) (by omega)
theorem hasP_iff {w : Word} {p : Int} : hasP w p = true ↔ w.is = true ∧ ¬ andI w.key.perms p = 0 := by simp [hasP]
theorem mem_filt {f : Nat → Bool} {n : Nat} {c : Int} : c ∈ filt f n ↔ ∃ j : Nat, j < n ∧ f j = true ∧ c = j := by
  simp only [filt, List.mem_map, List.mem_filter, List.mem_range]
  constructor
  · rintro ⟨j, ⟨h1, h2⟩, rfl⟩; exact ⟨j, h1, h2, rfl⟩
  · rintro ⟨j, h1, h2, rfl⟩; exact ⟨j, ⟨h1, h2⟩, rfl⟩
theorem coverP_iff {ws : List Word} {p : Int} {c : Nat} : coverP ws p c = true ↔ ∃ w ∈ ws, hasP w p = true ∧ w.key.base ≤ c ∧ (c : Int) ≤ w.key.top - 1 := by
  simp only [coverP, List.any_eq_true, Bool.and_eq_true, inR_t]
theorem cover_up {C : List Word} {w : Word} {p : Int} {c : Nat} (h : Und C w) (hp : hasP w p = true) (h1 : w.key.base ≤ c) (h2 : (c : Int) ≤ w.key.top - 1) : coverP C p c = true := by
  obtain ⟨p1, p2⟩ := hasP_iff.1 hp
  obtain ⟨d, d1, d2, d3⟩ := h p1
  obtain ⟨q1, q2, q3, q4, q5⟩ := coversK_iff.1 d3
  exact coverP_iff.2 ⟨d, d1, hasP_iff.2 ⟨d2, andI_bit q5 p2⟩, by omega, by omega⟩
theorem mem_cellsBy {m : Mem} {l : List Word} {p c : Int} : c ∈ cellsBy m l p ↔ ∃ j : Nat, j < 24 ∧ coverP (closure m l) p j = true ∧ c = j := mem_filt
structure Inv (C : List Word) (s : State) : Prop where
  ok : stateOk s = true
  regs : ∀ w ∈ s.regs, Und C w
  pc : Und C s.pc
  mem : Reach C s.mem
def hold (s : State) : List Word := s.regs ++ [s.pc]
theorem Inv.under {C : List Word} {s : State} (h : Inv C s) : ∀ x ∈ closure s.mem (hold s), Und C x := closure_under (fun w hw => by
  rcases List.mem_append.1 hw with q | q
  · exact h.regs w q
  · rw [List.mem_singleton.1 q]; exact h.pc) h.mem
theorem Inv.got {C : List Word} {l : List Inst} {s : State} (h : Inv C s) {x : Inst} {a b got : Word} (he : EffSpec l s x a b got) : Und C a ∧ Und C b ∧ Und C got := by
  obtain ⟨r1, r2, r3, r4, r5, r6⟩ := stateOk_iff.1 h.ok
  obtain ⟨m1, m2, m3⟩ := memoryOk_iff.1 r4
  have ha : Und C a := by rw [he.ha]; exact getD_und h.regs _
  have hb : Und C b := by rw [he.hb]; exact getD_und h.regs _
  refine ⟨ha, hb, ?_⟩
  rcases he.load with rfl | ⟨n, h1, h2, h3, rfl⟩
  · exact und_zero C
  · obtain ⟨t1, t2, t3, t4, t5, t6⟩ := tryW_0 h1
    obtain ⟨j, rfl⟩ := Int.eq_ofNat_of_zero_le h2
    have hj : j < 24 := by omega
    rw [Int.toNat_natCast]
    by_cases h8 : andI a.key.perms 8 = 0
    · rw [show takenW a (s.mem.words.getD j (FT.zero .word)) = plainW (s.mem.words.getD j (FT.zero .word)).n from if_pos h8]
      exact (filterW_fine (plainW_ok _)).und (und_bare C _)
    · obtain ⟨c, c1, c2, c3⟩ := ha t2
      obtain ⟨q1, q2, q3, q4, q5⟩ := coversK_iff.1 c3
      have hu := h.mem c c1 c2 (opens_up c3 (opens_iff.2 ⟨by rw [t4]; decide, h8⟩)) j (by omega) (by omega) hj
      exact (filterW_fine (takenW_fine (getD_ok m3 j)).1).und ((takenW_fine (getD_ok m3 j)).und hu)
theorem Inv.gone {C : List Word} {l : List Inst} {s : State} (h : Inv C s) (hC : ∀ c ∈ C, hasP c 32 = false) : (stepS l s).mem.gone = s.mem.gone := by
  have hs := h.ok
  rcases stepS_cases (l := l) hs with ⟨h1, h2⟩ | ⟨h1, h2, h3⟩ | ⟨h1, h2, h3⟩
  · rw [h2]
  · rw [h3]
  · rw [h3]
    obtain ⟨x, a, b, got, he⟩ := effE_parts h2
    obtain ⟨u1, u2, u3⟩ := h.got he
    unfold putE; dsimp only
    split
    · rename_i hr
      have hr := inR_t.1 hr
      obtain ⟨d1, d2⟩ := (he.work hs h2).drop (by omega)
      obtain ⟨t1, t2, t3, t4, t5, t6⟩ := tryW_0 d1
      obtain ⟨d, e1, e2, e3⟩ := u1 t2
      obtain ⟨q1, q2, q3, q4, q5⟩ := coversK_iff.1 e3
      have := hC d e1
      rw [hasP_iff.2 ⟨e2, andI_bit q5 (by rw [t4]; decide)⟩] at this
      cases this
    · rfl

def codeOk (l : List Inst) : Bool := inR l.length 1 48 && l.all insOk

def pf_impl_CodeOk_1 : PF := ⟨[.t 2], .seq (.reg [.s (.box 1 (.t 0)), .s (.mv 2 (.k (.v (.c .ff))))]) (.seq (.reg [.s (.load 3 true 5 (.t 1)), .s (.call (some 4) 36 [(.t 3)]), .s (.bnot 5 (.t 4)), .s (.mv 2 (.t 5))]) (.ret))⟩
def c_impl_CodeOk_1 : Fun := ⟨35, [], fun ts K => as1 ts fun t0 => arG pInstT t0 fun x => K (tB (!insOk x)) []⟩
theorem run_impl_CodeOk_1 (x : Inst) : runK [c_impl_InsOk] (0) [] pf_impl_CodeOk_1 [tG (x.tc [])] fun r o => r = tB (!insOk x) ∧ o = [] := by
  conv => whnf
  repeat' (first | (refine sel_i (fun h => ?_) (fun h => ?_) <;> conv => whnf) | (refine chk_c ?_ ?_ <;> conv => whnf) | (refine And.intro ?_ rfl) | (refine And.intro ?_ ?_ <;> conv => whnf))
  all_goals (try simp only [etaInst] at *)
  all_goals first
    | rfl
    | trace_state
theorem ok_impl_CodeOk_1 : FunOk Try.prog c_impl_CodeOk_1 := funOk (E := [c_impl_InsOk]) (envOk_cons ok_impl_InsOk (envOk_nil)) mixd Try.func35 (pf := pf_impl_CodeOk_1) (by kernel_rfl) fun ts K h => by
  obtain ⟨t0, e0, h⟩ := as1_out h
  subst e0
  obtain ⟨x, e1, hq⟩ := arG_out rd_inst h
  clear h
  subst e1
  have h := hq
  clear hq
  exact ⟨_, _, h, Nat.le_of_ble_eq_true (show Nat.ble 1 Try.f35.ntmps = true by kernel_rfl), _, run_impl_CodeOk_1 x⟩

def lb_slices_IndexFunc_Ins_0 : PC := .seq (.reg [.s (.bin 9 .lss (.t 8) (.t 7))]) (.seq (.cond (.t 9) (.skip) (.exit 0)) (.seq (.blk 1 (.seq (.reg [.s (.mv 10 (.t 8)), .s (.mv 5 (.t 10))]) (.seq (.reg [.s (.mv 11 (.t 1)), .s (.mv 12 (.t 0)), .s (.mv 13 (.t 5)), .s (.ia 14 .inst (.t 12) (.t 13)), .s (.load 15 true 5 (.t 14)), .s (.callv (some 16) (.t 11) [(.t 15)])]) (.cond (.t 16) (.seq (.reg [.s (.mv 17 (.t 5)), .s (.mv 4 (.t 17))]) (.ret)) (.skip))))) (.reg [.s (.bin 18 .add (.t 8) (.k (.v (.c (.int .i64 1))))), .s (.mv 8 (.t 18))])))
def pf_slices_IndexFunc_Ins : PF := ⟨[.t 4], .seq (.reg [.s (.mv 4 (.k (.v (.c (.int .i64 0)))))]) (.seq (.seq (.reg [.s (.mv 6 (.t 0)), .s (.len 7 false (.t 6)), .s (.mv 8 (.k (.v (.c (.int .i64 0)))))]) (.blk 0 (.loop [0, 1, 7, 8] lb_slices_IndexFunc_Ins_0))) (.seq (.reg [.s (.mv 4 (.k (.v (.c (.int .i64 (-1))))))]) (.ret)))⟩
def c_slices_IndexFunc_Ins__impl_CodeOk_1 : Fun := ⟨52, [], fun ts K => as2 ts fun t0 t1 => arC (pL .inst) t0 fun xs => arF0 35 t1 fun g => chk (xs.length ≤ 2147483647) (K (tN (idxOf (fun x => !insOk x) xs)) [])⟩
theorem run_slices_IndexFunc_Ins__impl_CodeOk_1 (xs : List (FT.Ty .inst)) (g : Unit) (hpre : xs.length ≤ 2147483647) : runK [c_impl_CodeOk_1] (xs.length + 1) [] pf_slices_IndexFunc_Ins [tL false .inst xs, .fn 35 []] fun r o => r = tN (idxOf (fun x => !insOk x) xs) ∧ o = [] := by
  conv => whnf
  refine loop (α := Nat) (fun i => ⟨[(0, .v (.c (.sl false .inst 0))), (1, .fn 35 []), (7, .v (.c (.int .i64 (xs.length : Int)))), (8, .v (.c (.int .i64 (i : Int))))], [(0, some (.flat false .inst none xs))], nums.tail, [], false, []⟩)
      (fun i => i ≤ xs.length ∧ idxOf (fun x => !insOk x) xs = idxGo (fun x => !insOk x) (xs.drop i) i) (fun i => xs.length - i) (fun i R hI hR => ?_) 0 _ ⟨by simp, rfl⟩ (by simp)
  obtain ⟨hi, hx⟩ := hI
  conv => whnf
  refine sel_i (fun h2 => ?_) (fun h2 => ?_)
  · have hlt : i < xs.length := by simp at h2; omega
    conv => whnf
    repeat (refine chk_i (by first | omega | (simp; omega)) ?_; conv => whnf)
    refine sel_i (fun h3 => ?_) (fun h3 => ?_)
    · conv => whnf
      rw [hx, idxGo_yes (z := FT.zero .inst) hlt (by first | (simp only [keyEq] at h3; exact h3) | (simpa using h3))]
      exact ⟨rfl, rfl⟩
    · conv => whnf
      rw [wrap_id (n := (i : Int) + 1) (by omega) (by omega)]
      exact hR (i + 1) ⟨by omega, by rw [hx, idxGo_no (z := FT.zero .inst) hlt (by first | (simp only [keyEq] at h3; exact h3) | (simpa using h3))]⟩ (by omega)
  · conv => whnf
    rw [hx, idxGo_end (by simp at h2; omega)]
    exact ⟨rfl, rfl⟩
theorem ok_slices_IndexFunc_Ins__impl_CodeOk_1 : FunOk Try.prog c_slices_IndexFunc_Ins__impl_CodeOk_1 := funOk (E := [c_impl_CodeOk_1]) (envOk_cons ok_impl_CodeOk_1 (envOk_nil)) mixd Try.func52 (pf := pf_slices_IndexFunc_Ins) (by kernel_rfl) fun ts K h => by
  obtain ⟨t0, t1, e0, h⟩ := as2_out h
  subst e0
  obtain ⟨xs, e1, hq⟩ := arC_out (rd_l .inst) h
  clear h
  subst e1
  have h := hq
  clear hq
  obtain ⟨g, e1, hq⟩ := arF0_out h
  clear h
  subst e1
  have h := hq
  clear hq
  obtain ⟨hpre, h⟩ := chk_o h
  exact ⟨_, _, h, Nat.le_of_ble_eq_true (show Nat.ble 2 Try.f52.ntmps = true by kernel_rfl), _, run_slices_IndexFunc_Ins__impl_CodeOk_1 xs g hpre⟩

def pf_slices_ContainsFunc_Ins : PF := ⟨[.t 4], .seq (.reg [.s (.mv 4 (.k (.v (.c .ff))))]) (.seq (.reg [.s (.mv 5 (.t 0)), .s (.mv 6 (.t 1)), .s (.call (some 7) 52 [(.t 5), (.t 6)]), .s (.bin 8 .geq (.t 7) (.k (.v (.c (.int .i64 0))))), .s (.mv 4 (.t 8))]) (.ret))⟩
def c_slices_ContainsFunc_Ins__impl_CodeOk_1 : Fun := ⟨34, [], fun ts K => as2 ts fun t0 t1 => arC (pL .inst) t0 fun xs => arF0 35 t1 fun g => chk (xs.length ≤ 2147483647) (K (tB (xs.any (fun x => !insOk x))) [])⟩
theorem run_slices_ContainsFunc_Ins__impl_CodeOk_1 (xs : List (FT.Ty .inst)) (g : Unit) (hpre : xs.length ≤ 2147483647) : runK [c_slices_IndexFunc_Ins__impl_CodeOk_1, c_impl_CodeOk_1] (0) [] pf_slices_ContainsFunc_Ins [tL false .inst xs, .fn 35 []] fun r o => r = tB (xs.any (fun x => !insOk x)) ∧ o = [] := by
  conv => whnf
  repeat' (first | (refine sel_i (fun h => ?_) (fun h => ?_) <;> conv => whnf) | (refine chk_c ?_ ?_ <;> conv => whnf) | (refine And.intro ?_ rfl) | (refine And.intro ?_ ?_ <;> conv => whnf))
  all_goals first | (refine ⟨?_⟩; exact hpre) | exact hpre | (rw [← idxOf_any]; rfl) | (rw [← idxOf_any])
theorem ok_slices_ContainsFunc_Ins__impl_CodeOk_1 : FunOk Try.prog c_slices_ContainsFunc_Ins__impl_CodeOk_1 := funOk (E := [c_slices_IndexFunc_Ins__impl_CodeOk_1, c_impl_CodeOk_1]) (envOk_cons ok_slices_IndexFunc_Ins__impl_CodeOk_1 (envOk_cons ok_impl_CodeOk_1 (envOk_nil))) mixd Try.func34 (pf := pf_slices_ContainsFunc_Ins) (by kernel_rfl) fun ts K h => by
  obtain ⟨t0, t1, e0, h⟩ := as2_out h
  subst e0
  obtain ⟨xs, e1, hq⟩ := arC_out (rd_l .inst) h
  clear h
  subst e1
  have h := hq
  clear hq
  obtain ⟨g, e1, hq⟩ := arF0_out h
  clear h
  subst e1
  have h := hq
  clear hq
  obtain ⟨hpre, h⟩ := chk_o h
  exact ⟨_, _, h, Nat.le_of_ble_eq_true (show Nat.ble 2 Try.f34.ntmps = true by kernel_rfl), _, run_slices_ContainsFunc_Ins__impl_CodeOk_1 xs g hpre⟩

def pf_impl_CodeOk : PF := ⟨[.t 2], .seq (.reg [.s (.mv 2 (.k (.v (.c .ff))))]) (.seq (.reg [.s (.mv 3 (.t 0)), .s (.len 4 false (.t 3)), .s (.call (some 5) 28 [(.t 4), (.k (.v (.c (.int .i64 1)))), (.k (.v (.c (.int .i64 48))))]), .s (.mv 6 (.t 5)), .g 6 true (some 7) (.mv 7 (.t 0)), .g 6 true (some 8) (.call (some 8) 34 [(.t 7), (.k (.fn 35 []))]), .g 6 true (some 9) (.bnot 9 (.t 8)), .s (.pick 10 (.t 6) (.t 9) (.k (.v (.c .ff)))), .s (.mv 2 (.t 10))]) (.ret))⟩
def c_impl_CodeOk : Fun := ⟨27, [], fun ts K => as1 ts fun t0 => arC (pL .inst) t0 fun l => chk (l.length ≤ 2147483647) (K (tB (codeOk l)) [])⟩
theorem run_impl_CodeOk (l : List (FT.Ty .inst)) (hpre : l.length ≤ 2147483647) : runK [c_impl_in, c_slices_ContainsFunc_Ins__impl_CodeOk_1, c_impl_CodeOk_1] (0) [] pf_impl_CodeOk [tL false .inst l] fun r o => r = tB (codeOk l) ∧ o = [] := by
  conv => whnf
  repeat' (first | (refine sel_i (fun h => ?_) (fun h => ?_) <;> conv => whnf) | (refine chk_c ?_ ?_ <;> conv => whnf) | (refine And.intro ?_ rfl) | (refine And.intro ?_ ?_ <;> conv => whnf))
  all_goals (try simp only [etaInst] at *)
  all_goals first
    | (refine ⟨?_⟩; exact hpre)
    | (unfold codeOk; rw [h, all_any]; simp; done)
    | (unfold codeOk; rw [h]; rfl)
    | trace_state
theorem ok_impl_CodeOk : FunOk Try.prog c_impl_CodeOk := funOk (E := [c_impl_in, c_slices_ContainsFunc_Ins__impl_CodeOk_1, c_impl_CodeOk_1]) (envOk_cons ok_impl_in (envOk_cons ok_slices_ContainsFunc_Ins__impl_CodeOk_1 (envOk_cons ok_impl_CodeOk_1 (envOk_nil)))) mixd Try.func27 (pf := pf_impl_CodeOk) (by kernel_rfl) fun ts K h => by
  obtain ⟨t0, e0, h⟩ := as1_out h
  subst e0
  obtain ⟨l, e1, hq⟩ := arC_out (rd_l .inst) h
  clear h
  subst e1
  have h := hq
  clear hq
  obtain ⟨hpre, h⟩ := chk_o h
  exact ⟨_, _, h, Nat.le_of_ble_eq_true (show Nat.ble 1 Try.f27.ntmps = true by kernel_rfl), _, run_impl_CodeOk l hpre⟩

def lb_spec_CodeOk_0 : PC := .seq (.seq (.reg [.s (.mv 4 (.t 3)), .s (.mv 5 (.t 0)), .s (.len 6 false (.t 5)), .s (.bin 7 .lss (.t 4) (.t 6))]) (.cond (.t 7) (.skip) (.exit 0))) (.seq (.blk 1 (.seq (.reg [.s (.mv 10 (.t 0)), .s (.mv 11 (.t 3)), .s (.ia 12 .inst (.t 10) (.t 11)), .s (.load 13 true 5 (.t 12)), .s (.call (some 14) 33 [(.t 13)]), .s (.bnot 15 (.t 14))]) (.cond (.t 15) (.seq (.reg [.s (.mv 2 (.k (.v (.c .ff))))]) (.ret)) (.skip)))) (.reg [.s (.mv 8 (.t 3)), .s (.bin 9 .add (.t 8) (.k (.v (.c (.int .i64 1))))), .s (.mv 3 (.t 9))]))
def pf_spec_CodeOk : PF := ⟨[.t 2], .seq (.reg [.s (.mv 2 (.k (.v (.c .ff))))]) (.seq (.seq (.reg [.s (.mv 3 (.k (.v (.c (.int .i64 0)))))]) (.blk 0 (.loop [0, 3] lb_spec_CodeOk_0))) (.seq (.reg [.s (.mv 16 (.t 0)), .s (.len 17 false (.t 16)), .s (.call (some 18) 25 [(.t 17), (.k (.v (.c (.int .i64 1)))), (.k (.v (.c (.int .i64 48))))]), .s (.mv 2 (.t 18))]) (.ret)))⟩
def c_spec_CodeOk : Fun := ⟨24, [], fun ts K => as1 ts fun t0 => arC (pL .inst) t0 fun l => chk (l.length ≤ 2147483647) (K (tB (codeOk l)) [])⟩
theorem run_spec_CodeOk (l : List (FT.Ty .inst)) (hpre : l.length ≤ 2147483647) : runK [c_spec_l1In, c_spec_InsOk] (l.length + 1) [] pf_spec_CodeOk [tL false .inst l] fun r o => r = tB (codeOk l) ∧ o = [] := by
  conv => whnf
  refine loop (α := Nat) (fun i => ⟨[(0, .v (.c (.sl false .inst 0))), (3, .v (.c (.int .i64 (i : Int))))], [(0, some (.flat false .inst none l))], nums.tail, [], false, []⟩)
    (fun i => i ≤ l.length ∧ (l.drop i).all insOk = l.all insOk) (fun i => l.length - i) (fun i R hI hR => ?_) 0 _ ⟨by simp, rfl⟩ (by simp)
  obtain ⟨hi, hx⟩ := hI
  conv => whnf
  repeat' (first | (refine sel_i (fun h => ?_) (fun h => ?_) <;> conv => whnf) | (refine chk_c ?_ ?_ <;> conv => whnf) | (refine And.intro ?_ rfl) | (refine And.intro ?_ ?_ <;> conv => whnf))
  all_goals (try simp only [etaInst, Int.toNat_natCast, Bool.not_eq_true', Bool.not_eq_false', decide_eq_true_eq, decide_eq_false_iff_not] at *)
  all_goals first
    | (refine ⟨?_⟩; omega)
    | (unfold codeOk; rw [all_no (z := FT.zero .inst) (by omega) h hx, Bool.and_false]; done)
    | (rw [wrap_id (n := (i : Int) + 1) (by omega) (by omega)]; exact hR (i + 1) ⟨by omega, all_yes (z := FT.zero .inst) (by omega) h hx⟩ (by omega))
    | (unfold codeOk; rw [all_end (by omega) hx, Bool.and_true]; done)
    | trace_state
theorem ok_spec_CodeOk : FunOk Try.prog c_spec_CodeOk := funOk (E := [c_spec_l1In, c_spec_InsOk]) (envOk_cons ok_spec_l1In (envOk_cons ok_spec_InsOk (envOk_nil))) mixd Try.func24 (pf := pf_spec_CodeOk) (by kernel_rfl) fun ts K h => by
  obtain ⟨t0, e0, h⟩ := as1_out h
  subst e0
  obtain ⟨l, e1, hq⟩ := arC_out (rd_l .inst) h
  clear h
  subst e1
  have h := hq
  clear hq
  obtain ⟨hpre, h⟩ := chk_o h
  exact ⟨_, _, h, Nat.le_of_ble_eq_true (show Nat.ble 1 Try.f24.ntmps = true by kernel_rfl), _, run_spec_CodeOk l hpre⟩

/-! what is kept is read as it was -/

/-! two that are apart -/
theorem twoOk_iff {t : Two} : twoOk t = true ↔ stateOk (sideState t 0) = true ∧ stateOk (sideState t 1) = true := by simp [twoOk]
theorem meetI_f {a b : List Int} : meetI a b = false ↔ ∀ c ∈ a, c ∉ b := by
  simp only [meetI, List.any_eq_false]
  constructor
  · intro h c hc hb
    exact h c hc (List.any_eq_true.2 ⟨c, hb, beq_iff_eq.2 rfl⟩)
  · intro h c hc hb
    obtain ⟨x, hx, e⟩ := List.any_eq_true.1 hb
    rw [beq_iff_eq.1 e] at hc
    exact h x hc hx
def Ap (C D : List Word) : Prop := ∀ j : Nat, j < 24 → coverP C 2 j = true → coverP D 1 j = false ∧ coverP D 2 j = false
def NoSeal (C : List Word) : Prop := ∀ c ∈ C, hasP c 32 = false
structure Both (A B : List Word) (t : Two) : Prop where
  a : Inv A (sideState t 0)
  b : Inv B (sideState t 1)
  ab : Ap A B
  ba : Ap B A
  na : NoSeal A
  nb : NoSeal B
theorem Both.ok {A B : List Word} {t : Two} (h : Both A B t) : twoOk t = true := twoOk_iff.2 ⟨h.a.ok, h.b.ok⟩
theorem Both.apart {A B : List Word} {t : Two} (h : Both A B t) (ha : ∀ x ∈ closure t.mem (heldW t.a), Und A x) (hb : ∀ x ∈ closure t.mem (heldW t.b), Und B x) : apartB t = true := by
  have hs : ∀ {C : List Word} {l : List Word}, (∀ x ∈ closure t.mem l, Und C x) → NoSeal C → canSeal t.mem l = false := fun {C l} hu hn => by
    cases e : canSeal t.mem l with
    | false => rfl
    | true =>
      simp only [canSeal, List.any_eq_true] at e
      obtain ⟨w, h1, h2⟩ := e
      obtain ⟨p1, p2⟩ := hasP_iff.1 h2
      obtain ⟨d, d1, d2, d3⟩ := hu w h1 p1
      obtain ⟨q1, q2, q3, q4, q5⟩ := coversK_iff.1 d3
      have := hn d d1
      rw [hasP_iff.2 ⟨d2, andI_bit q5 p2⟩] at this
      cases this
  have hcov : ∀ {C : List Word} {l : List Word} {p : Int} {j : Nat}, (∀ x ∈ closure t.mem l, Und C x) → coverP (closure t.mem l) p j = true → coverP C p j = true := fun {C l p j} hu hc => by
    obtain ⟨w, w1, w2, w3, w4⟩ := coverP_iff.1 hc
    exact cover_up (hu w w1) w2 w3 w4
  have hx : ∀ {C D : List Word} {l k : List Word}, (∀ x ∈ closure t.mem l, Und C x) → (∀ x ∈ closure t.mem k, Und D x) → Ap C D → crossesB t.mem l k = false := fun {C D l k} hu hv hap => by
    refine meetI_f.2 fun c hc hc2 => ?_
    obtain ⟨j, h1, h2, rfl⟩ := mem_cellsBy.1 hc
    have := hap j h1 (hcov hu h2)
    rcases List.mem_append.1 hc2 with q | q
    · obtain ⟨i, i1, i2, i3⟩ := mem_cellsBy.1 q
      have : i = j := by omega
      subst this
      have := hcov hv i2
      simp_all
    · obtain ⟨i, i1, i2, i3⟩ := mem_cellsBy.1 q
      have : i = j := by omega
      subst this
      have := hcov hv i2
      simp_all
  simp only [apartB, Bool.and_eq_true, Bool.not_eq_true']
  exact ⟨⟨⟨h.ok, hs ha h.na⟩, hs hb h.nb⟩, hx ha hb h.ab, hx hb ha h.ba⟩

structure Cur where
  b : List Int
  i : Int
  h : Int
def Cur.tc (c : Cur) (r : List TC) : List TC := tl false (.int .u8) c.b :: .int .i64 c.i :: .int .i64 c.h :: r



theorem U8s.app {a b : List Int} (ha : U8s a) (hb : U8s b) : U8s (a ++ b) := fun x hx => by
  rcases List.mem_append.1 hx with q | q
  · exact ha x q
  · exact hb x q
theorem U8s.put {a : List Int} (ha : U8s a) {i : Nat} {v : Int} (hv : 0 ≤ v ∧ v ≤ 255) : U8s (a.set i v) := fun x hx => by
  rcases mem_set hx with q | q
  · exact ha x q
  · rw [q]; exact hv















/-! what the small programs do -/






theorem spanD_mem {l : List Span} {i : Nat} (h : i < l.length) : l.getD i (FT.zero .span) ∈ l := by
  rw [List.getD_eq_getElem?_getD, List.getElem?_eq_getElem h]; exact List.getElem_mem h

def Ord (l : List Span) : Prop := l.Pairwise (fun a b => a.at_ < b.at_)
theorem ord_of {l : List Span} (h : ∀ j, 0 < j → j < l.length → (l.getD (j - 1) (FT.zero .span)).at_ < (l.getD j (FT.zero .span)).at_) : Ord l := by
  have key : ∀ d i : Nat, i + d + 1 < l.length → (l.getD i (FT.zero .span)).at_ < (l.getD (i + d + 1) (FT.zero .span)).at_ := by
    intro d
    induction d with
    | zero => intro i hi; have := h (i + 1) (by omega) hi; simpa using this
    | succ d ih =>
      intro i hi
      have h1 := ih i (by omega)
      have h2 := h (i + (d + 1) + 1) (by omega) hi
      rw [show i + (d + 1) + 1 - 1 = i + d + 1 by omega] at h2
      omega
  refine List.pairwise_iff_getElem.2 fun i j hi hj hij => ?_
  have := key (j - i - 1) i (by omega)
  rw [show i + (j - i - 1) + 1 = j by omega] at this
  simpa [List.getD_eq_getElem?_getD, hi, hj] using this
theorem ord_step {l : List Span} (h : Ord l) {j : Nat} (h0 : 0 < j) (hj : j < l.length) : (l.getD (j - 1) (FT.zero .span)).at_ < (l.getD j (FT.zero .span)).at_ := by
  have := List.pairwise_iff_getElem.1 h (j - 1) j (by omega) hj (by omega)
  simpa [List.getD_eq_getElem?_getD, hj, show j - 1 < l.length by omega] using this
theorem spansOk_ord {l : List Span} : spansOk l = true ↔ (∀ s ∈ l, spanOk s = true) ∧ Ord l := by
  rw [spansOk_iff]
  constructor
  · intro h
    refine ⟨spansOk_mem (spansOk_iff.2 h), ord_of fun j h0 hj => ?_⟩
    have := ((spanChk_iff l j).1 (h j hj)).2
    omega
  · rintro ⟨h1, h2⟩ j hj
    have hs := h1 _ (spanD_mem hj)
    rw [spanChk_iff]
    simp only [spanOk, Bool.and_eq_true, inR_t] at hs
    refine ⟨hs, ?_⟩
    by_cases h0 : j = 0
    · exact .inl h0
    · exact .inr (ord_step h2 (by omega) hj)


theorem ord_ge {l : List Span} (h : spansOk l = true) : ∀ j : Nat, j < l.length → (j : Int) ≤ (l.getD j (FT.zero .span)).at_ := by
  obtain ⟨h1, h2⟩ := spansOk_ord.1 h
  intro j
  induction j with
  | zero =>
    intro hj
    have hs := h1 _ (spanD_mem hj)
    simp only [spanOk, Bool.and_eq_true, inR_t] at hs
    omega
  | succ j ih =>
    intro hj
    have := ih (by omega)
    have := ord_step h2 (show 0 < j + 1 by omega) hj
    rw [Nat.add_sub_cancel] at this
    omega
theorem spansOk_len {l : List Span} (h : spansOk l = true) : l.length ≤ 24 := by
  by_cases h0 : l.length = 0
  · omega
  · have hj : l.length - 1 < l.length := by omega
    have := ord_ge h (l.length - 1) hj
    have hs := (spansOk_ord.1 h).1 _ (spanD_mem hj)
    simp only [spanOk, Bool.and_eq_true, inR_t] at hs
    omega
theorem heapOk_iff {h : Heap} : heapOk h = true ↔ memoryOk h.mem = true ∧ spansOk h.live = true ∧ spansOk h.waits = true ∧ ∀ c, c < 24 → cnt h.live c + cnt h.waits c ≤ 1 ∧ h.mem.gone.getD c false = decide (0 < cnt h.waits c) := by
  simp only [heapOk, Bool.and_eq_true, allR_iff, decide_eq_true_eq, beq_iff_eq, and_assoc]
theorem heapOk_len {h : Heap} (k : heapOk h = true) : LHeap h 24 := by
  obtain ⟨h1, h2, h3, h4⟩ := heapOk_iff.1 k
  obtain ⟨m1, m2, m3⟩ := memoryOk_iff.1 h1
  exact ⟨⟨by omega, by omega⟩, spansOk_len h2, spansOk_len h3⟩
def InSpan (l : List Span) (w : Word) : Prop := w.is = true → w.key.base < w.key.top → ∃ s ∈ l, s.at_ ≤ w.key.base ∧ w.key.top ≤ s.at_ + s.len
structure Good (h : Heap) (rs : List Word) : Prop where
  ok : heapOk h = true
  regs : ∀ w ∈ rs, wordOk w = true ∧ InSpan (h.live ++ h.waits) w
  mem : ∀ w ∈ h.mem.words, InSpan (h.live ++ h.waits) w
theorem Good.len {h : Heap} {rs : List Word} (g : Good h rs) : LHeap h 24 := heapOk_len g.ok



theorem idxGo_out {α : Type} {p : α → Bool} (z : α) : ∀ (xs : List α) (i : Nat), 0 ≤ idxGo p xs i → ∃ k : Nat, idxGo p xs i = ((i + k : Nat) : Int) ∧ k < xs.length ∧ p (xs.getD k z) = true ∧ ∀ j, j < k → p (xs.getD j z) = false
  | [], i, h => by simp [idxGo] at h
  | x :: xs, i, h => by
    unfold idxGo at h ⊢
    split
    · exact ⟨0, rfl, by simp, by simpa using ‹p x = true›, fun j hj => absurd hj (Nat.not_lt_zero _)⟩
    · rename_i hp
      rw [if_neg hp] at h
      obtain ⟨k, e, hk, hk1, hk2⟩ := idxGo_out z xs (i + 1) h
      refine ⟨k + 1, by rw [e]; congr 1; omega, by simpa using hk, by simpa using hk1, fun j hj => ?_⟩
      cases j with
      | zero => simpa using hp
      | succ j => simpa using hk2 j (by omega)
theorem idxOf_cases {α : Type} (p : α → Bool) (z : α) (xs : List α) : (idxOf p xs < 0 ∧ ∀ j, j < xs.length → p (xs.getD j z) = false) ∨
    ∃ k : Nat, idxOf p xs = (k : Int) ∧ k < xs.length ∧ p (xs.getD k z) = true ∧ ∀ j, j < k → p (xs.getD j z) = false := by
  by_cases h : 0 ≤ idxOf p xs
  · obtain ⟨k, e, h1, h2, h3⟩ := idxGo_out z xs 0 h
    exact .inr ⟨k, by rw [show idxOf p xs = idxGo p xs 0 from rfl, e, Nat.zero_add], h1, h2, h3⟩
  · refine .inl ⟨by omega, fun j hj => ?_⟩
    have ha := idxOf_any p xs
    rw [decide_eq_false h] at ha
    have := List.any_eq_false.1 ha.symm (xs.getD j z) (by rw [List.getD_eq_getElem?_getD, List.getElem?_eq_getElem hj]; exact List.getElem_mem hj)
    simpa using this









def pf_laws_toSeen : PF := ⟨[.c 2 true 4], .seq (.reg [.s (.box 1 (.t 0)), .s (.alloc 2 [.int .i64 0, .int .i64 0, .int .i64 0, .int .i64 0])]) (.seq (.reg [.s (.alloc 3 [.int .i64 0, .int .i64 0, .int .i64 0, .int .i64 0])]) (.seq (.reg [.s (.fa 4 (.t 1) 0), .s (.load 5 false 1 (.t 4)), .s (.fa 6 (.t 3) 0), .s (.store 1 (.t 6) (.t 5))]) (.seq (.reg [.s (.fa 7 (.t 1) 1), .s (.load 8 false 1 (.t 7)), .s (.fa 9 (.t 3) 1), .s (.store 1 (.t 9) (.t 8))]) (.seq (.reg [.s (.fa 10 (.t 1) 2), .s (.load 11 false 1 (.t 10)), .s (.fa 12 (.t 3) 2), .s (.store 1 (.t 12) (.t 11))]) (.seq (.reg [.s (.fa 13 (.t 1) 3), .s (.load 14 false 1 (.t 13)), .s (.fa 15 (.t 3) 3), .s (.store 1 (.t 15) (.t 14))]) (.seq (.reg [.s (.load 16 true 4 (.t 3)), .s (.store 4 (.t 2) (.t 16))]) (.ret)))))))⟩
def c_laws_toSeen : Fun := ⟨20, [], fun ts K => as1 ts fun t0 => arG pSeenT t0 fun a => K (tG (a.tc [])) []⟩
theorem run_laws_toSeen (a : Seen) : runK [] (0) [] pf_laws_toSeen [tG (a.tc [])] fun r o => r = tG (a.tc []) ∧ o = [] := by
  conv => whnf
  repeat' (first
    | exact rfl
    | exact trivial
    | (refine sel_i (fun h => ?_) (fun h => ?_) <;> conv => whnf)
    | (refine chk_c ?_ ?_ <;> conv => whnf)
    | (refine And.intro ?_ ?_ <;> conv => whnf))
theorem ok_laws_toSeen : FunOk Try.prog c_laws_toSeen := funOk (E := []) (envOk_nil) mixd Try.func20 (pf := pf_laws_toSeen) (by kernel_rfl) fun ts K h => by
  obtain ⟨t0, e0, h⟩ := as1_out h
  subst e0
  obtain ⟨a, e1, hq⟩ := arG_out rd_seen h
  clear h
  subst e1
  have h := hq
  clear hq
  exact ⟨_, _, h, Nat.le_of_ble_eq_true (show Nat.ble 1 Try.f20.ntmps = true by kernel_rfl), _, run_laws_toSeen a⟩

/-! strictly ascending lists: they are what their members are -/
def Asc (l : List Int) : Prop := l.Pairwise (fun a b => a < b)
theorem asc_ext : ∀ {a b : List Int}, Asc a → Asc b → (∀ x, x ∈ a ↔ x ∈ b) → a = b
  | [], [], _, _, _ => rfl
  | [], y :: b, _, _, h => by have := (h y).2 (by simp); cases this
  | x :: a, [], _, _, h => by have := (h x).1 (by simp); cases this
  | x :: a, y :: b, ha, hb, h => by
    obtain ⟨ha1, ha2⟩ := List.pairwise_cons.1 ha
    obtain ⟨hb1, hb2⟩ := List.pairwise_cons.1 hb
    have e : x = y := by
      have h1 := (h x).1 (by simp)
      have h2 := (h y).2 (by simp)
      rcases List.mem_cons.1 h1 with h1 | h1
      · exact h1
      · rcases List.mem_cons.1 h2 with h2 | h2
        · exact h2.symm
        · have := ha1 y h2
          have := hb1 x h1
          omega
    subst e
    congr 1
    refine asc_ext ha2 hb2 fun z => ?_
    have hz := h z
    simp only [List.mem_cons] at hz
    constructor
    · intro hm
      have := ha1 z hm
      rcases hz.1 (.inr hm) with h3 | h3
      · omega
      · exact h3
    · intro hm
      have := hb1 z hm
      rcases hz.2 (.inr hm) with h3 | h3
      · omega
      · exact h3
def compGo (p : Int) : List Int → List Int
  | [] => []
  | y :: ys => if y = p then compGo p ys else y :: compGo y ys
def compI : List Int → List Int
  | [] => []
  | x :: xs => x :: compGo x xs
def Up (l : List Int) : Prop := l.Pairwise (fun a b => a ≤ b)
theorem compGo_mem : ∀ {l : List Int} {p x : Int}, x ∈ compGo p l → x ∈ l
  | y :: ys, p, x, h => by
    unfold compGo at h
    split at h
    · exact List.mem_cons_of_mem _ (compGo_mem h)
    · rcases List.mem_cons.1 h with h | h
      · rw [h]; simp
      · exact List.mem_cons_of_mem _ (compGo_mem h)
theorem compGo_in : ∀ {l : List Int} {p x : Int}, x ∈ l → x = p ∨ x ∈ compGo p l
  | y :: ys, p, x, h => by
    unfold compGo
    rcases List.mem_cons.1 h with h | h
    · split
      · left; omega
      · right; rw [h]; simp
    · split
      · exact compGo_in h
      · rcases compGo_in (p := y) h with h | h
        · right; rw [h]; simp
        · right; exact List.mem_cons_of_mem _ h
theorem compGo_asc : ∀ {l : List Int} {p : Int}, Up (p :: l) → Asc (p :: compGo p l)
  | [], p, _ => List.pairwise_singleton _ _
  | y :: ys, p, h => by
    obtain ⟨h1, h2⟩ := List.pairwise_cons.1 h
    unfold compGo
    split
    · rename_i e
      subst e
      exact compGo_asc h2
    · rename_i e
      have hy := h1 y (by simp)
      have ih := compGo_asc h2
      refine List.pairwise_cons.2 ⟨fun z hz => ?_, ih⟩
      rcases List.mem_cons.1 hz with hz | hz
      · omega
      · have := (List.pairwise_cons.1 ih).1 z hz
        omega
theorem compI_asc : ∀ {l : List Int}, Up l → Asc (compI l)
  | [], _ => List.Pairwise.nil
  | _ :: _, h => compGo_asc h
theorem compI_mem {l : List Int} {x : Int} : x ∈ compI l ↔ x ∈ l := by
  cases l with
  | nil => exact Iff.rfl
  | cons y ys =>
    unfold compI
    constructor
    · intro h
      rcases List.mem_cons.1 h with h | h
      · rw [h]; simp
      · exact List.mem_cons_of_mem _ (compGo_mem h)
    · intro h
      rcases List.mem_cons.1 h with h | h
      · rw [h]; simp
      · rcases compGo_in (p := y) h with h | h
        · rw [h]; simp
        · exact List.mem_cons_of_mem _ h
def insI (a : Int) : List Int → List Int
  | [] => [a]
  | y :: ys => if y < a then y :: insI a ys else if y = a then y :: ys else a :: y :: ys
theorem insI_mem : ∀ {l : List Int} {a x : Int}, x ∈ insI a l ↔ x = a ∨ x ∈ l
  | [], a, x => by simp [insI]
  | y :: ys, a, x => by
    unfold insI
    split
    · rw [List.mem_cons, insI_mem, List.mem_cons]
      constructor
      · rintro (h | h | h) <;> simp [h]
      · rintro (h | h | h) <;> simp [h]
    · split
      · rename_i e
        rw [List.mem_cons]
        constructor
        · rintro (h | h) <;> simp [h]
        · rintro (h | h | h)
          · left; omega
          · exact .inl h
          · exact .inr h
      · simp
theorem insI_asc : ∀ {l : List Int} {a : Int}, Asc l → Asc (insI a l)
  | [], a, _ => List.pairwise_singleton _ _
  | y :: ys, a, h => by
    obtain ⟨h1, h2⟩ := List.pairwise_cons.1 h
    unfold insI
    split
    · refine List.pairwise_cons.2 ⟨fun z hz => ?_, insI_asc h2⟩
      rcases insI_mem.1 hz with hz | hz
      · omega
      · exact h1 z hz
    · split
      · exact h
      · refine List.pairwise_cons.2 ⟨fun z hz => ?_, h⟩
        rcases List.mem_cons.1 hz with hz | hz
        · omega
        · have := h1 z hz; omega

def sortedI (xs : List Int) : List Int := xs.mergeSort fun x y => decide (x ≤ y)
theorem sortedI_up (xs : List Int) : Up (sortedI xs) := by
  have := List.pairwise_mergeSort (le := fun x y : Int => decide (x ≤ y)) (fun a b c h1 h2 => by
    simp only [decide_eq_true_eq] at h1 h2 ⊢; omega) (fun a b => by
    simp only [Bool.or_eq_true, decide_eq_true_eq]; omega) xs
  exact this.imp (fun h => of_decide_eq_true h)
theorem sortedI_mem {xs : List Int} {x : Int} : x ∈ sortedI xs ↔ x ∈ xs := List.mem_mergeSort
def setI (xs : List Int) : List Int := compI (sortedI xs)
theorem setI_asc (xs : List Int) : Asc (setI xs) := compI_asc (sortedI_up xs)
theorem setI_mem {xs : List Int} {x : Int} : x ∈ setI xs ↔ x ∈ xs := by
  unfold setI; rw [compI_mem, sortedI_mem]
theorem fold_asc : ∀ (xs : List Int) {o : List Int}, Asc o → Asc (xs.foldl (fun o a => insI a o) o)
  | [], _, h => h
  | x :: xs, o, h => fold_asc xs (insI_asc h)
theorem fold_mem : ∀ (xs : List Int) {o : List Int} {x : Int}, x ∈ xs.foldl (fun o a => insI a o) o ↔ x ∈ o ∨ x ∈ xs
  | [], o, x => by simp
  | y :: xs, o, x => by
    rw [List.foldl_cons, fold_mem xs, insI_mem, List.mem_cons]
    constructor
    · rintro ((h | h) | h) <;> simp [h]
    · rintro (h | h | h) <;> simp [h]
theorem setI_fold (xs : List Int) : setI xs = xs.foldl (fun o a => insI a o) [] :=
  asc_ext (setI_asc xs) (fold_asc xs List.Pairwise.nil) fun x => by rw [setI_mem, fold_mem]; simp
theorem setI_len (xs : List Int) : (setI xs).length ≤ xs.length := by
  have h1 : ∀ (l : List Int) (p : Int), (compGo p l).length ≤ l.length := by
    intro l
    induction l with
    | nil => intro p; exact Nat.le_refl _
    | cons y ys ih =>
      intro p
      unfold compGo
      split
      · have := ih p; simp only [List.length_cons]; omega
      · have := ih y; simp only [List.length_cons]; omega
  have h2 : (sortedI xs).length = xs.length := List.length_mergeSort xs
  unfold setI
  cases hs : sortedI xs with
  | nil => exact Nat.zero_le _
  | cons y ys =>
    rw [hs] at h2
    have := h1 ys y
    unfold compI
    simp only [List.length_cons] at h2 ⊢
    omega

def pf_slices_Sort_int : PF := ⟨[], .seq (.reg [.s (.mv 3 (.t 0)), .s (.len 4 false (.t 3)), .s (.mv 2 (.t 4))]) (.reg [.s (.mv 5 (.t 0)), .s (.mv 6 (.t 2)), .s (.mv 7 (.t 2)), .s (.conv 8 .u64 (.t 7)), .s (.call (some 9) 32 [(.t 8)]), .s (.call (some 10) 31 [(.t 5), (.k (.v (.c (.int .i64 0)))), (.t 6), (.t 9)])])⟩
def c_slices_Sort_int : Fun := sortFun 21
theorem ok_slices_Sort_int : FunOk Try.prog c_slices_Sort_int :=
  sort_ok (callable_of Try.func21 (pf := pf_slices_Sort_int) (by kernel_rfl)) (fun blk off cap zs w h1 h2 h3 => Try.slices_Sort_int blk off cap zs w h1 h2 h3) (fun p cap w => Try.slices_Sort_int_none p cap w)

def pf_laws_szSeenS : PF := ⟨[.t 4], .seq (.reg [.s (.mv 4 (.k (.v (.c (.int .i64 0)))))]) (.seq (.reg [.s (.mv 5 (.t 1)), .s (.mv 6 (.t 0)), .s (.len 7 false (.t 6)), .s (.bin 8 .sub (.t 5) (.t 7)), .s (.mv 1 (.t 8))]) (.seq (.seq (.reg [.s (.mv 9 (.t 1)), .s (.bin 10 .lss (.t 9) (.k (.v (.c (.int .i64 0)))))]) (.cond (.t 10) (.seq (.reg [.s (.mv 4 (.k (.v (.c (.int .i64 (-1))))))]) (.ret)) (.skip))) (.seq (.reg [.s (.mv 11 (.t 1)), .s (.mv 4 (.t 11))]) (.ret))))⟩
def c_laws_szSeenS : Fun := ⟨5, [], fun ts K => as2 ts fun t0 t1 => arC (pL .seen) t0 fun a => arC (pI .i64) t1 fun k => chk (a.length ≤ 9223372036854775807 ∧ 0 ≤ k ∧ k ≤ 1048576) (K (tN (szr k a.length)) [])⟩
theorem run_laws_szSeenS (a : List (FT.Ty .seen)) (k : Int) (hpre : a.length ≤ 9223372036854775807 ∧ 0 ≤ k ∧ k ≤ 1048576) : runK [] (0) [] pf_laws_szSeenS [tL false .seen a, tI .i64 k] fun r o => r = tN (szr k a.length) ∧ o = [] := by
  conv => whnf
  rw [wrap_id (by omega) (by omega)]
  refine sel_i (fun h => ?_) (fun h => ?_) <;> conv => whnf
  · refine ⟨?_, rfl⟩; rw [szr_t (by simpa using h)]
  · refine ⟨?_, rfl⟩; rw [szr_f (by simpa using h)]
theorem ok_laws_szSeenS : FunOk Try.prog c_laws_szSeenS := funOk (E := []) (envOk_nil) mixd Try.func5 (pf := pf_laws_szSeenS) (by kernel_rfl) fun ts K h => by
  obtain ⟨t0, t1, e0, h⟩ := as2_out h
  subst e0
  obtain ⟨a, e1, hq⟩ := arC_out (rd_l .seen) h
  clear h
  subst e1
  have h := hq
  clear hq
  obtain ⟨k, e1, hq⟩ := arC_out (rd_int .i64) h
  clear h
  subst e1
  have h := hq
  clear hq
  obtain ⟨hpre, h⟩ := chk_o h
  exact ⟨_, _, h, Nat.le_of_ble_eq_true (show Nat.ble 2 Try.f5.ntmps = true by kernel_rfl), _, run_laws_szSeenS a k hpre⟩

def lb_laws_toSeenS_0 : PC := .seq (.seq (.reg [.s (.mv 8 (.t 4)), .s (.mv 9 (.t 0)), .s (.len 10 false (.t 9)), .s (.bin 11 .lss (.t 8) (.t 10))]) (.cond (.t 11) (.skip) (.exit 0))) (.seq (.blk 1 (.reg [.s (.mv 14 (.t 3)), .s (.mv 15 (.t 4)), .s (.mv 16 (.t 0)), .s (.mv 17 (.t 4)), .s (.ia 18 .seen (.t 16) (.t 17)), .s (.load 19 true 4 (.t 18)), .s (.call (some 20) 20 [(.t 19)]), .s (.ia 21 .seen (.t 14) (.t 15)), .s (.store 4 (.t 21) (.t 20))])) (.reg [.s (.mv 12 (.t 4)), .s (.bin 13 .add (.t 12) (.k (.v (.c (.int .i64 1))))), .s (.mv 4 (.t 13))]))
def pf_laws_toSeenS : PF := ⟨[.t 2], .seq (.reg [.s (.mv 2 (.k (.v (.c (.nils .seen)))))]) (.seq (.reg [.s (.mv 5 (.t 0)), .s (.len 6 false (.t 5)), .s (.mkS 7 .seen (.t 6)), .s (.mv 3 (.t 7))]) (.seq (.seq (.reg [.s (.mv 4 (.k (.v (.c (.int .i64 0)))))]) (.blk 0 (.loop [0, 3, 4] lb_laws_toSeenS_0))) (.seq (.reg [.s (.mv 22 (.t 3)), .s (.mv 2 (.t 22))]) (.ret))))⟩
def c_laws_toSeenS : Fun := ⟨7, [], fun ts K => as1 ts fun t0 => arC (pL .seen) t0 fun a => chk (a.length ≤ 2147483647) (K (tL true .seen a) [])⟩
theorem run_laws_toSeenS (a : List (FT.Ty .seen)) (hpre : a.length ≤ 2147483647) : runK [c_laws_toSeen] (a.length + 1) [] pf_laws_toSeenS [tL false .seen a] fun r o => r = tL true .seen a ∧ o = [] := by
  conv => whnf
  refine chk_i ⟨by omega, by omega⟩ ?_
  conv => whnf
  refine loop (α := Nat × List (FT.Ty .seen)) (fun p => ⟨[(0, .v (.c (.sl false .seen 0))), (3, .v (.c (.sl true .seen 1))), (4, .v (.c (.int .i64 (p.1 : Int))))], [(1, some (.flat true .seen none p.2)), (0, some (.flat false .seen none a))], nums.tail.tail, [], false, []⟩)
      (fun p => p.1 ≤ a.length ∧ p.2 = a.take p.1 ++ (List.replicate a.length (FT.zero .seen)).drop p.1) (fun p => a.length - p.1) (fun p R hI hR => ?_) (0, List.replicate a.length (FT.zero .seen)) _ ⟨by simp, by simp⟩ (by simp)
  obtain ⟨i, xs⟩ := p
  obtain ⟨hi, hx⟩ := hI
  dsimp only at hi hx
  have hlen : xs.length = a.length := by rw [hx]; simp; omega
  dsimp only
  conv => whnf
  refine sel_i (fun h2 => ?_) (fun h2 => ?_)
  · have hlt : i < a.length := by simp at h2; omega
    have hge : a[i]? = some (a.getD i (FT.zero .seen)) := by simp [List.getD_eq_getElem?_getD, hlt]
    conv => whnf
    repeat' (refine chk_c ?_ ?_ <;> conv => whnf)
    all_goals first
      | (refine ⟨?_⟩; omega)
      | (refine ⟨?_⟩; simp; done)
      | (refine ⟨?_⟩; simp; omega)
      | skip
    simp (disch := omega) only [wrap_id, Int.toNat_natCast]
    exact hR (i + 1, xs.set i (a.getD i (FT.zero .seen))) ⟨by omega, by rw [hx]; exact set_mid (by simp) (by simpa using hlt) hge⟩ (by simp; omega)
  · have hge : i = a.length := by simp at h2; omega
    subst hge
    conv => whnf
    refine ⟨?_, rfl⟩
    rw [hx, List.take_of_length_le (by omega), List.drop_eq_nil_of_le (by simp), List.append_nil]
theorem ok_laws_toSeenS : FunOk Try.prog c_laws_toSeenS := funOk (E := [c_laws_toSeen]) (envOk_cons ok_laws_toSeen (envOk_nil)) mixd Try.func7 (pf := pf_laws_toSeenS) (by kernel_rfl) fun ts K h => by
  obtain ⟨t0, e0, h⟩ := as1_out h
  subst e0
  obtain ⟨a, e1, hq⟩ := arC_out (rd_l .seen) h
  clear h
  subst e1
  have h := hq
  clear hq
  obtain ⟨hpre, h⟩ := chk_o h
  exact ⟨_, _, h, Nat.le_of_ble_eq_true (show Nat.ble 1 Try.f7.ntmps = true by kernel_rfl), _, run_laws_toSeenS a hpre⟩

/-! neighbours that are alike, in place -/
def endI (p : Int) : List Int → Int
  | [] => p
  | y :: ys => endI y ys
theorem compGo_snoc : ∀ (l : List Int) (p x : Int), compGo p (l ++ [x]) = if x = endI p l then compGo p l else compGo p l ++ [x]
  | [], p, x => by
    simp only [List.nil_append, compGo, endI]
    rfl
  | y :: ys, p, x => by
    have ih := compGo_snoc ys y x
    have e1 : compGo p (y :: ys ++ [x]) = if y = p then compGo p (ys ++ [x]) else y :: compGo y (ys ++ [x]) := rfl
    have e2 : compGo p (y :: ys) = if y = p then compGo p ys else y :: compGo y ys := rfl
    by_cases hx : x = endI y ys
    · rw [if_pos hx] at ih
      rw [if_pos (show x = endI p (y :: ys) from hx), e1, e2]
      by_cases h : y = p
      · rw [if_pos h, if_pos h, ← h, ih]
      · rw [if_neg h, if_neg h, ih]
    · rw [if_neg hx] at ih
      rw [if_neg (show ¬ x = endI p (y :: ys) from hx), e1, e2]
      by_cases h : y = p
      · rw [if_pos h, if_pos h, ← h, ih]
      · rw [if_neg h, if_neg h, ih, List.cons_append]
theorem endI_getD : ∀ (l : List Int) (p : Int), endI p l = (p :: l).getD l.length 0
  | [], p => rfl
  | y :: ys, p => by
    simp only [endI]
    rw [endI_getD ys y]
    simp
theorem compI_snoc {l : List Int} (x : Int) (h : 0 < l.length) : compI (l ++ [x]) = if x = l.getD (l.length - 1) 0 then compI l else compI l ++ [x] := by
  cases l with
  | nil => simp at h
  | cons y ys =>
    simp only [List.cons_append, compI]
    rw [compGo_snoc, endI_getD]
    simp only [List.length_cons, Nat.add_sub_cancel]
    split <;> rfl
theorem take_snoc {α : Type} {s : List α} {m : Nat} {z : α} (h : m < s.length) : s.take (m + 1) = s.take m ++ [s.getD m z] := by
  rw [List.take_add_one, List.getElem?_eq_getElem h, List.getD_eq_getElem?_getD, List.getElem?_eq_getElem h]; rfl
theorem compI_step {s : List Int} {m : Nat} (h0 : 0 < m) (h : m < s.length) : compI (s.take (m + 1)) = if s.getD m (FT.zero (.int .i64)) = s.getD (m - 1) (FT.zero (.int .i64)) then compI (s.take m) else compI (s.take m) ++ [s.getD m (FT.zero (.int .i64))] := by
  have hl : (s.take m).length = m := by rw [List.length_take]; omega
  rw [take_snoc (z := FT.zero (.int .i64)) h, compI_snoc _ (by omega), hl]
  have e : (s.take m).getD (m - 1) 0 = s.getD (m - 1) (FT.zero (.int .i64)) := by
    rw [List.getD_eq_getElem?_getD, List.getD_eq_getElem?_getD, List.getElem?_take, if_pos (by omega)]; rfl
  rw [e]
theorem over_take {α : Type} (c z : List α) (a : Nat) (h : a ≤ c.length) : win (over c (0 + a) z) 0 a = c.take a := by
  unfold win over
  rw [List.drop_zero, Nat.zero_add, List.append_assoc, List.take_append_of_le_length (by rw [List.length_take]; omega), List.take_take, Nat.min_self]
theorem over_len0 {α : Type} (c z : List α) (a : Nat) (h : a + z.length ≤ c.length) : (over c (0 + a) z).length = c.length := by
  unfold over
  simp only [List.length_append, List.length_take, List.length_drop]; omega
theorem dropK_getD {α : Type} {c s : List α} {k i : Nat} (z : α) (h : c.drop k = s.drop k) (hk : k ≤ i) : c.getD i z = s.getD i z := by
  have := congrArg (fun l => l.getD (i - k) z) h
  simp only [List.getD_eq_getElem?_getD, List.getElem?_drop] at this ⊢
  rw [show k + (i - k) = i by omega] at this
  exact this
theorem drop_set {α : Type} {c s : List α} {k : Nat} {v : α} (h : c.drop k = s.drop k) : (c.set k v).drop (k + 1) = s.drop (k + 1) := by
  have e : (c.set k v).drop (k + 1) = c.drop (k + 1) := by rw [List.drop_set]; simp
  rw [e]
  have := congrArg (List.drop 1) h
  simpa [List.drop_drop, Nat.add_comm] using this
theorem take_set_snoc {α : Type} {c : List α} {k : Nat} {v : α} (h : k < c.length) : (c.set k v).take (k + 1) = c.take k ++ [v] := by
  rw [take_snoc (z := v) (by simpa using h), List.take_set_of_le (Nat.le_refl _)]
  simp [List.getD_eq_getElem?_getD, h]

def lb_slices_Compact_int_0 : PC := .seq (.seq (.reg [.s (.mv 29 (.t 5)), .s (.mv 30 (.t 4)), .s (.len 31 false (.t 30)), .s (.bin 32 .lss (.t 29) (.t 31))]) (.cond (.t 32) (.skip) (.exit 2))) (.seq (.blk 3 (.seq (.rgd [] [.s (.mv 35 (.t 4)), .s (.mv 36 (.t 5)), .s (.ia 37 (.int .i64) (.t 35) (.t 36)), .s (.load 38 false 1 (.t 37)), .s (.mv 39 (.t 4)), .s (.mv 40 (.t 5)), .s (.bin 41 .sub (.t 40) (.k (.v (.c (.int .i64 1))))), .s (.ia 42 (.int .i64) (.t 39) (.t 41)), .s (.load 43 false 1 (.t 42)), .s (.bin 44 .neq (.t 38) (.t 43))] (.tk 0 (.tk 1 (.tk 2 (.tk 3 (.tk 4 (.tk 5 (.tk 6 (.tk 7 (.tk 8 (.tk 9 (.done none)))))))))))) (.cond (.t 44) (.seq (.reg [.s (.mv 45 (.t 0)), .s (.mv 46 (.t 3)), .s (.mv 47 (.t 4)), .s (.mv 48 (.t 5)), .s (.ia 49 (.int .i64) (.t 47) (.t 48)), .s (.load 50 false 1 (.t 49)), .s (.ia 51 (.int .i64) (.t 45) (.t 46)), .s (.store 1 (.t 51) (.t 50))]) (.reg [.s (.mv 52 (.t 3)), .s (.bin 53 .add (.t 52) (.k (.v (.c (.int .i64 1))))), .s (.mv 3 (.t 53))])) (.skip)))) (.reg [.s (.mv 33 (.t 5)), .s (.bin 34 .add (.t 33) (.k (.v (.c (.int .i64 1))))), .s (.mv 5 (.t 34))]))
def lb_slices_Compact_int_1 : PC := .seq (.seq (.reg [.s (.mv 10 (.t 3)), .s (.mv 11 (.t 0)), .s (.len 12 false (.t 11)), .s (.bin 13 .lss (.t 10) (.t 12))]) (.cond (.t 13) (.skip) (.exit 0))) (.seq (.blk 1 (.seq (.rgd [] [.s (.mv 16 (.t 0)), .s (.mv 17 (.t 3)), .s (.ia 18 (.int .i64) (.t 16) (.t 17)), .s (.load 19 false 1 (.t 18)), .s (.mv 20 (.t 0)), .s (.mv 21 (.t 3)), .s (.bin 22 .sub (.t 21) (.k (.v (.c (.int .i64 1))))), .s (.ia 23 (.int .i64) (.t 20) (.t 22)), .s (.load 24 false 1 (.t 23)), .s (.bin 25 .eql (.t 19) (.t 24))] (.tk 0 (.tk 1 (.tk 2 (.tk 3 (.tk 4 (.tk 5 (.tk 6 (.tk 7 (.tk 8 (.tk 9 (.done none)))))))))))) (.cond (.t 25) (.seq (.reg [.s (.mv 26 (.t 0)), .s (.mv 27 (.t 3)), .s (.slc 28 (.int .i64) (.t 26) (some (.t 27)) none), .s (.mv 4 (.t 28))]) (.seq (.seq (.reg [.s (.mv 5 (.k (.v (.c (.int .i64 1)))))]) (.blk 2 (.loop [0, 3, 4, 5] lb_slices_Compact_int_0))) (.seq (.reg [.s (.mv 54 (.t 0)), .s (.mv 55 (.t 3)), .s (.slc 56 (.int .i64) (.t 54) (some (.t 55)) none), .s (.clr (.int .i64) (.t 56))]) (.seq (.reg [.s (.mv 57 (.t 0)), .s (.mv 58 (.t 3)), .s (.slc 59 (.int .i64) (.t 57) none (some (.t 58))), .s (.mv 2 (.t 59))]) (.ret))))) (.skip)))) (.reg [.s (.mv 14 (.t 3)), .s (.bin 15 .add (.t 14) (.k (.v (.c (.int .i64 1))))), .s (.mv 3 (.t 15))]))
def pf_slices_Compact_int : PF := ⟨[.t 2], .seq (.reg [.s (.mv 2 (.k (.v (.c (.nils (.int .i64))))))]) (.seq (.seq (.reg [.s (.mv 6 (.t 0)), .s (.len 7 false (.t 6)), .s (.bin 8 .lss (.t 7) (.k (.v (.c (.int .i64 2)))))]) (.cond (.t 8) (.seq (.reg [.s (.mv 9 (.t 0)), .s (.mv 2 (.t 9))]) (.ret)) (.skip))) (.seq (.seq (.reg [.s (.mv 3 (.k (.v (.c (.int .i64 1)))))]) (.blk 0 (.loop [0, 3] lb_slices_Compact_int_1))) (.seq (.reg [.s (.mv 60 (.t 0)), .s (.mv 2 (.t 60))]) (.ret))))⟩
def c_slices_Compact_int : Fun := ⟨22, [true], fun ts K => as1 ts fun t0 => arC (pO (.int .i64)) t0 fun s => chk (s.length ≤ 2147483647) (K (tL true (.int .i64) (compI s)) ([.v (.c .unk)]))⟩
theorem run_slices_Compact_int (s : List (FT.Ty (.int .i64))) (hpre : s.length ≤ 2147483647) : runK [] (s.length + 1) [true] pf_slices_Compact_int [tL true (.int .i64) s] fun r o => r = tL true (.int .i64) (compI s) ∧ o = [.v (.c .unk)] := by
  conv => whnf
  repeat' (first | (refine sel_i (fun h => ?_) (fun h => ?_) <;> conv => whnf) | (refine chk_c ?_ ?_ <;> conv => whnf) | (refine And.intro ?_ rfl) | (refine And.intro ?_ ?_ <;> conv => whnf))
  · have hl : s.length < 2 := by have := of_decide_eq_true h; omega
    have e : compI s = s := by
      match s, hl with
      | [], _ => rfl
      | [x], _ => rfl
    rw [e]
  · have hl : 2 ≤ s.length := by have := of_decide_eq_false h; omega
    refine loop (α := Nat) (fun k => ⟨[(0, .v (.c (.sl false (.int .i64) 0))), (3, .v (.c (.int .i64 (k : Int))))], [(0, some (.flat true (.int .i64) none s))], nums.tail, [.v (.c (.sl false (.int .i64) 0))], false, []⟩)
      (fun k => 1 ≤ k ∧ k ≤ s.length ∧ compI (s.take k) = s.take k) (fun k => s.length - k) (fun k R hI hR => ?_) 1 _ ⟨by omega, by omega, by
        match s, hl with
        | x :: y :: xs, _ => rfl⟩ (by omega)
    obtain ⟨hk1, hk, hx⟩ := hI
    have w1 : IntKind.i64.wrap ((k : Int) - 1) = (k : Int) - 1 := wrap_id (by omega) (by omega)
    have t1 : ((k : Int) - 1).toNat = k - 1 := by omega
    conv => whnf
    repeat' (first | (refine sel_i (fun h => ?_) (fun h => ?_) <;> conv => whnf) | (refine chk_c ?_ ?_ <;> conv => whnf) | (refine And.intro ?_ rfl) | (refine And.intro ?_ ?_ <;> conv => whnf))
    all_goals (try simp only [w1, t1, Int.toNat_natCast, decide_eq_true_eq, decide_eq_false_iff_not, beq_iff_eq, beq_eq_false_iff_ne] at *)
    all_goals first
      | (refine ⟨?_⟩; omega)
      | (rw [List.take_of_length_le (by omega)] at hx; rw [hx]; done)
      | (rw [wrap_id (n := (k : Int) + 1) (by omega) (by omega)]; exact hR (k + 1) ⟨by omega, by omega, by rw [compI_step (by omega) (by omega), if_neg (by assumption), hx, take_snoc (z := FT.zero (.int .i64)) (by omega)]⟩ (by omega))
      | skip
    rename_i hlt
    have hs2 : ((s.length : Int) - k).toNat = s.length - k := by omega
    rw [Nat.zero_add, hs2]
    clear hR
    refine loop (α := Nat × Nat × List Int) (fun p => ⟨[(0, .v (.c (.sl false (.int .i64) 0))), (3, .v (.c (.int .i64 (p.1 : Int)))), (4, .v (.c (.slp false (.int .i64) 0 k (s.length - k)))), (5, .v (.c (.int .i64 (p.2.1 : Int))))], [(0, some (.flat true (.int .i64) none p.2.2))], nums.tail, [.v (.c (.sl false (.int .i64) 0))], false, []⟩)
      (fun p => k ≤ p.1 ∧ p.1 + 1 ≤ k + p.2.1 ∧ k + p.2.1 ≤ s.length ∧ p.2.2.length = s.length ∧ p.2.2.take p.1 = compI (s.take (k + p.2.1)) ∧ p.2.2.drop p.1 = s.drop p.1) (fun p => s.length - k - p.2.1) (fun p R hI hR => ?_) (k, 1, s) _
      ⟨by simp, by simp, by dsimp only; omega, rfl, by dsimp only; rw [compI_step (by omega) (by omega), if_pos h, hx], rfl⟩ (by dsimp only; omega)
    obtain ⟨a, b, c⟩ := p
    obtain ⟨h1, h2, h3, h4, h5, h6⟩ := hI
    dsimp only at h1 h2 h3 h4 h5 h6 ⊢
    have w2 : IntKind.i64.wrap ((b : Int) - 1) = (b : Int) - 1 := wrap_id (by omega) (by omega)
    have t2 : ((b : Int) - 1).toNat = b - 1 := by omega
    conv => whnf
    repeat' (first | (refine sel_i (fun h => ?_) (fun h => ?_) <;> conv => whnf) | (refine chk_c ?_ ?_ <;> conv => whnf) | (refine And.intro ?_ rfl) | (refine And.intro ?_ ?_ <;> conv => whnf))
    all_goals (try simp only [w2, t2, Int.toNat_natCast, decide_eq_true_eq, decide_eq_false_iff_not, bne_iff_ne, bne_eq_false_iff_eq, ne_eq] at *)
    all_goals first
      | (refine ⟨?_⟩; omega)
      | skip
    · rw [wrap_id (n := (a : Int) + 1) (by omega) (by omega), wrap_id (n := (b : Int) + 1) (by omega) (by omega)]
      refine hR (a + 1, b + 1, c.set a (c.getD (k + b) (FT.zero (.int .i64)))) ⟨by dsimp only; omega, by dsimp only; omega, by dsimp only; omega, by dsimp only; simpa using h4, ?_, drop_set h6⟩ (by dsimp only; omega)
      dsimp only
      have g1 := dropK_getD (FT.zero (.int .i64)) h6 (show a ≤ k + b by omega)
      have g2 := dropK_getD (FT.zero (.int .i64)) h6 (show a ≤ k + (b - 1) by omega)
      rw [g1, g2] at h
      rw [take_set_snoc (by omega), show k + (b + 1) = (k + b) + 1 by omega, compI_step (by omega) (by omega), show k + b - 1 = k + (b - 1) by omega, if_neg h, h5, g1]
    · rw [wrap_id (n := (b : Int) + 1) (by omega) (by omega)]
      refine hR (a, b + 1, c) ⟨h1, by dsimp only; omega, by dsimp only; omega, h4, ?_, h6⟩ (by dsimp only; omega)
      dsimp only
      have g1 := dropK_getD (FT.zero (.int .i64)) h6 (show a ≤ k + b by omega)
      have g2 := dropK_getD (FT.zero (.int .i64)) h6 (show a ≤ k + (b - 1) by omega)
      rw [g1, g2] at h
      rw [show k + (b + 1) = (k + b) + 1 by omega, compI_step (by omega) (by omega), show k + b - 1 = k + (b - 1) by omega, if_pos h, h5]
    · refine ⟨?_⟩
      rw [over_len0 _ _ _ (by rw [List.length_replicate]; omega)]; omega
    · rw [over_take _ _ _ (by omega), h5, List.take_of_length_le (by omega)]
theorem ok_slices_Compact_int : FunOk Try.prog c_slices_Compact_int := funOk (E := []) (envOk_nil) mixd Try.func22 (pf := pf_slices_Compact_int) (by kernel_rfl) fun ts K h => by
  obtain ⟨t0, e0, h⟩ := as1_out h
  subst e0
  obtain ⟨s, e1, hq⟩ := arC_out (rd_o (.int .i64)) h
  clear h
  subst e1
  have h := hq
  clear hq
  obtain ⟨hpre, h⟩ := chk_o h
  exact ⟨_, _, h, Nat.le_of_ble_eq_true (show Nat.ble 1 Try.f22.ntmps = true by kernel_rfl), _, run_slices_Compact_int s hpre⟩

def pf_impl_nextPlaces_1 : PF := ⟨[.t 3], .seq (.reg [.s (.mv 3 (.k (.v (.c .ff))))]) (.seq (.reg [.s (.mv 4 (.t 0)), .s (.load 5 false 1 (.t 1)), .s (.len 6 false (.t 5)), .s (.bin 7 .sub (.t 6) (.k (.v (.c (.int .i64 1))))), .s (.call (some 8) 28 [(.t 4), (.k (.v (.c (.int .i64 0)))), (.t 7)]), .s (.bnot 9 (.t 8)), .s (.mv 3 (.t 9))]) (.ret))⟩
def c_impl_nextPlaces_1 : Fun := ⟨38, [], fun ts K => as2 ts fun t0 t1 => arC (pI .i64) t0 fun n => arP (pL .inst) t1 fun g => chk (g.length ≤ 2147483647) (K (tB (!inR n 0 (g.length - 1))) [])⟩
theorem run_impl_nextPlaces_1 (n : Int) (g : List (FT.Ty .inst)) (hpre : g.length ≤ 2147483647) : runK [c_impl_in] (0) [] pf_impl_nextPlaces_1 [tI .i64 n, .v (.ptr false 0 [tl false .inst g])] fun r o => r = tB (!inR n 0 (g.length - 1)) ∧ o = [] := by
  have w1 : IntKind.i64.wrap ((g.length : Int) - 1) = (g.length : Int) - 1 := wrap_id (by omega) (by omega)
  conv => whnf
  repeat' (first | (refine sel_i (fun h => ?_) (fun h => ?_) <;> conv => whnf) | (refine chk_c ?_ ?_ <;> conv => whnf) | (refine And.intro ?_ rfl) | (refine And.intro ?_ ?_ <;> conv => whnf))
  all_goals (simp only [w1])
theorem ok_impl_nextPlaces_1 : FunOk Try.prog c_impl_nextPlaces_1 := funOk (E := [c_impl_in]) (envOk_cons ok_impl_in (envOk_nil)) mixd Try.func38 (pf := pf_impl_nextPlaces_1) (by kernel_rfl) fun ts K h => by
  obtain ⟨t0, t1, e0, h⟩ := as2_out h
  subst e0
  obtain ⟨n, e1, hq⟩ := arC_out (rd_int .i64) h
  clear h
  subst e1
  have h := hq
  clear hq
  obtain ⟨g, e1, hq⟩ := arP_out (rd_l .inst) h
  clear h
  subst e1
  have h := hq
  clear hq
  obtain ⟨hpre, h⟩ := chk_o h
  exact ⟨_, _, h, Nat.le_of_ble_eq_true (show Nat.ble 2 Try.f38.ntmps = true by kernel_rfl), _, run_impl_nextPlaces_1 n g hpre⟩

def lb_slices_IndexFunc_int_0 : PC := .seq (.reg [.s (.bin 9 .lss (.t 8) (.t 7))]) (.seq (.cond (.t 9) (.skip) (.exit 0)) (.seq (.blk 1 (.seq (.reg [.s (.mv 10 (.t 8)), .s (.mv 5 (.t 10))]) (.seq (.reg [.s (.mv 11 (.t 1)), .s (.mv 12 (.t 0)), .s (.mv 13 (.t 5)), .s (.ia 14 (.int .i64) (.t 12) (.t 13)), .s (.load 15 false 1 (.t 14)), .s (.callv (some 16) (.t 11) [(.t 15)])]) (.cond (.t 16) (.seq (.reg [.s (.mv 17 (.t 5)), .s (.mv 4 (.t 17))]) (.ret)) (.skip))))) (.reg [.s (.bin 18 .add (.t 8) (.k (.v (.c (.int .i64 1))))), .s (.mv 8 (.t 18))])))
def pf_slices_IndexFunc_int : PF := ⟨[.t 4], .seq (.reg [.s (.mv 4 (.k (.v (.c (.int .i64 0)))))]) (.seq (.seq (.reg [.s (.mv 6 (.t 0)), .s (.len 7 false (.t 6)), .s (.mv 8 (.k (.v (.c (.int .i64 0)))))]) (.blk 0 (.loop [0, 1, 7, 8] lb_slices_IndexFunc_int_0))) (.seq (.reg [.s (.mv 4 (.k (.v (.c (.int .i64 (-1))))))]) (.ret)))⟩
def c_slices_IndexFunc_int__impl_nextPlaces_1 : Fun := ⟨56, [], fun ts K => as2 ts fun t0 t1 => arC (pL (.int .i64)) t0 fun xs => arF1 38 (pL .inst) t1 fun g => chk (xs.length ≤ 2147483647 ∧ g.length ≤ 2147483647) (K (tN (idxOf (fun n => !inR n 0 (g.length - 1)) xs)) [])⟩
theorem run_slices_IndexFunc_int__impl_nextPlaces_1 (xs : List (FT.Ty (.int .i64))) (g : List (FT.Ty .inst)) (hpre : xs.length ≤ 2147483647 ∧ g.length ≤ 2147483647) : runK [c_impl_nextPlaces_1] (xs.length + 1) [] pf_slices_IndexFunc_int [tL false (.int .i64) xs, .fn 38 [.ptr false 0 [tl false .inst g]]] fun r o => r = tN (idxOf (fun n => !inR n 0 (g.length - 1)) xs) ∧ o = [] := by
  conv => whnf
  refine loop (α := Nat) (fun i => ⟨[(0, .v (.c (.sl false (.int .i64) 0))), (1, .fn 38 [.c (.ptr 1 0)]), (7, .v (.c (.int .i64 (xs.length : Int)))), (8, .v (.c (.int .i64 (i : Int))))], [(2, some (.flat false .inst none g)), (1, some (.box false [.sl false .inst 2])), (0, some (.flat false (.int .i64) none xs))], nums.tail.tail.tail, [], false, []⟩)
      (fun i => i ≤ xs.length ∧ idxOf (fun n => !inR n 0 (g.length - 1)) xs = idxGo (fun n => !inR n 0 (g.length - 1)) (xs.drop i) i) (fun i => xs.length - i) (fun i R hI hR => ?_) 0 _ ⟨by simp, rfl⟩ (by simp)
  obtain ⟨hi, hx⟩ := hI
  conv => whnf
  refine sel_i (fun h2 => ?_) (fun h2 => ?_)
  · have hlt : i < xs.length := by simp at h2; omega
    conv => whnf
    repeat (refine chk_i (by first | omega | (simp; omega)) ?_; conv => whnf)
    refine sel_i (fun h3 => ?_) (fun h3 => ?_)
    · conv => whnf
      rw [hx, idxGo_yes (z := FT.zero (.int .i64)) hlt (by first | (simp only [keyEq] at h3; exact h3) | (simpa using h3))]
      exact ⟨rfl, rfl⟩
    · conv => whnf
      rw [wrap_id (n := (i : Int) + 1) (by omega) (by omega)]
      exact hR (i + 1) ⟨by omega, by rw [hx, idxGo_no (z := FT.zero (.int .i64)) hlt (by first | (simp only [keyEq] at h3; exact h3) | (simpa using h3))]⟩ (by omega)
  · conv => whnf
    rw [hx, idxGo_end (by simp at h2; omega)]
    exact ⟨rfl, rfl⟩
theorem ok_slices_IndexFunc_int__impl_nextPlaces_1 : FunOk Try.prog c_slices_IndexFunc_int__impl_nextPlaces_1 := funOk (E := [c_impl_nextPlaces_1]) (envOk_cons ok_impl_nextPlaces_1 (envOk_nil)) mixd Try.func56 (pf := pf_slices_IndexFunc_int) (by kernel_rfl) fun ts K h => by
  obtain ⟨t0, t1, e0, h⟩ := as2_out h
  subst e0
  obtain ⟨xs, e1, hq⟩ := arC_out (rd_l (.int .i64)) h
  clear h
  subst e1
  have h := hq
  clear hq
  obtain ⟨g, e1, hq⟩ := arF1_out (rd_l .inst) h
  clear h
  subst e1
  have h := hq
  clear hq
  obtain ⟨hpre, h⟩ := chk_o h
  exact ⟨_, _, h, Nat.le_of_ble_eq_true (show Nat.ble 2 Try.f56.ntmps = true by kernel_rfl), _, run_slices_IndexFunc_int__impl_nextPlaces_1 xs g hpre⟩

theorem filter_snoc {α : Type} {s : List α} {m : Nat} {z : α} (p : α → Bool) (h : m < s.length) : (s.take (m + 1)).filter p = if p (s.getD m z) then (s.take m).filter p ++ [s.getD m z] else (s.take m).filter p := by
  rw [take_snoc (z := z) h, List.filter_append]
  generalize s.getD m z = v
  cases hp : p v <;> simp [hp]
theorem filter_all {α : Type} {s : List α} {p : α → Bool} (z : α) {m : Nat} (hm : m ≤ s.length) (h : ∀ j, j < m → p (s.getD j z) = true) : (s.take m).filter p = s.take m := by
  rw [List.filter_eq_self]
  intro a ha
  obtain ⟨j, hj, e⟩ := List.mem_iff_getElem.1 ha
  rw [List.length_take] at hj
  have := h j (by omega)
  rw [List.getD_eq_getElem?_getD, List.getElem?_eq_getElem (by omega)] at this
  rw [List.getElem_take] at e
  rw [← e]; exact this

def lb_slices_DeleteFunc_int_0 : PC := .seq (.seq (.reg [.s (.mv 16 (.t 6)), .s (.mv 17 (.t 0)), .s (.len 18 false (.t 17)), .s (.bin 19 .lss (.t 16) (.t 18))]) (.cond (.t 19) (.skip) (.exit 0))) (.seq (.blk 1 (.seq (.reg [.s (.mv 22 (.t 0)), .s (.mv 23 (.t 6)), .s (.ia 24 (.int .i64) (.t 22) (.t 23)), .s (.load 25 false 1 (.t 24)), .s (.mv 7 (.t 25))]) (.seq (.reg [.s (.mv 26 (.t 1)), .s (.mv 27 (.t 7)), .s (.callv (some 28) (.t 26) [(.t 27)]), .s (.bnot 29 (.t 28))]) (.cond (.t 29) (.seq (.reg [.s (.mv 30 (.t 0)), .s (.mv 31 (.t 5)), .s (.mv 32 (.t 7)), .s (.ia 33 (.int .i64) (.t 30) (.t 31)), .s (.store 1 (.t 33) (.t 32))]) (.reg [.s (.mv 34 (.t 5)), .s (.bin 35 .add (.t 34) (.k (.v (.c (.int .i64 1))))), .s (.mv 5 (.t 35))])) (.skip))))) (.reg [.s (.mv 20 (.t 6)), .s (.bin 21 .add (.t 20) (.k (.v (.c (.int .i64 1))))), .s (.mv 6 (.t 21))]))
def pf_slices_DeleteFunc_int : PF := ⟨[.t 4], .seq (.reg [.s (.mv 4 (.k (.v (.c (.nils (.int .i64))))))]) (.seq (.reg [.s (.mv 8 (.t 0)), .s (.mv 9 (.t 1)), .s (.call (some 10) 56 [(.t 8), (.t 9)]), .s (.mv 5 (.t 10))]) (.seq (.seq (.reg [.s (.mv 11 (.t 5)), .s (.bin 12 .eql (.t 11) (.k (.v (.c (.int .i64 (-1))))))]) (.cond (.t 12) (.seq (.reg [.s (.mv 13 (.t 0)), .s (.mv 4 (.t 13))]) (.ret)) (.skip))) (.seq (.seq (.reg [.s (.mv 14 (.t 5)), .s (.bin 15 .add (.t 14) (.k (.v (.c (.int .i64 1))))), .s (.mv 6 (.t 15))]) (.blk 0 (.loop [0, 1, 5, 6] lb_slices_DeleteFunc_int_0))) (.seq (.reg [.s (.mv 36 (.t 0)), .s (.mv 37 (.t 5)), .s (.slc 38 (.int .i64) (.t 36) (some (.t 37)) none), .s (.clr (.int .i64) (.t 38))]) (.seq (.reg [.s (.mv 39 (.t 0)), .s (.mv 40 (.t 5)), .s (.slc 41 (.int .i64) (.t 39) none (some (.t 40))), .s (.mv 4 (.t 41))]) (.ret))))))⟩
def c_slices_DeleteFunc_int__impl_nextPlaces_1 : Fun := ⟨37, [true, false], fun ts K => as2 ts fun t0 t1 => arC (pO (.int .i64)) t0 fun s => arF1 38 (pL .inst) t1 fun g => chk (s.length ≤ 1000000 ∧ g.length ≤ 2147483647) (K (tL true (.int .i64) (s.filter (fun n => inR n 0 (g.length - 1)))) ([.v (.c .unk)]))⟩
theorem run_slices_DeleteFunc_int__impl_nextPlaces_1 (s : List (FT.Ty (.int .i64))) (g : List (FT.Ty .inst)) (hpre : s.length ≤ 1000000 ∧ g.length ≤ 2147483647) : runK [c_slices_IndexFunc_int__impl_nextPlaces_1, c_impl_nextPlaces_1] (s.length + 1) [true, false] pf_slices_DeleteFunc_int [tL true (.int .i64) s, .fn 38 [.ptr false 0 [tl false .inst g]]] fun r o => r = tL true (.int .i64) (s.filter (fun n => inR n 0 (g.length - 1))) ∧ o = [.v (.c .unk)] := by
  obtain ⟨l1, l2⟩ := hpre
  generalize hF : s.length + 1 = FU
  have hc := idxOf_cases (fun n => !inR n 0 (g.length - 1)) (FT.zero (.int .i64)) s
  have hm1 : -1 ≤ idxOf (fun n => !inR n 0 (g.length - 1)) s := (idxGo_lt (fun n => !inR n 0 (g.length - 1)) s 0).1
  conv => whnf
  refine chk_i ⟨by omega, l2⟩ ?_
  generalize idxOf (fun n => !inR n 0 (g.length - 1)) s = I at hc hm1 ⊢
  conv => whnf
  refine sel_i (fun h => ?_) (fun h => ?_)
  · conv => whnf
    have h : I = -1 := by simpa using h
    rcases hc with ⟨_, h2⟩ | ⟨k, e, _⟩
    · have e := filter_all (p := fun n => inR n 0 (g.length - 1)) (FT.zero (.int .i64)) (Nat.le_refl s.length) (fun j hj => by simpa using h2 j hj)
      rw [List.take_length] at e
      rw [e]; exact ⟨rfl, rfl⟩
    · omega
  have h : ¬ I = -1 := by simpa using h
  rcases hc with ⟨hn, h2⟩ | ⟨k, rfl, hk, hk1, hk2⟩
  · exfalso; omega
  as_aux_lemma =>
    have w1 : IntKind.i64.wrap ((k : Int) + 1) = ((k + 1 : Nat) : Int) := by rw [wrap_id (by omega) (by omega)]; rfl
    conv => whnf
    rw [w1]
    refine loop (α := Nat × Nat × List Int) (fun p => ⟨[(0, .v (.c (.sl false (.int .i64) 0))), (1, .fn 38 [.c (.ptr 1 0)]), (5, .v (.c (.int .i64 (p.1 : Int)))), (6, .v (.c (.int .i64 (p.2.1 : Int))))],
          [(2, some (.flat false .inst none g)), (1, some (.box false [.sl false .inst 2])), (0, some (.flat true (.int .i64) none p.2.2))], nums.tail.tail.tail, [.v (.c (.sl false (.int .i64) 0))], false, []⟩)
      (fun p => p.1 < p.2.1 ∧ p.2.1 ≤ s.length ∧ p.2.2.length = s.length ∧ p.2.2.take p.1 = (s.take p.2.1).filter (fun n => inR n 0 (g.length - 1)) ∧ p.2.2.drop p.2.1 = s.drop p.2.1) (fun p => s.length - p.2.1) (fun p R hI hR => ?_) (k, k + 1, s) _
      ⟨by simp, by dsimp only; omega, rfl, by
        dsimp only
        rw [filter_snoc (z := FT.zero (.int .i64)) _ hk, if_neg (by simpa using hk1)]
        exact (filter_all (FT.zero (.int .i64)) (by omega) (fun j hj => by simpa using hk2 j hj)).symm, rfl⟩ (by dsimp only; omega)
    obtain ⟨a, b, c⟩ := p
    obtain ⟨h1, h2, h3, h4, h5⟩ := hI
    dsimp only at h1 h2 h3 h4 h5 ⊢
    have w2 : IntKind.i64.wrap ((a : Int) + 1) = ((a + 1 : Nat) : Int) := by rw [wrap_id (by omega) (by omega)]; rfl
    have w3 : IntKind.i64.wrap ((b : Int) + 1) = ((b + 1 : Nat) : Int) := by rw [wrap_id (by omega) (by omega)]; rfl
    conv => whnf
    refine sel_i (fun h => ?_) (fun h => ?_)
    · have hb : b < s.length := by have := of_decide_eq_true h; omega
      clear h
      conv => whnf
      refine chk_i ⟨by omega, by omega⟩ ?_
      conv => whnf
      refine chk_i (by rw [Int.toNat_natCast]; omega) ?_
      conv => whnf
      refine chk_i l2 ?_
      have g1 := dropK_getD (FT.zero (.int .i64)) h5 (show b ≤ b by omega)
      rw [Int.toNat_natCast, g1]
      have h4' := filter_snoc (z := FT.zero (.int .i64)) (fun n => inR n 0 (g.length - 1)) hb
      generalize hv : s.getD b (FT.zero (.int .i64)) = v at h4' g1 ⊢
      generalize inR v 0 (g.length - 1) = q at h4' ⊢
      conv => whnf
      refine sel_i (fun h => ?_) (fun h => ?_)
      · have hq : q = true := by simpa using h
        rw [hq, if_pos rfl] at h4'
        conv => whnf
        refine chk_i ⟨by omega, by omega⟩ ?_
        conv => whnf
        refine chk_i (by rw [Int.toNat_natCast]; omega) ?_
        conv => whnf
        rw [w2, w3, Int.toNat_natCast]
        exact hR (a + 1, b + 1, c.set a v) ⟨by dsimp only; omega, by dsimp only; omega, by dsimp only; rw [List.length_set]; exact h3, by dsimp only; rw [take_set_snoc (by omega), h4, h4'], by dsimp only; rw [List.drop_set, if_pos (by omega)]; exact (by have := congrArg (List.drop 1) h5; simpa [List.drop_drop, Nat.add_comm] using this)⟩ (by dsimp only; omega)
      · have hq : q = false := by simpa using h
        rw [hq, if_neg (by decide)] at h4'
        conv => whnf
        rw [w3]
        exact hR (a, b + 1, c) ⟨by dsimp only; omega, by dsimp only; omega, h3, by dsimp only; rw [h4, h4'], by dsimp only; exact (by have := congrArg (List.drop 1) h5; simpa [List.drop_drop, Nat.add_comm] using this)⟩ (by dsimp only; omega)
    · have hb : b = s.length := by have := of_decide_eq_false h; omega
      clear h
      conv => whnf
      refine chk_i ⟨by omega, by omega⟩ ?_
      conv => whnf
      refine chk_i ?_ ?_
      · rw [Int.toNat_natCast, over_len0 _ _ _ (by rw [List.length_replicate]; omega)]; omega
      conv => whnf
      rw [Int.toNat_natCast, over_take _ _ _ (by omega), h4, List.take_of_length_le (by omega)]
      exact ⟨rfl, rfl⟩
theorem ok_slices_DeleteFunc_int__impl_nextPlaces_1 : FunOk Try.prog c_slices_DeleteFunc_int__impl_nextPlaces_1 := funOk (E := [c_slices_IndexFunc_int__impl_nextPlaces_1, c_impl_nextPlaces_1]) (envOk_cons ok_slices_IndexFunc_int__impl_nextPlaces_1 (envOk_cons ok_impl_nextPlaces_1 (envOk_nil))) mixd Try.func37 (pf := pf_slices_DeleteFunc_int) (by kernel_rfl) fun ts K h => by
  obtain ⟨t0, t1, e0, h⟩ := as2_out h
  subst e0
  obtain ⟨s, e1, hq⟩ := arC_out (rd_o (.int .i64)) h
  clear h
  subst e1
  have h := hq
  clear hq
  obtain ⟨g, e1, hq⟩ := arF1_out (rd_l .inst) h
  clear h
  subst e1
  have h := hq
  clear hq
  obtain ⟨hpre, h⟩ := chk_o h
  exact ⟨_, _, h, Nat.le_of_ble_eq_true (show Nat.ble 2 Try.f37.ntmps = true by kernel_rfl), _, run_slices_DeleteFunc_int__impl_nextPlaces_1 s g hpre⟩

/-! where a place goes on -/
def rangeI (n : Nat) : List Int := (List.range n).map (fun j : Nat => (j : Int))
theorem rangeI_succ (n : Nat) : rangeI (n + 1) = rangeI n ++ [(n : Int)] := by simp [rangeI, List.range_succ]
theorem rangeI_len (n : Nat) : (rangeI n).length = n := by simp [rangeI]
theorem rangeI_mem {n : Nat} {x : Int} : x ∈ rangeI n ↔ 0 ≤ x ∧ x < n := by
  unfold rangeI
  rw [List.mem_map]
  constructor
  · rintro ⟨j, hj, rfl⟩
    have := List.mem_range.1 hj
    omega
  · rintro ⟨h0, h1⟩
    exact ⟨x.toNat, List.mem_range.2 (by omega), by omega⟩
theorem rangeI_asc (n : Nat) : Asc (rangeI n) := by
  induction n with
  | zero => exact List.Pairwise.nil
  | succ n ih =>
    rw [rangeI_succ]
    refine List.pairwise_append.2 ⟨ih, List.pairwise_singleton _ _, fun a ha b hb => ?_⟩
    have := (rangeI_mem.1 ha).2
    have hb := List.mem_singleton.1 hb
    omega
def atI (l : List Inst) (a : Int) : Inst := l.getD a.toNat (FT.zero .inst)
def goesB (x : Inst) (a i : Int) : Bool := (i == a + 1 && x.op != 15) || (x.op == 13 && i == a + x.n) || x.op == 12
def nextI (l : List Inst) (a : Int) : List Int := (rangeI l.length).filter (goesB (atI l a) a)
def nextP (l : List Inst) (a : Int) : List Int := if codeOk l && inR a 0 (l.length - 1) then nextI l a else []
theorem codeOk_out {l : List Inst} (h : codeOk l = true) : 1 ≤ l.length ∧ l.length ≤ 48 ∧ ∀ x ∈ l, insOk x = true := by
  simp only [codeOk, Bool.and_eq_true, List.all_eq_true] at h
  have := inR_t.1 h.1
  exact ⟨by omega, by omega, h.2⟩
theorem nextI_len (l : List Inst) (a : Int) : (nextI l a).length ≤ l.length := by
  unfold nextI
  have := List.length_filter_le (goesB (atI l a) a) (rangeI l.length)
  rw [rangeI_len] at this
  exact this
theorem nextP_len (l : List Inst) (a : Int) : (nextP l a).length ≤ l.length := by
  unfold nextP
  split
  · exact nextI_len l a
  · exact Nat.zero_le _
theorem insOk_n {x : Inst} (h : insOk x = true) : -128 ≤ x.n ∧ x.n ≤ 127 := by
  simp only [insOk, Bool.and_eq_true] at h
  exact inR_t.1 h.1.2
theorem atI_ok {l : List Inst} (h : ∀ x ∈ l, insOk x = true) {a : Int} (h0 : 0 ≤ a) (h1 : a < l.length) : insOk (atI l a) = true := by
  unfold atI
  rw [List.getD_eq_getElem?_getD, List.getElem?_eq_getElem (by omega)]
  exact h _ (List.getElem_mem _)
theorem next_halt {l : List Inst} {a : Int} (h : (atI l a).op = 15) : nextI l a = [] := by
  unfold nextI
  rw [List.filter_eq_nil_iff]
  intro i _
  simp [goesB, h]
theorem next_jump {l : List Inst} {a : Int} (h : (atI l a).op = 12) : nextI l a = rangeI l.length := by
  unfold nextI
  rw [List.filter_eq_self]
  intro i _
  simp [goesB, h]
theorem asc_filter {l : List Int} (p : Int → Bool) (h : Asc l) : Asc (l.filter p) := List.Pairwise.filter p h
theorem next_set {l : List Inst} {a : Int} {xs : List Int} (h : ∀ i : Int, 0 ≤ i → i < l.length → (goesB (atI l a) a i = true ↔ i ∈ xs)) : (setI xs).filter (fun n => inR n 0 (l.length - 1)) = nextI l a := by
  refine asc_ext (asc_filter _ (setI_asc xs)) (asc_filter _ (rangeI_asc _)) fun i => ?_
  unfold nextI
  rw [List.mem_filter, List.mem_filter, setI_mem, rangeI_mem]
  constructor
  · rintro ⟨h1, h2⟩
    have h2 := inR_t.1 h2
    exact ⟨⟨by omega, by omega⟩, (h i (by omega) (by omega)).2 h1⟩
  · rintro ⟨⟨h1, h2⟩, h3⟩
    exact ⟨(h i h1 h2).1 h3, inR_t.2 ⟨by omega, by omega⟩⟩
theorem next_zero {l : List Inst} {a : Int} (h : (atI l a).op = 13) : (setI [a + (atI l a).n, a + 1]).filter (fun n => inR n 0 (l.length - 1)) = nextI l a :=
  next_set fun i _ _ => by simp [goesB, h, or_comm]
theorem next_one {l : List Inst} {a : Int} (h : ¬ (atI l a).op = 15) (h2 : ¬ (atI l a).op = 12) (h3 : ¬ (atI l a).op = 13) : (setI [a + 1]).filter (fun n => inR n 0 (l.length - 1)) = nextI l a :=
  next_set fun i _ _ => by simp [goesB, h, h2, h3]

def lb_impl_nextPlaces_0 : PC := .seq (.reg [.s (.bin 23 .lss (.t 22) (.t 21))]) (.seq (.cond (.t 23) (.skip) (.exit 1)) (.seq (.blk 2 (.seq (.reg [.s (.mv 24 (.t 22)), .s (.mv 7 (.t 24))]) (.reg [.s (.mv 25 (.t 5)), .s (.mv 26 (.t 7)), .s (.bs 27 (.int .i64) [(.t 26)]), .s (.app 28 (.int .i64) (.t 25) (.t 27)), .s (.mv 5 (.t 28))]))) (.reg [.s (.bin 29 .add (.t 22) (.k (.v (.c (.int .i64 1))))), .s (.mv 22 (.t 29))])))
def pf_impl_nextPlaces : PF := ⟨[.t 4], .seq (.reg [.s (.box 2 (.t 0)), .s (.mv 4 (.k (.v (.c (.nils (.int .i64))))))]) (.seq (.reg [.s (.bs 8 (.int .i64) []), .s (.mv 5 (.t 8))]) (.seq (.reg [.s (.load 9 false 1 (.t 2)), .s (.mv 10 (.t 1)), .s (.ia 11 .inst (.t 9) (.t 10)), .s (.load 12 true 5 (.t 11)), .s (.alloc 6 [.int .i64 0, .int .i64 0, .int .i64 0, .int .i64 0, .int .i64 0]), .s (.store 5 (.t 6) (.t 12))]) (.seq (.seq (.reg [.s (.fa 13 (.t 6) 0), .s (.load 14 false 1 (.t 13))]) (.blk 0 (.seq (.reg [.s (.bin 16 .eql (.t 14) (.k (.v (.c (.int .i64 15))))), .s (.mv 15 (.t 16))]) (.cond (.t 15) (.seq (.reg [.s (.mv 17 (.t 5)), .s (.mv 4 (.t 17))]) (.ret)) (.seq (.reg [.s (.bin 19 .eql (.t 14) (.k (.v (.c (.int .i64 12))))), .s (.mv 18 (.t 19))]) (.cond (.t 18) (.seq (.seq (.reg [.s (.load 20 false 1 (.t 2)), .s (.len 21 false (.t 20)), .s (.mv 22 (.k (.v (.c (.int .i64 0)))))]) (.blk 1 (.loop [5, 21, 22] lb_impl_nextPlaces_0))) (.seq (.reg [.s (.mv 30 (.t 5)), .s (.mv 4 (.t 30))]) (.ret))) (.seq (.reg [.s (.bin 32 .eql (.t 14) (.k (.v (.c (.int .i64 13))))), .s (.mv 31 (.t 32))]) (.cond (.t 31) (.reg [.s (.mv 33 (.t 5)), .s (.mv 34 (.t 1)), .s (.fa 35 (.t 6) 4), .s (.load 36 false 1 (.t 35)), .s (.bin 37 .add (.t 34) (.t 36)), .s (.bs 38 (.int .i64) [(.t 37)]), .s (.app 39 (.int .i64) (.t 33) (.t 38)), .s (.mv 5 (.t 39))]) (.skip))))))))) (.seq (.reg [.s (.mv 40 (.t 5)), .s (.mv 41 (.t 1)), .s (.bin 42 .add (.t 41) (.k (.v (.c (.int .i64 1))))), .s (.bs 43 (.int .i64) [(.t 42)]), .s (.app 44 (.int .i64) (.t 40) (.t 43)), .s (.mv 5 (.t 44))]) (.seq (.reg [.s (.mv 45 (.t 5)), .s (.call (some 46) 21 [(.t 45)])]) (.seq (.reg [.s (.mv 47 (.t 5)), .s (.call (some 48) 22 [(.t 47)]), .s (.mkf 49 38 [(.t 2)]), .s (.call (some 50) 37 [(.t 48), (.t 49)]), .s (.mv 4 (.t 50))]) (.ret)))))))⟩
def c_impl_nextPlaces : Fun := ⟨29, [], fun ts K => as2 ts fun t0 t1 => arC (pL .inst) t0 fun l => arC (pI .i64) t1 fun a => chk (0 ≤ a ∧ a < l.length ∧ l.length ≤ 1000000 ∧ insOk (atI l a) = true) (K (tL true (.int .i64) (nextI l a)) [])⟩
theorem run_impl_nextPlaces (l : List (FT.Ty .inst)) (a : Int) (hpre : 0 ≤ a ∧ a < l.length ∧ l.length ≤ 1000000 ∧ insOk (atI l a) = true) : runK [c_slices_Sort_int, c_slices_Compact_int, c_slices_DeleteFunc_int__impl_nextPlaces_1, c_impl_nextPlaces_1] (l.length + 1) [] pf_impl_nextPlaces [tL false .inst l, tI .i64 a] fun r o => r = tL true (.int .i64) (nextI l a) ∧ o = [] := by
  obtain ⟨h0, h1, h2, h3⟩ := hpre
  have hn := insOk_n h3
  have w1 : IntKind.i64.wrap (a + 1) = a + 1 := wrap_id (by omega) (by omega)
  have w2 : IntKind.i64.wrap (a + (atI l a).n) = a + (atI l a).n := wrap_id (by omega) (by omega)
  have e1 := @next_halt l a
  have e2 := @next_jump l a
  have e3 := @next_zero l a
  have e4 := @next_one l a
  unfold atI at hn w2 e1 e2 e3 e4
  conv => whnf
  repeat' (first | (refine sel_i (fun h => ?_) (fun h => ?_) <;> conv => whnf) | (refine chk_c ?_ ?_ <;> conv => whnf) | (refine And.intro ?_ rfl) | (refine And.intro ?_ ?_ <;> conv => whnf))
  all_goals (simp only [w1, w2, List.nil_append, List.cons_append, beq_iff_eq, beq_eq_false_iff_ne, ne_eq] at *)
  all_goals first
    | (refine ⟨?_⟩; omega)
    | (refine ⟨?_⟩; rw [sortI_len]; done)
    | (refine ⟨?_⟩; rw [sortI_len]; simp only [List.length_cons, List.length_nil]; omega)
    | (refine ⟨?_⟩; refine ⟨Nat.le_trans (setI_len _) ?_, by omega⟩; simp only [List.length_cons, List.length_nil]; omega)
    | (refine ⟨?_⟩; simp only [List.length_cons, List.length_nil]; omega)
    | (rw [e1 (by assumption)]; done)
    | (rw [show compI (sortI _) = setI _ from rfl, e3 (by assumption)]; done)
    | (rw [show compI (sortI _) = setI _ from rfl, e4 (by assumption) (by assumption) (by assumption)]; done)
    | skip
  rw [e2 (by assumption)]
  refine loop (α := Nat) (fun k => ⟨[(5, .v (.c (.sl true (.int .i64) 0))), (21, .v (.c (.int .i64 (l.length : Int)))), (22, .v (.c (.int .i64 (k : Int))))], [(0, some (.flat true (.int .i64) none (rangeI k)))], nums.tail, [], false, []⟩)
    (fun k => k ≤ l.length) (fun k => l.length - k) (fun k R hI hR => ?_) 0 _ (by omega) (by omega)
  have hl := rangeI_len k
  have w3 : IntKind.i64.wrap ((k : Int) + 1) = ((k + 1 : Nat) : Int) := by rw [wrap_id (by omega) (by omega)]; rfl
  clear e1 e2 e3 e4
  conv => whnf
  repeat' (first | (refine sel_i (fun h => ?_) (fun h => ?_) <;> conv => whnf) | (refine chk_c ?_ ?_ <;> conv => whnf) | (refine And.intro ?_ rfl) | (refine And.intro ?_ ?_ <;> conv => whnf))
  all_goals (simp only [w3, decide_eq_true_eq, decide_eq_false_iff_not] at *)
  all_goals first
    | (refine ⟨?_⟩; simp only [List.length_cons, List.length_nil]; omega)
    | (rw [← rangeI_succ]; exact hR (k + 1) (by omega) (by omega))
    | (rw [show k = l.length by omega]; done)
    | trace_state
theorem ok_impl_nextPlaces : FunOk Try.prog c_impl_nextPlaces := funOk (E := [c_slices_Sort_int, c_slices_Compact_int, c_slices_DeleteFunc_int__impl_nextPlaces_1, c_impl_nextPlaces_1]) (envOk_cons ok_slices_Sort_int (envOk_cons ok_slices_Compact_int (envOk_cons ok_slices_DeleteFunc_int__impl_nextPlaces_1 (envOk_cons ok_impl_nextPlaces_1 (envOk_nil))))) mixd Try.func29 (pf := pf_impl_nextPlaces) (by kernel_rfl) fun ts K h => by
  obtain ⟨t0, t1, e0, h⟩ := as2_out h
  subst e0
  obtain ⟨l, e1, hq⟩ := arC_out (rd_l .inst) h
  clear h
  subst e1
  have h := hq
  clear hq
  obtain ⟨a, e1, hq⟩ := arC_out (rd_int .i64) h
  clear h
  subst e1
  have h := hq
  clear hq
  obtain ⟨hpre, h⟩ := chk_o h
  exact ⟨_, _, h, Nat.le_of_ble_eq_true (show Nat.ble 2 Try.f29.ntmps = true by kernel_rfl), _, run_impl_nextPlaces l a hpre⟩

def pf_impl_NextPlaces : PF := ⟨[.t 4], .seq (.reg [.s (.mv 4 (.k (.v (.c (.nils (.int .i64))))))]) (.seq (.seq (.reg [.s (.mv 5 (.t 0)), .s (.call (some 6) 27 [(.t 5)]), .s (.bnot 7 (.t 6)), .s (.mv 8 (.t 7)), .g 8 false (some 9) (.mv 9 (.t 1)), .g 8 false (some 10) (.mv 10 (.t 0)), .g 8 false (some 11) (.len 11 false (.t 10)), .g 8 false (some 12) (.bin 12 .sub (.t 11) (.k (.v (.c (.int .i64 1))))), .g 8 false (some 13) (.call (some 13) 28 [(.t 9), (.k (.v (.c (.int .i64 0)))), (.t 12)]), .g 8 false (some 14) (.bnot 14 (.t 13)), .s (.pick 15 (.t 8) (.k (.v (.c .tt))) (.t 14))]) (.cond (.t 15) (.seq (.reg [.s (.mv 4 (.k (.v (.c (.nils (.int .i64))))))]) (.ret)) (.skip))) (.seq (.reg [.s (.mv 16 (.t 0)), .s (.mv 17 (.t 1)), .s (.call (some 18) 29 [(.t 16), (.t 17)]), .s (.mv 4 (.t 18))]) (.ret)))⟩
def c_impl_NextPlaces : Fun := ⟨17, [], fun ts K => as2 ts fun t0 t1 => arC (pL .inst) t0 fun l => arC (pI .i64) t1 fun a => chk (l.length ≤ 2147483647) (K (tL true (.int .i64) (nextP l a)) [])⟩
theorem run_impl_NextPlaces (l : List (FT.Ty .inst)) (a : Int) (hpre : l.length ≤ 2147483647) : runK [c_impl_CodeOk, c_impl_in, c_impl_nextPlaces] (0) [] pf_impl_NextPlaces [tL false .inst l, tI .i64 a] fun r o => r = tL true (.int .i64) (nextP l a) ∧ o = [] := by
  have w1 : IntKind.i64.wrap ((l.length : Int) - 1) = (l.length : Int) - 1 := wrap_id (by omega) (by omega)
  conv => whnf
  repeat' (first | (refine sel_i (fun h => ?_) (fun h => ?_) <;> conv => whnf) | (refine chk_c ?_ ?_ <;> conv => whnf) | (refine And.intro ?_ rfl) | (refine And.intro ?_ ?_ <;> conv => whnf))
  all_goals (try simp only [w1, Bool.not_eq_true', Bool.not_eq_false'] at *)
  all_goals first
    | (refine ⟨?_⟩; omega)
    | (unfold nextP; simp only [*, Bool.and_true, Bool.and_false, Bool.false_and, Bool.true_and, Bool.false_eq_true, if_true, if_false]; done)
    | (refine ⟨?_⟩; have hc := codeOk_out (by assumption); have hr := inR_t.1 (by assumption); exact ⟨by omega, by omega, by omega, atI_ok hc.2.2 (by omega) (by omega)⟩)
    | trace_state
theorem ok_impl_NextPlaces : FunOk Try.prog c_impl_NextPlaces := funOk (E := [c_impl_CodeOk, c_impl_in, c_impl_nextPlaces]) (envOk_cons ok_impl_CodeOk (envOk_cons ok_impl_in (envOk_cons ok_impl_nextPlaces (envOk_nil)))) mixd Try.func17 (pf := pf_impl_NextPlaces) (by kernel_rfl) fun ts K h => by
  obtain ⟨t0, t1, e0, h⟩ := as2_out h
  subst e0
  obtain ⟨l, e1, hq⟩ := arC_out (rd_l .inst) h
  clear h
  subst e1
  have h := hq
  clear hq
  obtain ⟨a, e1, hq⟩ := arC_out (rd_int .i64) h
  clear h
  subst e1
  have h := hq
  clear hq
  obtain ⟨hpre, h⟩ := chk_o h
  exact ⟨_, _, h, Nat.le_of_ble_eq_true (show Nat.ble 2 Try.f17.ntmps = true by kernel_rfl), _, run_impl_NextPlaces l a hpre⟩

def lb_spec_NextPlaces_0 : PC := .seq (.seq (.reg [.s (.mv 26 (.t 7)), .s (.mv 27 (.t 0)), .s (.len 28 false (.t 27)), .s (.bin 29 .lss (.t 26) (.t 28))]) (.cond (.t 29) (.skip) (.exit 0))) (.seq (.blk 1 (.seq (.reg [.s (.mv 32 (.t 7)), .s (.mv 33 (.t 1)), .s (.bin 34 .add (.t 33) (.k (.v (.c (.int .i64 1))))), .s (.bin 35 .eql (.t 32) (.t 34)), .s (.mv 36 (.t 35)), .g 36 true (some 37) (.fa 37 (.t 6) 0), .g 36 true (some 38) (.load 38 false 1 (.t 37)), .g 36 true (some 39) (.bin 39 .neq (.t 38) (.k (.v (.c (.int .i64 15))))), .s (.pick 40 (.t 36) (.t 39) (.k (.v (.c .ff)))), .s (.mv 8 (.t 40))]) (.seq (.seq (.reg [.s (.fa 41 (.t 6) 0), .s (.load 42 false 1 (.t 41)), .s (.bin 43 .eql (.t 42) (.k (.v (.c (.int .i64 13))))), .s (.mv 44 (.t 43)), .g 44 true (some 45) (.mv 45 (.t 7)), .g 44 true (some 46) (.mv 46 (.t 1)), .g 44 true (some 47) (.fa 47 (.t 6) 4), .g 44 true (some 48) (.load 48 false 1 (.t 47)), .g 44 true (some 49) (.bin 49 .add (.t 46) (.t 48)), .g 44 true (some 50) (.bin 50 .eql (.t 45) (.t 49)), .s (.pick 51 (.t 44) (.t 50) (.k (.v (.c .ff)))), .s (.mv 52 (.t 51)), .g 52 false (some 53) (.fa 53 (.t 6) 0), .g 52 false (some 54) (.load 54 false 1 (.t 53)), .g 52 false (some 55) (.bin 55 .eql (.t 54) (.k (.v (.c (.int .i64 12))))), .s (.pick 56 (.t 52) (.k (.v (.c .tt))) (.t 55))]) (.cond (.t 56) (.reg [.s (.mv 8 (.k (.v (.c .tt))))]) (.skip))) (.seq (.reg [.s (.mv 57 (.t 8))]) (.cond (.t 57) (.reg [.s (.mv 58 (.t 5)), .s (.mv 59 (.t 7)), .s (.bs 60 (.int .i64) [(.t 59)]), .s (.app 61 (.int .i64) (.t 58) (.t 60)), .s (.mv 5 (.t 61))]) (.skip)))))) (.reg [.s (.mv 30 (.t 7)), .s (.bin 31 .add (.t 30) (.k (.v (.c (.int .i64 1))))), .s (.mv 7 (.t 31))]))
def pf_spec_NextPlaces : PF := ⟨[.t 4], .seq (.reg [.s (.mv 4 (.k (.v (.c (.nils (.int .i64))))))]) (.seq (.reg [.s (.bs 9 (.int .i64) []), .s (.mv 5 (.t 9))]) (.seq (.seq (.reg [.s (.mv 10 (.t 0)), .s (.call (some 11) 24 [(.t 10)]), .s (.bnot 12 (.t 11)), .s (.mv 13 (.t 12)), .g 13 false (some 14) (.mv 14 (.t 1)), .g 13 false (some 15) (.mv 15 (.t 0)), .g 13 false (some 16) (.len 16 false (.t 15)), .g 13 false (some 17) (.bin 17 .sub (.t 16) (.k (.v (.c (.int .i64 1))))), .g 13 false (some 18) (.call (some 18) 25 [(.t 14), (.k (.v (.c (.int .i64 0)))), (.t 17)]), .g 13 false (some 19) (.bnot 19 (.t 18)), .s (.pick 20 (.t 13) (.k (.v (.c .tt))) (.t 19))]) (.cond (.t 20) (.seq (.reg [.s (.mv 21 (.t 5)), .s (.mv 4 (.t 21))]) (.ret)) (.skip))) (.seq (.reg [.s (.mv 22 (.t 0)), .s (.mv 23 (.t 1)), .s (.ia 24 .inst (.t 22) (.t 23)), .s (.load 25 true 5 (.t 24)), .s (.alloc 6 [.int .i64 0, .int .i64 0, .int .i64 0, .int .i64 0, .int .i64 0]), .s (.store 5 (.t 6) (.t 25))]) (.seq (.seq (.reg [.s (.mv 7 (.k (.v (.c (.int .i64 0)))))]) (.blk 0 (.loop [0, 1, 5, 6, 7] lb_spec_NextPlaces_0))) (.seq (.reg [.s (.mv 62 (.t 5)), .s (.mv 4 (.t 62))]) (.ret))))))⟩
def c_spec_NextPlaces : Fun := ⟨15, [], fun ts K => as2 ts fun t0 t1 => arC (pL .inst) t0 fun l => arC (pI .i64) t1 fun a => chk (l.length ≤ 2147483647) (K (tL true (.int .i64) (nextP l a)) [])⟩
theorem run_spec_NextPlaces (l : List (FT.Ty .inst)) (a : Int) (hpre : l.length ≤ 2147483647) : runK [c_spec_CodeOk, c_spec_l1In] (l.length + 1) [] pf_spec_NextPlaces [tL false .inst l, tI .i64 a] fun r o => r = tL true (.int .i64) (nextP l a) ∧ o = [] := by
  have w1 : IntKind.i64.wrap ((l.length : Int) - 1) = (l.length : Int) - 1 := wrap_id (by omega) (by omega)
  conv => whnf
  repeat' (first | (refine sel_i (fun h => ?_) (fun h => ?_) <;> conv => whnf) | (refine chk_c ?_ ?_ <;> conv => whnf) | (refine And.intro ?_ rfl) | (refine And.intro ?_ ?_ <;> conv => whnf))
  all_goals (try simp only [w1, Bool.not_eq_true', Bool.not_eq_false'] at *)
  all_goals first
    | (refine ⟨?_⟩; omega)
    | (unfold nextP; simp only [*, Bool.and_true, Bool.and_false, Bool.false_and, Bool.true_and, Bool.false_eq_true, if_true, if_false]; done)
    | (refine ⟨?_⟩; have hr := inR_t.1 (by assumption); omega)
    | skip
  have hc := codeOk_out (by assumption)
  have hr := inR_t.1 (by assumption)
  have hn := insOk_n (atI_ok hc.2.2 (a := a) (by omega) (by omega))
  have e : nextP l a = (rangeI l.length).filter (goesB (atI l a) a) := by
    unfold nextP; simp only [*, Bool.and_true, if_true]; rfl
  rw [e]
  rw [show l.getD a.toNat FT.inst.zero = atI l a from rfl]
  generalize atI l a = x at hn ⊢
  have w2 : IntKind.i64.wrap (a + 1) = a + 1 := wrap_id (by omega) (by omega)
  have w3 : IntKind.i64.wrap (a + x.n) = a + x.n := wrap_id (by omega) (by omega)
  refine loop (α := Nat) (fun k => ⟨[(0, .v (.c (.sl false .inst 0))), (1, .v (.c (.int .i64 a))), (5, .v (.c (.sl true (.int .i64) 1))), (6, .v (.c (.ptr 2 0))), (7, .v (.c (.int .i64 (k : Int))))],
      [(2, some (.box true [.int .i64 x.op, .int .i64 x.r, .int .i64 x.a, .int .i64 x.b, .int .i64 x.n])), (1, some (.flat true (.int .i64) none ((rangeI k).filter (goesB x a)))), (0, some (.flat false .inst none l))], nums.tail.tail.tail, [], false, []⟩)
    (fun k => k ≤ l.length) (fun k => l.length - k) (fun k R hI hR => ?_) 0 _ (by omega) (by omega)
  have hl := List.length_filter_le (goesB x a) (rangeI k)
  rw [rangeI_len] at hl
  have w4 : IntKind.i64.wrap ((k : Int) + 1) = ((k + 1 : Nat) : Int) := by rw [wrap_id (by omega) (by omega)]; rfl
  have gt : goesB x a k = true → (rangeI (k + 1)).filter (goesB x a) = (rangeI k).filter (goesB x a) ++ [(k : Int)] := fun h => by
    rw [rangeI_succ, List.filter_append]; simp [h]
  have gf : goesB x a k = false → (rangeI (k + 1)).filter (goesB x a) = (rangeI k).filter (goesB x a) := fun h => by
    rw [rangeI_succ, List.filter_append]; simp [h]
  have hR := hR (k + 1)
  generalize (rangeI (k + 1)).filter (goesB x a) = Y at *
  have hend : l.length ≤ k → (rangeI l.length).filter (goesB x a) = (rangeI k).filter (goesB x a) := fun h => by rw [show k = l.length by omega]
  generalize (rangeI k).filter (goesB x a) = X at *
  have hg : goesB x a k = (((k : Int) == a + 1 && x.op != 15) || (x.op == 13 && (k : Int) == a + x.n) || x.op == 12) := rfl
  generalize goesB x a k = gg at *
  conv => whnf
  repeat' (first | (refine sel_i (fun h => ?_) (fun h => ?_) <;> conv => whnf) | (refine chk_c ?_ ?_ <;> conv => whnf) | (refine And.intro ?_ rfl) | (refine And.intro ?_ ?_ <;> conv => whnf))
  all_goals (simp only [w2, w3, w4] at *)
  all_goals first
    | (refine ⟨?_⟩; simp only [List.length_cons, List.length_nil]; omega)
    | (rw [hend (by have := of_decide_eq_false (show decide ((k : Int) < (l.length : Int)) = false by assumption); omega)]; done)
    | (have q : gg = true := (by rw [hg]; simp only [*, Bool.and_true, Bool.true_and, Bool.and_false, Bool.false_and, Bool.or_true, Bool.true_or, Bool.or_false, Bool.false_or]; done)
       rw [gt q] at hR; have ql := of_decide_eq_true (show decide ((k : Int) < (l.length : Int)) = true by assumption)
       exact hR (by omega) (by omega))
    | (have q : gg = false := (by rw [hg]; simp only [*, Bool.and_true, Bool.true_and, Bool.and_false, Bool.false_and, Bool.or_true, Bool.true_or, Bool.or_false, Bool.false_or]; done)
       rw [gf q] at hR; have ql := of_decide_eq_true (show decide ((k : Int) < (l.length : Int)) = true by assumption)
       exact hR (by omega) (by omega))
    | trace_state
theorem ok_spec_NextPlaces : FunOk Try.prog c_spec_NextPlaces := funOk (E := [c_spec_CodeOk, c_spec_l1In]) (envOk_cons ok_spec_CodeOk (envOk_cons ok_spec_l1In (envOk_nil))) mixd Try.func15 (pf := pf_spec_NextPlaces) (by kernel_rfl) fun ts K h => by
  obtain ⟨t0, t1, e0, h⟩ := as2_out h
  subst e0
  obtain ⟨l, e1, hq⟩ := arC_out (rd_l .inst) h
  clear h
  subst e1
  have h := hq
  clear hq
  obtain ⟨a, e1, hq⟩ := arC_out (rd_int .i64) h
  clear h
  subst e1
  have h := hq
  clear hq
  obtain ⟨hpre, h⟩ := chk_o h
  exact ⟨_, _, h, Nat.le_of_ble_eq_true (show Nat.ble 2 Try.f15.ntmps = true by kernel_rfl), _, run_spec_NextPlaces l a hpre⟩

/-! what was touched -/
def addrS (l : List Seen) : List Int := (l.filter (fun x => decide (0 ≤ x.addr))).map (fun x => x.addr)
def touched (l : List Seen) : List Int := setI (addrS l)
theorem addrS_snoc {l : List Seen} {m : Nat} (h : m < l.length) : addrS (l.take (m + 1)) = if 0 ≤ (l.getD m (FT.zero .seen)).addr then addrS (l.take m) ++ [(l.getD m (FT.zero .seen)).addr] else addrS (l.take m) := by
  unfold addrS
  rw [take_snoc (z := FT.zero .seen) h, List.filter_append, List.map_append]
  generalize l.getD m (FT.zero .seen) = v
  by_cases hv : 0 ≤ v.addr
  · simp [hv]
  · simp [hv]
theorem addrS_len (l : List Seen) : (addrS l).length ≤ l.length := by
  unfold addrS; rw [List.length_map]; exact List.length_filter_le _ _
theorem touched_len (l : List Seen) : (touched l).length ≤ l.length := Nat.le_trans (setI_len _) (addrS_len l)

def lb_impl_Touched_0 : PC := .seq (.reg [.s (.bin 10 .lss (.t 9) (.t 8))]) (.seq (.cond (.t 10) (.skip) (.exit 0)) (.seq (.blk 1 (.seq (.reg [.s (.ia 11 .seen (.t 7) (.t 9)), .s (.load 12 true 4 (.t 11)), .s (.alloc 5 [.int .i64 0, .int .i64 0, .int .i64 0, .int .i64 0]), .s (.store 4 (.t 5) (.t 12))]) (.seq (.reg [.s (.fa 13 (.t 5) 2), .s (.load 14 false 1 (.t 13)), .s (.bin 15 .geq (.t 14) (.k (.v (.c (.int .i64 0)))))]) (.cond (.t 15) (.reg [.s (.mv 16 (.t 3)), .s (.fa 17 (.t 5) 2), .s (.load 18 false 1 (.t 17)), .s (.bs 19 (.int .i64) [(.t 18)]), .s (.app 20 (.int .i64) (.t 16) (.t 19)), .s (.mv 3 (.t 20))]) (.skip))))) (.reg [.s (.bin 21 .add (.t 9) (.k (.v (.c (.int .i64 1))))), .s (.mv 9 (.t 21))])))
def pf_impl_Touched : PF := ⟨[.t 2], .seq (.reg [.s (.mv 2 (.k (.v (.c (.nils (.int .i64))))))]) (.seq (.reg [.s (.bs 6 (.int .i64) []), .s (.mv 3 (.t 6))]) (.seq (.seq (.reg [.s (.mv 7 (.t 0)), .s (.len 8 false (.t 7)), .s (.mv 9 (.k (.v (.c (.int .i64 0)))))]) (.blk 0 (.loop [3, 7, 8, 9] lb_impl_Touched_0))) (.seq (.reg [.s (.mv 22 (.t 3)), .s (.call (some 23) 21 [(.t 22)])]) (.seq (.reg [.s (.mv 24 (.t 3)), .s (.call (some 25) 22 [(.t 24)]), .s (.mv 2 (.t 25))]) (.ret)))))⟩
def c_impl_Touched : Fun := ⟨8, [], fun ts K => as1 ts fun t0 => arC (pL .seen) t0 fun l => chk (l.length ≤ 2147483647) (K (tL true (.int .i64) (touched l)) [])⟩
theorem run_impl_Touched (l : List (FT.Ty .seen)) (hpre : l.length ≤ 2147483647) : runK [c_slices_Sort_int, c_slices_Compact_int] (l.length + 1) [] pf_impl_Touched [tL false .seen l] fun r o => r = tL true (.int .i64) (touched l) ∧ o = [] := by
  conv => whnf
  refine loop (α := Nat) (fun k => ⟨[(3, .v (.c (.sl true (.int .i64) 0))), (7, .v (.c (.sl false .seen 1))), (8, .v (.c (.int .i64 (l.length : Int)))), (9, .v (.c (.int .i64 (k : Int))))], [(1, some (.flat false .seen none l)), (0, some (.flat true (.int .i64) none (addrS (l.take k))))], nums.tail.tail, [], false, []⟩)
    (fun k => k ≤ l.length) (fun k => l.length - k) (fun k R hI hR => ?_) 0 _ (by omega) (by omega)
  have hl := addrS_len (l.take k)
  rw [List.length_take] at hl
  have w3 : IntKind.i64.wrap ((k : Int) + 1) = ((k + 1 : Nat) : Int) := by rw [wrap_id (by omega) (by omega)]; rfl
  have hs := @addrS_snoc l k
  have hend : l.length ≤ k → setI (addrS (l.take k)) = touched l := fun h => by rw [List.take_of_length_le h]; rfl
  have hR := hR (k + 1)
  conv => whnf
  repeat' (first | (refine sel_i (fun h => ?_) (fun h => ?_) <;> conv => whnf) | (refine chk_c ?_ ?_ <;> conv => whnf) | (refine And.intro ?_ rfl) | (refine And.intro ?_ ?_ <;> conv => whnf))
  all_goals (simp only [w3, Int.toNat_natCast, decide_eq_true_eq, decide_eq_false_iff_not, ge_iff_le] at *)
  all_goals first
    | (refine ⟨?_⟩; (try simp only [List.length_cons, List.length_nil]); omega)
    | (refine ⟨?_⟩; rw [sortI_len]; done)
    | (refine ⟨?_⟩; rw [sortI_len]; omega)
    | (rw [show compI (sortI _) = setI _ from rfl, hend (by omega)]; done)
    | (rw [hs (by omega), if_pos (by assumption)] at hR; exact hR (by omega) (by omega))
    | (rw [hs (by omega), if_neg (by assumption)] at hR; exact hR (by omega) (by omega))
    | trace_state
theorem ok_impl_Touched : FunOk Try.prog c_impl_Touched := funOk (E := [c_slices_Sort_int, c_slices_Compact_int]) (envOk_cons ok_slices_Sort_int (envOk_cons ok_slices_Compact_int (envOk_nil))) mixd Try.func8 (pf := pf_impl_Touched) (by kernel_rfl) fun ts K h => by
  obtain ⟨t0, e0, h⟩ := as1_out h
  subst e0
  obtain ⟨l, e1, hq⟩ := arC_out (rd_l .seen) h
  clear h
  subst e1
  have h := hq
  clear hq
  obtain ⟨hpre, h⟩ := chk_o h
  exact ⟨_, _, h, Nat.le_of_ble_eq_true (show Nat.ble 1 Try.f8.ntmps = true by kernel_rfl), _, run_impl_Touched l hpre⟩

theorem insI_at (z : Int) : ∀ (o : List Int) (a : Int) (k : Nat), k ≤ o.length → (∀ j, j < k → o.getD j z < a) → (k = o.length ∨ ¬ o.getD k z < a) →
    insI a o = if k < o.length ∧ o.getD k z = a then o else o.take k ++ a :: o.drop k
  | [], a, k, h0, _, _ => by
    have : k = 0 := by simpa using h0
    subst this; rfl
  | y :: ys, a, 0, h0, h1, h2 => by
    have h2 : ¬ y < a := by
      rcases h2 with h2 | h2
      · simp at h2
      · simpa using h2
    have e : insI a (y :: ys) = if y < a then y :: insI a ys else if y = a then y :: ys else a :: y :: ys := rfl
    rw [e, if_neg h2]
    by_cases hy : y = a
    · rw [if_pos hy, if_pos ⟨by simp, by simpa using hy⟩]
    · rw [if_neg hy, if_neg (fun h => hy (by simpa using h.2))]; rfl
  | y :: ys, a, k + 1, h0, h1, h2 => by
    have hy : y < a := by simpa using h1 0 (by omega)
    have e : insI a (y :: ys) = if y < a then y :: insI a ys else if y = a then y :: ys else a :: y :: ys := rfl
    have ih := insI_at z ys a k (by simpa using h0) (fun j hj => by simpa using h1 (j + 1) (by omega)) (by simpa using h2)
    rw [e, if_pos hy, ih]
    by_cases hk : k < ys.length ∧ ys.getD k z = a
    · rw [if_pos hk, if_pos ⟨by simpa using hk.1, by simpa using hk.2⟩]
    · rw [if_neg hk, if_neg (fun h => hk ⟨by simpa using h.1, by simpa using h.2⟩)]; simp
def insAll (l : List Seen) : List Int := (addrS l).foldl (fun o a => insI a o) []
theorem insAll_touched (l : List Seen) : insAll l = touched l := (setI_fold (addrS l)).symm
theorem insAll_snoc {l : List Seen} {m : Nat} (h : m < l.length) : insAll (l.take (m + 1)) = if 0 ≤ (l.getD m (FT.zero .seen)).addr then insI (l.getD m (FT.zero .seen)).addr (insAll (l.take m)) else insAll (l.take m) := by
  unfold insAll
  rw [addrS_snoc h]
  split
  · rw [List.foldl_append]; rfl
  · rfl
theorem insAll_len (l : List Seen) : (insAll l).length ≤ l.length := by rw [insAll_touched]; exact touched_len l

def lb_spec_Touched_0 : PC := .seq (.seq (.reg [.s (.mv 22 (.t 6)), .s (.mv 23 (.t 3)), .s (.len 24 false (.t 23)), .s (.bin 25 .lss (.t 22) (.t 24)), .s (.mv 26 (.t 25)), .g 26 true (some 27) (.mv 27 (.t 3)), .g 26 true (some 28) (.mv 28 (.t 6)), .g 26 true (some 29) (.ia 29 (.int .i64) (.t 27) (.t 28)), .g 26 true (some 30) (.load 30 false 1 (.t 29)), .g 26 true (some 31) (.mv 31 (.t 5)), .g 26 true (some 32) (.bin 32 .lss (.t 30) (.t 31)), .s (.pick 33 (.t 26) (.t 32) (.k (.v (.c .ff))))]) (.cond (.t 33) (.skip) (.exit 2))) (.blk 3 (.reg [.s (.mv 34 (.t 6)), .s (.bin 35 .add (.t 34) (.k (.v (.c (.int .i64 1))))), .s (.mv 6 (.t 35))]))
def lb_spec_Touched_1 : PC := .seq (.seq (.reg [.s (.mv 9 (.t 4)), .s (.mv 10 (.t 0)), .s (.len 11 false (.t 10)), .s (.bin 12 .lss (.t 9) (.t 11))]) (.cond (.t 12) (.skip) (.exit 0))) (.seq (.blk 1 (.seq (.reg [.s (.mv 15 (.t 0)), .s (.mv 16 (.t 4)), .s (.ia 17 .seen (.t 15) (.t 16)), .s (.fa 18 (.t 17) 2), .s (.load 19 false 1 (.t 18)), .s (.mv 5 (.t 19))]) (.seq (.seq (.reg [.s (.mv 20 (.t 5)), .s (.bin 21 .lss (.t 20) (.k (.v (.c (.int .i64 0)))))]) (.cond (.t 21) (.exit 1) (.skip))) (.seq (.reg [.s (.mv 6 (.k (.v (.c (.int .i64 0)))))]) (.seq (.blk 2 (.loop [0, 3, 4, 5, 6] lb_spec_Touched_0)) (.seq (.seq (.reg [.s (.mv 36 (.t 6)), .s (.mv 37 (.t 3)), .s (.len 38 false (.t 37)), .s (.bin 39 .lss (.t 36) (.t 38)), .s (.mv 40 (.t 39)), .g 40 true (some 41) (.mv 41 (.t 3)), .g 40 true (some 42) (.mv 42 (.t 6)), .g 40 true (some 43) (.ia 43 (.int .i64) (.t 41) (.t 42)), .g 40 true (some 44) (.load 44 false 1 (.t 43)), .g 40 true (some 45) (.mv 45 (.t 5)), .g 40 true (some 46) (.bin 46 .eql (.t 44) (.t 45)), .s (.pick 47 (.t 40) (.t 46) (.k (.v (.c .ff))))]) (.cond (.t 47) (.exit 1) (.skip))) (.seq (.reg [.s (.bs 48 (.int .i64) []), .s (.mv 49 (.t 3)), .s (.mv 50 (.t 6)), .s (.slc 51 (.int .i64) (.t 49) none (some (.t 50))), .s (.app 52 (.int .i64) (.t 48) (.t 51)), .s (.mv 7 (.t 52))]) (.seq (.reg [.s (.mv 53 (.t 7)), .s (.mv 54 (.t 5)), .s (.bs 55 (.int .i64) [(.t 54)]), .s (.app 56 (.int .i64) (.t 53) (.t 55)), .s (.mv 7 (.t 56))]) (.reg [.s (.mv 57 (.t 7)), .s (.mv 58 (.t 3)), .s (.mv 59 (.t 6)), .s (.slc 60 (.int .i64) (.t 58) (some (.t 59)) none), .s (.app 61 (.int .i64) (.t 57) (.t 60)), .s (.mv 3 (.t 61))]))))))))) (.reg [.s (.mv 13 (.t 4)), .s (.bin 14 .add (.t 13) (.k (.v (.c (.int .i64 1))))), .s (.mv 4 (.t 14))]))
def pf_spec_Touched : PF := ⟨[.t 2], .seq (.reg [.s (.mv 2 (.k (.v (.c (.nils (.int .i64))))))]) (.seq (.reg [.s (.bs 8 (.int .i64) []), .s (.mv 3 (.t 8))]) (.seq (.seq (.reg [.s (.mv 4 (.k (.v (.c (.int .i64 0)))))]) (.blk 0 (.loop [0, 3, 4] lb_spec_Touched_1))) (.seq (.reg [.s (.mv 62 (.t 3)), .s (.mv 2 (.t 62))]) (.ret))))⟩
def c_spec_Touched : Fun := ⟨6, [], fun ts K => as1 ts fun t0 => arC (pL .seen) t0 fun l => chk (l.length ≤ 2147483647) (K (tL true (.int .i64) (touched l)) [])⟩
theorem run_spec_Touched (l : List (FT.Ty .seen)) (hpre : l.length ≤ 2147483647) : runK [] (l.length + 1) [] pf_spec_Touched [tL false .seen l] fun r o => r = tL true (.int .i64) (touched l) ∧ o = [] := by
  rw [← insAll_touched]
  conv => whnf
  refine loop (α := Nat) (fun k => ⟨[(0, .v (.c (.sl false .seen 0))), (3, .v (.c (.sl true (.int .i64) 1))), (4, .v (.c (.int .i64 (k : Int))))], [(1, some (.flat true (.int .i64) none (insAll (l.take k)))), (0, some (.flat false .seen none l))], nums.tail.tail, [], false, []⟩)
    (fun k => k ≤ l.length) (fun k => l.length - k) (fun k R hI hR => ?_) 0 _ (by omega) (by omega)
  have hl := insAll_len (l.take k)
  rw [List.length_take] at hl
  have w3 : IntKind.i64.wrap ((k : Int) + 1) = ((k + 1 : Nat) : Int) := by rw [wrap_id (by omega) (by omega)]; rfl
  have hs := @insAll_snoc l k
  have hend : l.length ≤ k → insAll (l.take k) = insAll l := fun h => by rw [List.take_of_length_le h]
  have hR := hR (k + 1)
  conv => whnf
  repeat' (first | (refine sel_i (fun h => ?_) (fun h => ?_) <;> conv => whnf) | (refine chk_c ?_ ?_ <;> conv => whnf) | (refine And.intro ?_ rfl) | (refine And.intro ?_ ?_ <;> conv => whnf))
  all_goals (simp only [w3, Int.toNat_natCast, decide_eq_true_eq, decide_eq_false_iff_not, ge_iff_le] at *)
  all_goals first
    | (refine ⟨?_⟩; (try simp only [List.length_cons, List.length_nil]); omega)
    | (rw [hend (by omega)]; done)
    | (rw [hs (by omega), if_neg (by omega)] at hR; exact hR (by omega) (by omega))
    | skip
  rename_i hlt hpos
  have hs := hs (by omega)
  rw [if_pos (by omega)] at hs
  rw [hs] at hR
  have hR := hR (by omega) (by omega)
  clear hs hend
  generalize (l.getD k FT.seen.zero).addr = a at *
  generalize insAll (l.take k) = o at *
  refine loop (α := Nat) (fun j => ⟨[(0, .v (.c (.sl false .seen 0))), (3, .v (.c (.sl true (.int .i64) 1))), (4, .v (.c (.int .i64 (k : Int)))), (5, .v (.c (.int .i64 a))), (6, .v (.c (.int .i64 (j : Int))))], [(1, some (.flat true (.int .i64) none o)), (0, some (.flat false .seen none l))], nums.tail.tail, [], false, []⟩)
    (fun j => j ≤ o.length ∧ ∀ i, i < j → o.getD i (FT.zero (.int .i64)) < a) (fun j => o.length - j) (fun j R2 hI2 hR2 => ?_) 0 _ ⟨by omega, fun i hi => absurd hi (Nat.not_lt_zero _)⟩ (by omega)
  obtain ⟨hj, hlow⟩ := hI2
  have w4 : IntKind.i64.wrap ((j : Int) + 1) = ((j + 1 : Nat) : Int) := by rw [wrap_id (by omega) (by omega)]; rfl
  have hins := insI_at (FT.zero (.int .i64)) o a j hj hlow
  have w5 : IntKind.i64.wrap ((k : Int) + 1) = ((k + 1 : Nat) : Int) := by rw [wrap_id (by omega) (by omega)]; rfl
  have g1 : win o 0 j = o.take j := by unfold win; rw [List.drop_zero]
  have g2 : win o (0 + j) ((o.length : Int) - j).toNat = o.drop j := by unfold win; rw [Nat.zero_add, List.take_of_length_le (by rw [List.length_drop]; omega)]
  have g3 : (o.take j).length = j := by rw [List.length_take]; omega
  have g4 : (o.drop j).length = o.length - j := List.length_drop
  have hins1 : (j = o.length ∨ ¬ o.getD j (FT.zero (.int .i64)) < a) → (j < o.length ∧ o.getD j (FT.zero (.int .i64)) = a) → insI a o = o := fun q1 q2 => by rw [hins q1, if_pos q2]
  have hins2 : (j = o.length ∨ ¬ o.getD j (FT.zero (.int .i64)) < a) → ¬ (j < o.length ∧ o.getD j (FT.zero (.int .i64)) = a) → insI a o = o.take j ++ [a] ++ o.drop j := fun q1 q2 => by rw [hins q1, if_neg q2]; simp
  clear hins
  conv => whnf
  repeat' (first | (refine sel_i (fun h => ?_) (fun h => ?_) <;> conv => whnf) | (refine chk_c ?_ ?_ <;> conv => whnf) | (refine And.intro ?_ rfl) | (refine And.intro ?_ ?_ <;> conv => whnf))
  all_goals (simp only [w5, w4, g1, g2, Int.toNat_natCast, decide_eq_true_eq, decide_eq_false_iff_not, beq_iff_eq, beq_eq_false_iff_ne, List.nil_append] at *)
  all_goals first
    | (refine ⟨?_⟩; simp only [List.length_append, List.length_cons, List.length_nil, g3, g4] at *; omega)
    | (refine ⟨?_⟩; omega)
    | (exact hR2 (j + 1) ⟨by omega, fun i hi => by
        by_cases e : i = j
        · rw [e]; assumption
        · exact hlow i (by omega)⟩ (by omega))
    | (rw [hins1 (by first | exact .inr (by assumption) | exact .inl (by omega)) ⟨by omega, by assumption⟩] at hR; exact hR)
    | (rw [hins2 (by first | exact .inr (by assumption) | exact .inl (by omega)) (fun q => by first | omega | (exact absurd q.2 (by assumption)))] at hR; exact hR)
    | (exfalso; omega)
    | trace_state
theorem ok_spec_Touched : FunOk Try.prog c_spec_Touched := funOk (E := []) (envOk_nil) mixd Try.func6 (pf := pf_spec_Touched) (by kernel_rfl) fun ts K h => by
  obtain ⟨t0, e0, h⟩ := as1_out h
  subst e0
  obtain ⟨l, e1, hq⟩ := arC_out (rd_l .seen) h
  clear h
  subst e1
  have h := hq
  clear hq
  obtain ⟨hpre, h⟩ := chk_o h
  exact ⟨_, _, h, Nat.le_of_ble_eq_true (show Nat.ble 1 Try.f6.ntmps = true by kernel_rfl), _, run_spec_Touched l hpre⟩
end Go.Pi
