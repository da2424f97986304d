/- Contracts of functions, each out of its run by PI. No conditions. -/
import Derived.Test.YthpjpaginggjaaaC2
namespace Go.Pi
open Go.Proofs
set_option linter.unusedVariables false
set_option linter.unusedSimpArgs false
set_option maxRecDepth 100000
attribute [local irreducible] iterN
/-! states that are right stay so -/
theorem memoryOk_iff {m : Mem} : memoryOk m = true ↔ m.words.length = 24 ∧ m.gone.length = 24 ∧ ∀ w ∈ m.words, wordOk w = true := by
  simp only [memoryOk, Bool.and_eq_true, decide_eq_true_eq, List.all_eq_true, and_assoc]
theorem stateOk_iff {s : State} : stateOk s = true ↔ s.regs.length = 8 ∧ (∀ w ∈ s.regs, wordOk w = true) ∧ wordOk s.pc = true ∧ memoryOk s.mem = true ∧ 0 ≤ s.trap ∧ s.trap ≤ 5 := by
  simp only [stateOk, Bool.and_eq_true, decide_eq_true_eq, List.all_eq_true, inR_t, and_assoc]
theorem fine_zero (w : Word) : Fine w zW := ⟨zW_ok, fun h => by cases h⟩
def Made (pc a b got v : Word) : Prop := Fine pc v ∨ Fine a v ∨ Fine b v ∨ Fine got v
theorem Made.ok {pc a b got v : Word} (h : Made pc a b got v) : wordOk v = true := by rcases h with h | h | h | h <;> exact h.1
theorem Made.und {C : List Word} {pc a b got v : Word} (h : Made pc a b got v) (h1 : Und C pc) (h2 : Und C a) (h3 : Und C b) (h4 : Und C got) : Und C v := by
  rcases h with h | h | h | h
  · exact h.und h1
  · exact h.und h2
  · exact h.und h3
  · exact h.und h4
theorem madeW_made {x : Inst} {pc a b got : Word} (ha : wordOk a = true) (hg : wordOk got = true) : Made pc a b got (madeW x a b got) := by
  unfold madeW
  repeat' split
  · exact .inr (.inl (fine_bare _ _))
  · exact .inr (.inl (fine_bare _ _))
  · exact .inr (.inl (fine_self ha))
  · exact .inr (.inl (weakenW_fine _ _))
  · exact .inr (.inl (narrowW_fine _ _))
  · exact .inr (.inl (pointW_fine _ _))
  · exact .inr (.inl (sealBy_fine _ _))
  · exact .inr (.inl (openBy_fine _ _))
  · exact .inr (.inl (fine_bare _ _))
  · exact .inr (.inl (fine_bare _ _))
  · exact .inr (.inr (.inr (fine_self hg)))
theorem nextW_made {pc a b got : Word} : Made pc a b got (nextW pc) := .inl (pointW_fine _ _)
theorem made_zero {pc a b got : Word} : Made pc a b got zW := .inl (fine_zero _)
structure WorkSpec (x : Inst) (pc a b got : Word) (e : Eff) : Prop where
  val : Made pc a b got e.val
  next : Made pc a b got e.next
  put : Made pc a b got e.put
  addr : e.addr ≠ -1 → x.op = 11 ∧ e.addr = IntKind.i64.wrap (a.n + x.n) ∧ e.put = b
  drop : e.drop ≠ -1 → tryW a a.n 32 = 0 ∧ e.drop = a.key.base
theorem workE_spec {x : Inst} {pc a b got : Word} (ha : wordOk a = true) (hb : wordOk b = true) (hg : wordOk got = true) :
    (0 ≤ (workE x pc a b got).trap ∧ (workE x pc a b got).trap ≤ 5) ∧ ((workE x pc a b got).trap = 0 → WorkSpec x pc a b got (workE x pc a b got)) := by
  unfold workE
  split
  · rename_i h
    exact ⟨(show (0 : Int) ≤ 0 ∧ (0 : Int) ≤ 5 by decide), fun _ => ⟨made_zero, nextW_made, .inr (.inr (.inl (fine_self hb))), fun _ => ⟨h, rfl, rfl⟩, fun h => absurd rfl h⟩⟩
  split
  · split
    · have := tryW_in a a.n 4
      rename_i h2
      exact ⟨by show 0 ≤ tryW a a.n 4 ∧ tryW a a.n 4 ≤ 5; omega, fun h => absurd h h2⟩
    · exact ⟨(show (0 : Int) ≤ 0 ∧ (0 : Int) ≤ 5 by decide), fun _ => ⟨nextW_made, .inr (.inl (fine_self ha)), made_zero, fun h => absurd rfl h, fun h => absurd rfl h⟩⟩
  split
  · refine ⟨(show (0 : Int) ≤ 0 ∧ (0 : Int) ≤ 5 by decide), fun _ => ⟨made_zero, ?_, made_zero, fun h => absurd rfl h, fun h => absurd rfl h⟩⟩
    dsimp only
    split
    · exact .inl (pointW_fine _ _)
    · exact nextW_made
  split
  · split
    · have := tryW_in a a.n 32
      rename_i h2
      exact ⟨by show 0 ≤ tryW a a.n 32 ∧ tryW a a.n 32 ≤ 5; omega, fun h => absurd h h2⟩
    · rename_i h2
      exact ⟨(show (0 : Int) ≤ 0 ∧ (0 : Int) ≤ 5 by decide), fun _ => ⟨made_zero, nextW_made, made_zero, fun h => absurd rfl h, fun _ => ⟨by simpa using h2, rfl⟩⟩⟩
  split
  · exact ⟨(show (0 : Int) ≤ 5 ∧ (5 : Int) ≤ 5 by decide), fun h => by cases h⟩
  split
  · refine ⟨(show (0 : Int) ≤ 0 ∧ (0 : Int) ≤ 5 by decide), fun _ => ⟨?_, nextW_made, made_zero, fun h => absurd rfl h, fun h => absurd rfl h⟩⟩
    dsimp only
    split
    · exact madeW_made ha hg
    · exact made_zero
  · exact ⟨(show (0 : Int) ≤ 0 ∧ (0 : Int) ≤ 5 by decide), fun _ => ⟨made_zero, nextW_made, made_zero, fun h => absurd rfl h, fun h => absurd rfl h⟩⟩
theorem readC_00 {m : Mem} {y : Word} {n : Int} (h : readC m y n = 0) : tryW y n 1 = 0 ∧ 0 ≤ n ∧ n ≤ m.words.length - 1 := by
  unfold readC at h
  split at h
  · rename_i h1; exact absurd h h1
  · rename_i h1
    split at h
    · rename_i h2; exact ⟨by omega, by have := inR_t.1 h2; omega⟩
    · cases h
theorem writeC_00 {m : Mem} {y w : Word} {n : Int} (h : writeC m y n w = 0) : tryW y n 2 = 0 ∧ 0 ≤ n ∧ n ≤ m.words.length - 1 := by
  unfold writeC at h
  split at h
  · rename_i h1; exact absurd h h1
  · rename_i h1
    split at h
    · cases h
    · rename_i h2
      have h2 : inR n 0 (m.words.length - 1) = true := by simpa using h2
      exact ⟨by omega, by have := inR_t.1 h2; omega⟩
theorem readM_00 {m : Mem} {y : Word} {n : Int} (h : (readM m y n).2 = 0) : tryW y n 1 = 0 ∧ 0 ≤ n ∧ n ≤ m.words.length - 1 ∧ (readM m y n).1 = filterW m.gone (takenW y (m.words.getD n.toNat (FT.zero .word))) := by
  unfold readM at h ⊢
  split at h
  · rename_i h1; exact absurd h h1
  · rename_i h1
    rw [if_neg h1]
    have := readC_00 (m := m) (y := y) (n := n) (by omega)
    exact ⟨this.1, this.2.1, this.2.2, rfl⟩
theorem readM_ok {m : Mem} (hm : ∀ w ∈ m.words, wordOk w = true) (y : Word) (n : Int) : wordOk (readM m y n).1 = true := by
  unfold readM
  split
  · exact zW_ok
  · exact (filterW_fine (takenW_fine (getD_ok hm _)).1).1
theorem memE_ok {m : Mem} (hm : ∀ w ∈ m.words, wordOk w = true) (x : Inst) (a b : Word) : wordOk (memE m x a b).1 = true := by
  unfold memE
  repeat' split
  · exact readM_ok hm _ _
  · exact zW_ok
  · exact zW_ok
structure EffSpec (l : List Inst) (s : State) (x : Inst) (a b got : Word) : Prop where
  fetch : fetchI l s.pc = (x, 0)
  hx : insOk x = true
  ha : a = s.regs.getD x.a.toNat (FT.zero .word)
  hb : b = s.regs.getD x.b.toNat (FT.zero .word)
  mem : memE s.mem x a b = (got, 0)
  eff : effE l s = workE x s.pc a b got
theorem effE_parts {l : List Inst} {s : State} (h : (effE l s).trap = 0) : ∃ x a b got, EffSpec l s x a b got := by
  by_cases h1 : (fetchI l s.pc).2 = 0
  · by_cases h2 : (memE s.mem (fetchI l s.pc).1 (s.regs.getD (fetchI l s.pc).1.a.toNat (FT.zero .word)) (s.regs.getD (fetchI l s.pc).1.b.toNat (FT.zero .word))).2 = 0
    · refine ⟨(fetchI l s.pc).1, _, _, (memE s.mem (fetchI l s.pc).1 (s.regs.getD (fetchI l s.pc).1.a.toNat (FT.zero .word)) (s.regs.getD (fetchI l s.pc).1.b.toNat (FT.zero .word))).1, ?_, fetchI_ok h1, rfl, rfl, ?_, ?_⟩
      · rw [← h1]
      · rw [← h2]
      · unfold effE; simp only; rw [if_neg (by simpa using h1), if_neg (by simpa using h2)]
    · unfold effE at h; simp only at h; rw [if_neg (by simpa using h1), if_pos h2] at h; exact absurd h h2
  · unfold effE at h; simp only at h; rw [if_pos h1] at h; exact absurd h h1
theorem EffSpec.work {l : List Inst} {s : State} {x : Inst} {a b got : Word} (h : EffSpec l s x a b got) (hs : stateOk s = true) (h0 : (effE l s).trap = 0) : WorkSpec x s.pc a b got (effE l s) := by
  obtain ⟨h1, h2, h3, h4, h5, h6⟩ := stateOk_iff.1 hs
  obtain ⟨m1, m2, m3⟩ := memoryOk_iff.1 h4
  have hg := memE_ok m3 x a b
  rw [h.mem] at hg
  rw [h.eff] at h0 ⊢
  exact (workE_spec (by rw [h.ha]; exact getD_ok h2 _) (by rw [h.hb]; exact getD_ok h2 _) hg).2 h0
theorem EffSpec.store {l : List Inst} {s : State} {x : Inst} {a b got : Word} (h : EffSpec l s x a b got) (hs : stateOk s = true) (h0 : (effE l s).trap = 0) (ha : (effE l s).addr ≠ -1) :
    tryW a (effE l s).addr 2 = 0 ∧ 0 ≤ (effE l s).addr ∧ (effE l s).addr ≤ 23 ∧ (effE l s).put = b := by
  obtain ⟨w1, w2, w3⟩ := (h.work hs h0).addr ha
  have hm := h.mem
  rw [memE_11 (by omega) w1] at hm
  have := writeC_00 (congrArg Prod.snd hm)
  obtain ⟨h1, h2, h3, h4, h5, h6⟩ := stateOk_iff.1 hs
  obtain ⟨m1, m2, m3⟩ := memoryOk_iff.1 h4
  rw [← w2] at this
  exact ⟨this.1, this.2.1, by omega, w3⟩
theorem EffSpec.load {l : List Inst} {s : State} {x : Inst} {a b got : Word} (h : EffSpec l s x a b got) : got = zW ∨ ∃ n : Int, tryW a n 1 = 0 ∧ 0 ≤ n ∧ n ≤ s.mem.words.length - 1 ∧ got = filterW s.mem.gone (takenW a (s.mem.words.getD n.toNat (FT.zero .word))) := by
  have hm := h.mem
  by_cases h1 : x.op = 10
  · rw [memE_10 h1] at hm
    obtain ⟨r1, r2, r3, r4⟩ := readM_00 (congrArg Prod.snd hm)
    right
    refine ⟨_, r1, r2, r3, ?_⟩
    rw [← r4, hm]
  · left
    by_cases h2 : x.op = 11
    · rw [memE_11 h1 h2] at hm; exact (congrArg Prod.fst hm).symm
    · rw [memE_x h1 h2] at hm; exact (congrArg Prod.fst hm).symm
theorem mem_set {α : Type} {xs : List α} {i : Nat} {v x : α} (h : x ∈ xs.set i v) : x ∈ xs ∨ x = v := List.mem_or_eq_of_mem_set h
theorem stepS_cases {l : List Inst} {s : State} (hs : stateOk s = true) :
    (s.trap ≠ 0 ∧ stepS l s = s) ∨ (s.trap = 0 ∧ (effE l s).trap ≠ 0 ∧ stepS l s = ⟨s.regs, s.pc, s.mem, (effE l s).trap⟩) ∨ (s.trap = 0 ∧ (effE l s).trap = 0 ∧ stepS l s = putE s (effE l s)) := by
  by_cases h : s.trap = 0
  · by_cases h2 : (effE l s).trap = 0
    · exact .inr (.inr ⟨h, h2, stepS_0 hs h h2⟩)
    · exact .inr (.inl ⟨h, h2, stepS_e hs h h2⟩)
  · exact .inl ⟨h, stepS_trap hs h⟩

/-! a closure: it has its roots, what its words open, and no more -/
theorem hasKey_iff {l : List Word} {k : Key} : hasKey l k = true ↔ ∃ x ∈ l, x.key = k := by
  simp only [hasKey, List.any_eq_true, decide_eq_true_eq]
theorem hasKey_mono {a b : List Word} {k : Key} (h : ∀ x ∈ a, x ∈ b) (hk : hasKey a k = true) : hasKey b k = true := by
  obtain ⟨x, h1, h2⟩ := hasKey_iff.1 hk
  exact hasKey_iff.2 ⟨x, h x h1, h2⟩
theorem putW_min {P : Word → Prop} {out : List Word} {w : Word} (h : ∀ x ∈ out, P x) (hw : w.is = true → wordOk w = true → P w) : ∀ x ∈ putW out w, P x := by
  intro x hx
  unfold putW at hx
  split at hx
  · rename_i hc
    simp only [Bool.and_eq_true] at hc
    rcases List.mem_append.1 hx with q | q
    · exact h x q
    · rw [List.mem_singleton.1 q]; exact hw hc.1.1 hc.1.2
  · exact h x hx
theorem foldPut_min {P : Word → Prop} : ∀ {l out : List Word}, (∀ x ∈ out, P x) → (∀ w ∈ l, w.is = true → wordOk w = true → P w) → ∀ x ∈ l.foldl putW out, P x
  | [], out, h, _ => h
  | v :: l, out, h, hl => foldPut_min (l := l) (putW_min h (hl v (by simp))) (fun w hw => hl w (by simp [hw]))
theorem scan_min {P : Word → Prop} {ws : List Word} : ∀ {n c : Nat} {out : List Word}, (∀ x ∈ out, P x) → (∀ j, c ≤ j → j < c + n → (ws.getD j (FT.zero .word)).is = true → P (ws.getD j (FT.zero .word))) → ∀ x ∈ scan ws n c out, P x
  | 0, c, out, h, _ => h
  | n + 1, c, out, h, hj => scan_min (n := n) (c := c + 1) (putW_min h fun hi _ => hj c (by omega) (by omega) hi) (fun j h1 h2 => hj j (by omega) (by omega))
def Cov (ws out : List Word) (k : Key) : Prop := opens k = true → ∀ j : Nat, k.base.toNat ≤ j → j < k.base.toNat + (min k.top 24 - k.base).toNat → (ws.getD j (FT.zero .word)).is = true → hasKey out (ws.getD j (FT.zero .word)).key = true
theorem Cov.mono {ws a b : List Word} {k : Key} (h : Cov ws a k) (hs : ∀ x ∈ a, x ∈ b) : Cov ws b k := fun ho j h1 h2 h3 => hasKey_mono hs (h ho j h1 h2 h3)
theorem closGo_min {P : Word → Prop} {ws : List Word} (hk : ∀ k : Word, P k → opens k.key = true → ∀ j : Nat, k.key.base.toNat ≤ j → j < k.key.base.toNat + (min k.key.top 24 - k.key.base).toNat → (ws.getD j (FT.zero .word)).is = true → P (ws.getD j (FT.zero .word))) :
    ∀ {n i : Nat} {out : List Word}, (∀ x ∈ out, P x) → ∀ x ∈ closGo ws n i out, P x
  | 0, _, _, h => h
  | n + 1, i, out, h => by
    unfold closGo; split
    · rename_i hi
      refine closGo_min hk (n := n) ?_
      unfold closStep; split
      · rename_i ho
        exact scan_min h (fun j h1 h2 h3 => hk _ (h _ (getD_mem hi)) ho j h1 h2 h3)
      · exact h
    · exact h
theorem closure_min {P : Word → Prop} {m : Mem} {l : List Word} (hl : ∀ w ∈ l, w.is = true → wordOk w = true → P w)
    (hk : ∀ k : Word, P k → opens k.key = true → ∀ j : Nat, k.key.base.toNat ≤ j → j < k.key.base.toNat + (min k.key.top 24 - k.key.base).toNat → (m.words.getD j (FT.zero .word)).is = true → P (m.words.getD j (FT.zero .word))) : ∀ x ∈ closure m l, P x := by
  unfold closure; split
  · exact closGo_min hk (foldPut_min (fun x hx => by cases hx) hl)
  · intro x hx; cases hx
/-! ### what is under a closed set -/
def Reach (C : List Word) (m : Mem) : Prop := ∀ c ∈ C, c.is = true → opens c.key = true → ∀ j : Nat, c.key.base ≤ j → (j : Int) < c.key.top → j < 24 → Und C (m.words.getD j (FT.zero .word))
theorem opens_iff {k : Key} : opens k = true ↔ ¬ andI k.perms 1 = 0 ∧ ¬ andI k.perms 8 = 0 := by simp [opens]
theorem opens_up {a b : Key} (h : coversK a b = true) (ho : opens b = true) : opens a = true := by
  obtain ⟨h1, h2, h3, h4, h5⟩ := coversK_iff.1 h
  obtain ⟨o1, o2⟩ := opens_iff.1 ho
  exact opens_iff.2 ⟨andI_bit h5 o1, andI_bit h5 o2⟩
theorem closure_under {C : List Word} {m : Mem} {l : List Word} (hl : ∀ w ∈ l, Und C w) (hr : Reach C m) : ∀ x ∈ closure m l, Und C x := by
  intro x hx
  have hm : memoryOk m = true := by
    unfold closure at hx; split at hx
    · assumption
    · cases hx
  obtain ⟨m1, m2, m3⟩ := memoryOk_iff.1 hm
  refine (closure_min (P := fun x => (x.is = true ∧ wordOk x = true) ∧ Und C x) (fun w hw h1 h2 => ⟨⟨h1, h2⟩, hl w hw⟩) (fun k hk ho j h1 h2 h3 => ?_) x hx).2
  obtain ⟨⟨hki, hko⟩, hku⟩ := hk
  have hn := keyOk_n (wordOk_is hko hki)
  refine ⟨⟨h3, getD_ok m3 j⟩, ?_⟩
  obtain ⟨c, c1, c2, c3⟩ := hku hki
  obtain ⟨q1, q2, q3, q4, q5⟩ := coversK_iff.1 c3
  exact hr c c1 c2 (opens_up c3 ho) j (by omega) (by omega) (by omega)
theorem hasP_iff {w : Word} {p : Int} : hasP w p = true ↔ w.is = true ∧ ¬ andI w.key.perms p = 0 := by simp [hasP]
theorem mem_filt {f : Nat → Bool} {n : Nat} {c : Int} : c ∈ filt f n ↔ ∃ j : Nat, j < n ∧ f j = true ∧ c = j := by
  simp only [filt, List.mem_map, List.mem_filter, List.mem_range]
  constructor
  · rintro ⟨j, ⟨h1, h2⟩, rfl⟩; exact ⟨j, h1, h2, rfl⟩
  · rintro ⟨j, h1, h2, rfl⟩; exact ⟨j, ⟨h1, h2⟩, rfl⟩
theorem coverP_iff {ws : List Word} {p : Int} {c : Nat} : coverP ws p c = true ↔ ∃ w ∈ ws, hasP w p = true ∧ w.key.base ≤ c ∧ (c : Int) ≤ w.key.top - 1 := by
  simp only [coverP, List.any_eq_true, Bool.and_eq_true, inR_t]
theorem cover_up {C : List Word} {w : Word} {p : Int} {c : Nat} (h : Und C w) (hp : hasP w p = true) (h1 : w.key.base ≤ c) (h2 : (c : Int) ≤ w.key.top - 1) : coverP C p c = true := by
  obtain ⟨p1, p2⟩ := hasP_iff.1 hp
  obtain ⟨d, d1, d2, d3⟩ := h p1
  obtain ⟨q1, q2, q3, q4, q5⟩ := coversK_iff.1 d3
  exact coverP_iff.2 ⟨d, d1, hasP_iff.2 ⟨d2, andI_bit q5 p2⟩, by omega, by omega⟩
theorem mem_cellsBy {m : Mem} {l : List Word} {p c : Int} : c ∈ cellsBy m l p ↔ ∃ j : Nat, j < 24 ∧ coverP (closure m l) p j = true ∧ c = j := mem_filt
structure Inv (C : List Word) (s : State) : Prop where
  ok : stateOk s = true
  regs : ∀ w ∈ s.regs, Und C w
  pc : Und C s.pc
  mem : Reach C s.mem
def hold (s : State) : List Word := s.regs ++ [s.pc]
theorem Inv.under {C : List Word} {s : State} (h : Inv C s) : ∀ x ∈ closure s.mem (hold s), Und C x := closure_under (fun w hw => by
  rcases List.mem_append.1 hw with q | q
  · exact h.regs w q
  · rw [List.mem_singleton.1 q]; exact h.pc) h.mem
theorem Inv.got {C : List Word} {l : List Inst} {s : State} (h : Inv C s) {x : Inst} {a b got : Word} (he : EffSpec l s x a b got) : Und C a ∧ Und C b ∧ Und C got := by
  obtain ⟨r1, r2, r3, r4, r5, r6⟩ := stateOk_iff.1 h.ok
  obtain ⟨m1, m2, m3⟩ := memoryOk_iff.1 r4
  have ha : Und C a := by rw [he.ha]; exact getD_und h.regs _
  have hb : Und C b := by rw [he.hb]; exact getD_und h.regs _
  refine ⟨ha, hb, ?_⟩
  rcases he.load with rfl | ⟨n, h1, h2, h3, rfl⟩
  · exact und_zero C
  · obtain ⟨t1, t2, t3, t4, t5, t6⟩ := tryW_0 h1
    obtain ⟨j, rfl⟩ := Int.eq_ofNat_of_zero_le h2
    have hj : j < 24 := by omega
    rw [Int.toNat_natCast]
    by_cases h8 : andI a.key.perms 8 = 0
    · rw [show takenW a (s.mem.words.getD j (FT.zero .word)) = plainW (s.mem.words.getD j (FT.zero .word)).n from if_pos h8]
      exact (filterW_fine (plainW_ok _)).und (und_bare C _)
    · obtain ⟨c, c1, c2, c3⟩ := ha t2
      obtain ⟨q1, q2, q3, q4, q5⟩ := coversK_iff.1 c3
      have hu := h.mem c c1 c2 (opens_up c3 (opens_iff.2 ⟨by rw [t4]; decide, h8⟩)) j (by omega) (by omega) hj
      exact (filterW_fine (takenW_fine (getD_ok m3 j)).1).und ((takenW_fine (getD_ok m3 j)).und hu)
theorem getD_set2 {α : Type} (xs : List α) (i j : Nat) (v d : α) : (xs.set i v).getD j d = if i = j ∧ j < xs.length then v else xs.getD j d := by
  simp only [List.getD_eq_getElem?_getD, List.getElem?_set]
  split
  · rename_i h; subst h
    split
    · rename_i h; simp [h]
    · rename_i h; simp [h]
  · rename_i h; simp [h]
theorem Inv.cell {C : List Word} {l : List Inst} {s : State} (h : Inv C s) {c : Nat} (hc : (stepS l s).mem.words.getD c (FT.zero .word) ≠ s.mem.words.getD c (FT.zero .word)) : c < 24 ∧ coverP C 2 c = true := by
  have hs := h.ok
  rcases stepS_cases (l := l) hs with ⟨h1, h2⟩ | ⟨h1, h2, h3⟩ | ⟨h1, h2, h3⟩
  · rw [h2] at hc; exact absurd rfl hc
  · rw [h3] at hc; exact absurd rfl hc
  · rw [h3] at hc
    obtain ⟨x, a, b, got, he⟩ := effE_parts h2
    obtain ⟨u1, u2, u3⟩ := h.got he
    unfold putE at hc; dsimp only at hc
    split at hc
    · rename_i hr
      have hr := inR_t.1 hr
      rw [getD_set2] at hc
      split at hc
      · rename_i hq
        obtain ⟨s1, s2, s3, s4⟩ := he.store hs h2 (by omega)
        obtain ⟨t1, t2, t3, t4, t5, t6⟩ := tryW_0 s1
        exact ⟨by omega, cover_up u1 (hasP_iff.2 ⟨t2, by rw [t4]; decide⟩) (by omega) (by omega)⟩
      · exact absurd rfl hc
    · exact absurd rfl hc
theorem Inv.gone {C : List Word} {l : List Inst} {s : State} (h : Inv C s) (hC : ∀ c ∈ C, hasP c 32 = false) : (stepS l s).mem.gone = s.mem.gone := by
  have hs := h.ok
  rcases stepS_cases (l := l) hs with ⟨h1, h2⟩ | ⟨h1, h2, h3⟩ | ⟨h1, h2, h3⟩
  · rw [h2]
  · rw [h3]
  · rw [h3]
    obtain ⟨x, a, b, got, he⟩ := effE_parts h2
    obtain ⟨u1, u2, u3⟩ := h.got he
    unfold putE; dsimp only
    split
    · rename_i hr
      have hr := inR_t.1 hr
      obtain ⟨d1, d2⟩ := (he.work hs h2).drop (by omega)
      obtain ⟨t1, t2, t3, t4, t5, t6⟩ := tryW_0 d1
      obtain ⟨d, e1, e2, e3⟩ := u1 t2
      obtain ⟨q1, q2, q3, q4, q5⟩ := coversK_iff.1 e3
      have := hC d e1
      rw [hasP_iff.2 ⟨e2, andI_bit q5 (by rw [t4]; decide)⟩] at this
      cases this
    · rfl

def keyWord (k : Key) (n : Int) : Word := if keyOk k then ⟨andI n 65535, true, k⟩ else plainW n
def pf_impl_KeyWord : PF := ⟨[.c 4 true 6], .seq (.reg [.s (.box 2 (.t 0)), .s (.alloc 4 [.int .i64 0, .ff, .int .i64 0, .int .i64 0, .int .i64 0, .int .i64 0])]) (.seq (.reg [.s (.mv 6 (.t 1)), .s (.call (some 7) 60 [(.t 6)]), .s (.alloc 5 [.int .i64 0, .ff, .int .i64 0, .int .i64 0, .int .i64 0, .int .i64 0]), .s (.store 6 (.t 5) (.t 7))]) (.seq (.seq (.reg [.s (.load 8 true 4 (.t 2)), .s (.call (some 9) 99 [(.t 8)])]) (.cond (.t 9) (.rgd [] [.s (.load 10 true 4 (.t 2)), .s (.fa 11 (.t 5) 1), .s (.store 1 (.t 11) (.k (.v (.c .tt)))), .s (.fa 12 (.t 5) 2), .s (.store 4 (.t 12) (.t 10))] (.tk 1 (.alt 0 false (.one 2 true (.tk 3 (.one 4 true (.done (some [4, 5]))))) (.alt 2 true (.one 0 true (.tk 3 (.one 4 true (.done (some [4, 5]))))) (.nil))))) (.skip))) (.seq (.reg [.s (.load 13 true 6 (.t 5)), .s (.store 6 (.t 4) (.t 13))]) (.ret))))⟩
def c_impl_KeyWord : Fun := ⟨124, [], fun ts K => as2 ts fun t0 t1 => arG pKeyT t0 fun k => arC (pI .i64) t1 fun n => K (tG ((keyWord k n).tc [])) []⟩
theorem run_impl_KeyWord (k : Key) (n : Int) : runK [c_impl_Plain, c_impl_KeyOk] (0) [] pf_impl_KeyWord [tG (k.tc []), tI .i64 n] fun r o => r = tG ((keyWord k n).tc []) ∧ o = [] := by
  conv => whnf
  repeat' (first | (refine sel_i (fun h => ?_) (fun h => ?_) <;> conv => whnf) | (refine chk_c ?_ ?_ <;> conv => whnf) | (refine And.intro ?_ rfl) | (refine And.intro ?_ ?_ <;> conv => whnf))
  all_goals (try simp only [etaKey, etaWord] at *)
  all_goals first
    | (unfold keyWord; rw [if_pos h]; rfl)
    | (unfold keyWord; rw [if_neg (by rw [h]; decide)]; rfl)
    | trace_state
theorem ok_impl_KeyWord : FunOk Try.prog c_impl_KeyWord := funOk (E := [c_impl_Plain, c_impl_KeyOk]) (envOk_cons ok_impl_Plain (envOk_cons ok_impl_KeyOk (envOk_nil))) mixd Try.func124 (pf := pf_impl_KeyWord) (by kernel_rfl) fun ts K h => by
  obtain ⟨t0, t1, e0, h⟩ := as2_out h
  subst e0
  obtain ⟨k, e1, hq⟩ := arG_out rd_key h
  clear h
  subst e1
  have h := hq
  clear hq
  obtain ⟨n, e1, hq⟩ := arC_out (rd_int .i64) h
  clear h
  subst e1
  have h := hq
  clear hq
  exact ⟨_, _, h, Nat.le_of_ble_eq_true (show Nat.ble 2 Try.f124.ntmps = true by kernel_rfl), _, run_impl_KeyWord k n⟩

def pf_spec_KeyWord : PF := ⟨[.c 4 true 6], .seq (.reg [.s (.box 2 (.t 0)), .s (.alloc 4 [.int .i64 0, .ff, .int .i64 0, .int .i64 0, .int .i64 0, .int .i64 0])]) (.seq (.reg [.s (.mv 6 (.t 1)), .s (.call (some 7) 164 [(.t 6)]), .s (.alloc 5 [.int .i64 0, .ff, .int .i64 0, .int .i64 0, .int .i64 0, .int .i64 0]), .s (.store 6 (.t 5) (.t 7))]) (.seq (.seq (.reg [.s (.load 8 true 4 (.t 2)), .s (.call (some 9) 160 [(.t 8)])]) (.cond (.t 9) (.seq (.reg [.s (.fa 10 (.t 5) 1), .s (.store 1 (.t 10) (.k (.v (.c .tt))))]) (.reg [.s (.load 11 true 4 (.t 2)), .s (.fa 12 (.t 5) 2), .s (.store 4 (.t 12) (.t 11))])) (.skip))) (.seq (.reg [.s (.load 13 true 6 (.t 5)), .s (.store 6 (.t 4) (.t 13))]) (.ret))))⟩
def c_spec_KeyWord : Fun := ⟨150, [], fun ts K => as2 ts fun t0 t1 => arG pKeyT t0 fun k => arC (pI .i64) t1 fun n => K (tG ((keyWord k n).tc [])) []⟩
theorem run_spec_KeyWord (k : Key) (n : Int) : runK [c_spec_KeyOk, c_spec_Plain] (0) [] pf_spec_KeyWord [tG (k.tc []), tI .i64 n] fun r o => r = tG ((keyWord k n).tc []) ∧ o = [] := by
  conv => whnf
  repeat' (first | (refine sel_i (fun h => ?_) (fun h => ?_) <;> conv => whnf) | (refine chk_c ?_ ?_ <;> conv => whnf) | (refine And.intro ?_ rfl) | (refine And.intro ?_ ?_ <;> conv => whnf))
  all_goals (try simp only [etaKey, etaWord] at *)
  all_goals first
    | (unfold keyWord; rw [if_pos h]; rfl)
    | (unfold keyWord; rw [if_neg (by rw [h]; decide)]; rfl)
    | trace_state
theorem ok_spec_KeyWord : FunOk Try.prog c_spec_KeyWord := funOk (E := [c_spec_KeyOk, c_spec_Plain]) (envOk_cons ok_spec_KeyOk (envOk_cons ok_spec_Plain (envOk_nil))) mixd Try.func150 (pf := pf_spec_KeyWord) (by kernel_rfl) fun ts K h => by
  obtain ⟨t0, t1, e0, h⟩ := as2_out h
  subst e0
  obtain ⟨k, e1, hq⟩ := arG_out rd_key h
  clear h
  subst e1
  have h := hq
  clear hq
  obtain ⟨n, e1, hq⟩ := arC_out (rd_int .i64) h
  clear h
  subst e1
  have h := hq
  clear hq
  exact ⟨_, _, h, Nat.le_of_ble_eq_true (show Nat.ble 2 Try.f150.ntmps = true by kernel_rfl), _, run_spec_KeyWord k n⟩


/-! what is kept is read as it was -/

/-! two that are apart -/
theorem twoOk_iff {t : Two} : twoOk t = true ↔ stateOk (sideState t 0) = true ∧ stateOk (sideState t 1) = true := by simp [twoOk]
theorem meetI_f {a b : List Int} : meetI a b = false ↔ ∀ c ∈ a, c ∉ b := by
  simp only [meetI, List.any_eq_false]
  constructor
  · intro h c hc hb
    exact h c hc (List.any_eq_true.2 ⟨c, hb, beq_iff_eq.2 rfl⟩)
  · intro h c hc hb
    obtain ⟨x, hx, e⟩ := List.any_eq_true.1 hb
    rw [beq_iff_eq.1 e] at hc
    exact h x hc hx
def Ap (C D : List Word) : Prop := ∀ j : Nat, j < 24 → coverP C 2 j = true → coverP D 1 j = false ∧ coverP D 2 j = false
def NoSeal (C : List Word) : Prop := ∀ c ∈ C, hasP c 32 = false
structure Both (A B : List Word) (t : Two) : Prop where
  a : Inv A (sideState t 0)
  b : Inv B (sideState t 1)
  ab : Ap A B
  ba : Ap B A
  na : NoSeal A
  nb : NoSeal B
theorem Both.ok {A B : List Word} {t : Two} (h : Both A B t) : twoOk t = true := twoOk_iff.2 ⟨h.a.ok, h.b.ok⟩
theorem Both.apart {A B : List Word} {t : Two} (h : Both A B t) (ha : ∀ x ∈ closure t.mem (heldW t.a), Und A x) (hb : ∀ x ∈ closure t.mem (heldW t.b), Und B x) : apartB t = true := by
  have hs : ∀ {C : List Word} {l : List Word}, (∀ x ∈ closure t.mem l, Und C x) → NoSeal C → canSeal t.mem l = false := fun {C l} hu hn => by
    cases e : canSeal t.mem l with
    | false => rfl
    | true =>
      simp only [canSeal, List.any_eq_true] at e
      obtain ⟨w, h1, h2⟩ := e
      obtain ⟨p1, p2⟩ := hasP_iff.1 h2
      obtain ⟨d, d1, d2, d3⟩ := hu w h1 p1
      obtain ⟨q1, q2, q3, q4, q5⟩ := coversK_iff.1 d3
      have := hn d d1
      rw [hasP_iff.2 ⟨d2, andI_bit q5 p2⟩] at this
      cases this
  have hcov : ∀ {C : List Word} {l : List Word} {p : Int} {j : Nat}, (∀ x ∈ closure t.mem l, Und C x) → coverP (closure t.mem l) p j = true → coverP C p j = true := fun {C l p j} hu hc => by
    obtain ⟨w, w1, w2, w3, w4⟩ := coverP_iff.1 hc
    exact cover_up (hu w w1) w2 w3 w4
  have hx : ∀ {C D : List Word} {l k : List Word}, (∀ x ∈ closure t.mem l, Und C x) → (∀ x ∈ closure t.mem k, Und D x) → Ap C D → crossesB t.mem l k = false := fun {C D l k} hu hv hap => by
    refine meetI_f.2 fun c hc hc2 => ?_
    obtain ⟨j, h1, h2, rfl⟩ := mem_cellsBy.1 hc
    have := hap j h1 (hcov hu h2)
    rcases List.mem_append.1 hc2 with q | q
    · obtain ⟨i, i1, i2, i3⟩ := mem_cellsBy.1 q
      have : i = j := by omega
      subst this
      have := hcov hv i2
      simp_all
    · obtain ⟨i, i1, i2, i3⟩ := mem_cellsBy.1 q
      have : i = j := by omega
      subst this
      have := hcov hv i2
      simp_all
  simp only [apartB, Bool.and_eq_true, Bool.not_eq_true']
  exact ⟨⟨⟨h.ok, hs ha h.na⟩, hs hb h.nb⟩, hx ha hb h.ab, hx hb ha h.ba⟩

structure Cur where
  b : List Int
  i : Int
  h : Int
def Cur.tc (c : Cur) (r : List TC) : List TC := tl false (.int .u8) c.b :: .int .i64 c.i :: .int .i64 c.h :: r
def pCurT : Prs Cur := fun l f => pL (.int .u8) l fun a l => pN l fun b l => pN l fun c l => f ⟨a, b, c⟩ l
theorem rd_cur : Rd pCurT Cur.tc := fun l f h0 => by
  obtain ⟨a, _, rfl, h1⟩ := rd_l (.int .u8) _ _ h0
  obtain ⟨b, _, rfl, h2⟩ := rd_int .i64 _ _ h1
  obtain ⟨c, _, rfl, h3⟩ := rd_int .i64 _ _ h2
  exact ⟨⟨a, b, c⟩, _, rfl, h3⟩
def CurOk (c : Cur) : Prop := 0 ≤ c.i ∧ c.b.length ≤ 1048576
abbrev curOut (d : Cur) : Tree := .v (.ptr true 0 (d.tc []))
theorem and255 (n : Int) : 0 ≤ andI n 255 ∧ andI n 255 ≤ 255 := andI_le n (by decide) (by decide)

def pf_laws_big : PF := ⟨[.t 2], .seq (.reg [.s (.mv 2 (.k (.v (.c .ff))))]) (.seq (.reg [.s (.mv 3 (.t 0)), .s (.len 4 false (.t 3)), .s (.bin 5 .gtr (.t 4) (.k (.v (.c (.int .i64 1048576))))), .s (.mv 2 (.t 5))]) (.ret))⟩
def c_laws_big : Fun := ⟨12, [], fun ts K => as1 ts fun t0 => arC (pL (.int .u8)) t0 fun c => K (tB (decide (1048576 < c.length))) []⟩
theorem run_laws_big (c : List (FT.Ty (.int .u8))) : runK [] (0) [] pf_laws_big [tL false (.int .u8) c] fun r o => r = tB (decide (1048576 < c.length)) ∧ o = [] := by
  conv => whnf
  repeat' (first | (refine sel_i (fun h => ?_) (fun h => ?_) <;> conv => whnf) | (refine chk_c ?_ ?_ <;> conv => whnf) | (refine And.intro ?_ rfl) | (refine And.intro ?_ ?_ <;> conv => whnf))
  have e : decide ((c.length : Int) > 1048576) = decide (1048576 < c.length) := decide_eq_decide.2 (by omega)
  rw [e]
theorem ok_laws_big : FunOk Try.prog c_laws_big := funOk (E := []) (envOk_nil) mixd Try.func12 (pf := pf_laws_big) (by kernel_rfl) fun ts K h => by
  obtain ⟨t0, e0, h⟩ := as1_out h
  subst e0
  obtain ⟨c, e1, hq⟩ := arC_out (rd_l (.int .u8)) h
  clear h
  subst e1
  have h := hq
  clear hq
  exact ⟨_, _, h, Nat.le_of_ble_eq_true (show Nat.ble 1 Try.f12.ntmps = true by kernel_rfl), _, run_laws_big c⟩

def pf_laws_at : PF := ⟨[.t 4], .seq (.reg [.s (.mv 4 (.k (.v (.c (.int .i64 0)))))]) (.seq (.seq (.reg [.s (.mv 5 (.t 1)), .s (.mv 6 (.t 0)), .s (.len 7 false (.t 6)), .s (.bin 8 .lss (.t 5) (.t 7))]) (.cond (.t 8) (.seq (.reg [.s (.mv 9 (.t 0)), .s (.mv 10 (.t 1)), .s (.ia 11 (.int .u8) (.t 9) (.t 10)), .s (.load 12 false 1 (.t 11)), .s (.conv 13 .i64 (.t 12)), .s (.mv 4 (.t 13))]) (.ret)) (.skip))) (.seq (.reg [.s (.mv 14 (.t 1)), .s (.bin 15 .mul (.t 14) (.k (.v (.c (.int .i64 7))))), .s (.mv 16 (.t 0)), .s (.len 17 false (.t 16)), .s (.bin 18 .add (.t 15) (.t 17)), .s (.bin 19 .rem (.t 18) (.k (.v (.c (.int .i64 256))))), .s (.mv 4 (.t 19))]) (.ret)))⟩
def c_laws_at : Fun := ⟨78, [], fun ts K => as2 ts fun t0 t1 => arC (pL (.int .u8)) t0 fun c => arC (pI .i64) t1 fun i => chk (c.length ≤ 1048576 ∧ 0 ≤ i ∧ i ≤ 1000 ∧ U8s c) (∀ (x : Int), (0 ≤ x ∧ x ≤ 255) → K (tN x) [])⟩
theorem run_laws_at (c : List (FT.Ty (.int .u8))) (i : Int) (hpre : c.length ≤ 1048576 ∧ 0 ≤ i ∧ i ≤ 1000 ∧ U8s c) {K : Tree → List Tree → Prop} (hK : ∀ (x : Int), (0 ≤ x ∧ x ≤ 255) → K (tN x) []) : runK [] (0) [] pf_laws_at [tL false (.int .u8) c, tI .i64 i] K := by
  obtain ⟨l1, l2, l3, l4⟩ := hpre
  conv => whnf
  repeat' (first | (refine sel_i (fun h => ?_) (fun h => ?_) <;> conv => whnf) | (refine chk_c ?_ ?_ <;> conv => whnf) | (refine And.intro ?_ rfl) | (refine And.intro ?_ ?_ <;> conv => whnf))
  all_goals first
    | (refine ⟨?_⟩; decide)
    | (refine ⟨?_⟩; simp at h; omega)
    | (have hv := l4.at i.toNat; rw [wrap_id (n := c.getD i.toNat (FT.zero (.int .u8))) (by simp only [zu8]; omega) (by simp only [zu8]; omega)]; exact hK _ hv)
    | (rw [wrap_id (n := i * 7) (by omega) (by omega), wrap_id (n := i * 7 + (c.length : Int)) (by omega) (by omega), Int.tmod_eq_emod_of_nonneg (by omega)]; exact hK _ ⟨by omega, by omega⟩)
    | trace_state
theorem ok_laws_at : FunOk Try.prog c_laws_at := funOkR (E := []) (envOk_nil) mixd Try.func78 (pf := pf_laws_at) (by kernel_rfl) fun ts K h => by
  obtain ⟨t0, t1, e0, h⟩ := as2_out h
  subst e0
  obtain ⟨c, e1, hq⟩ := arC_out (rd_l (.int .u8)) h
  clear h
  subst e1
  have h := hq
  clear hq
  obtain ⟨i, e1, hq⟩ := arC_out (rd_int .i64) h
  clear h
  subst e1
  have h := hq
  clear hq
  obtain ⟨hpre, h⟩ := chk_o h
  exact ⟨Nat.le_of_ble_eq_true (show Nat.ble 2 Try.f78.ntmps = true by kernel_rfl), _, run_laws_at c i hpre h⟩

def lb_spec_l1New_0 : PC := .seq (.seq (.reg [.s (.mv 8 (.t 4)), .s (.mv 9 (.t 0)), .s (.len 10 false (.t 9)), .s (.bin 11 .lss (.t 8) (.t 10)), .s (.mv 12 (.t 11)), .g 12 true (some 13) (.mv 13 (.t 4)), .g 12 true (some 14) (.bin 14 .lss (.t 13) (.k (.v (.c (.int .i64 4000))))), .s (.pick 15 (.t 12) (.t 14) (.k (.v (.c .ff))))]) (.cond (.t 15) (.skip) (.exit 0))) (.seq (.blk 1 (.reg [.s (.mv 18 (.t 3)), .s (.bin 19 .mul (.t 18) (.k (.v (.c (.int .i64 131))))), .s (.mv 20 (.t 0)), .s (.mv 21 (.t 4)), .s (.ia 22 (.int .u8) (.t 20) (.t 21)), .s (.load 23 false 1 (.t 22)), .s (.conv 24 .i64 (.t 23)), .s (.bin 25 .add (.t 19) (.t 24)), .s (.bin 26 .add (.t 25) (.k (.v (.c (.int .i64 7))))), .s (.bin 27 .and (.t 26) (.k (.v (.c (.int .i64 1073741823))))), .s (.mv 3 (.t 27))])) (.reg [.s (.mv 16 (.t 4)), .s (.bin 17 .add (.t 16) (.k (.v (.c (.int .i64 1))))), .s (.mv 4 (.t 17))]))
def pf_spec_l1New : PF := ⟨[.t 2], .seq (.reg [.s (.mv 2 (.k (.v (.c .nilp))))]) (.seq (.reg [.s (.mv 5 (.t 0)), .s (.len 6 false (.t 5)), .s (.bin 7 .add (.k (.v (.c (.int .i64 19220)))) (.t 6)), .s (.mv 3 (.t 7))]) (.seq (.seq (.reg [.s (.mv 4 (.k (.v (.c (.int .i64 0)))))]) (.blk 0 (.loop [0, 3, 4] lb_spec_l1New_0))) (.seq (.reg [.s (.mv 28 (.t 0)), .s (.mv 29 (.t 3)), .s (.build 30 [.nils (.int .u8), .int .i64 0, .int .i64 0] [(0, 1, (.t 28)), (2, 1, (.t 29))]), .s (.box 31 (.t 30)), .s (.mv 2 (.t 31))]) (.ret))))⟩
def c_spec_l1New : Fun := ⟨81, [], fun ts K => as1 ts fun t0 => arC (pL (.int .u8)) t0 fun c => chk (c.length ≤ 1048576) (∀ (d : Cur), (CurOk d) → K (.v (.ptr true 0 (d.tc []))) [])⟩
theorem run_spec_l1New (c : List (FT.Ty (.int .u8))) (hpre : c.length ≤ 1048576) {K : Tree → List Tree → Prop} (hK : ∀ (d : Cur), (CurOk d) → K (.v (.ptr true 0 (d.tc []))) []) : runK [] (c.length + 1) [] pf_spec_l1New [tL false (.int .u8) c] K := by
  conv => whnf
  refine loop (α := Nat × Int) (fun q => ⟨[(0, .v (.c (.sl false (.int .u8) 0))), (3, .v (.c (.int .i64 q.2))), (4, .v (.c (.int .i64 (q.1 : Int))))], [(0, some (.flat false (.int .u8) none c))], nums.tail, [], false, []⟩)
    (fun q => q.1 ≤ c.length) (fun q => c.length - q.1) (fun q R hI hR => ?_) (0, IntKind.i64.wrap (19220 + (c.length : Int))) _ (Nat.zero_le _) (by simp)
  obtain ⟨i, n⟩ := q
  dsimp only at hI
  dsimp only
  conv => whnf
  repeat' (first | (refine sel_i (fun h => ?_) (fun h => ?_) <;> conv => whnf) | (refine chk_c ?_ ?_ <;> conv => whnf) | (refine And.intro ?_ rfl) | (refine And.intro ?_ ?_ <;> conv => whnf))
  all_goals first
    | (refine ⟨?_⟩; simp at *; omega)
    | (rw [wrap_id (n := (i : Int) + 1) (by omega) (by omega)]; refine hR (i + 1, _) (by simp at *; omega) (by simp at *; omega))
    | exact hK ⟨_, _, _⟩ ⟨Int.le_refl _, hpre⟩
    | trace_state
theorem ok_spec_l1New : FunOk Try.prog c_spec_l1New := funOkR (E := []) (envOk_nil) mixd Try.func81 (pf := pf_spec_l1New) (by kernel_rfl) fun ts K h => by
  obtain ⟨t0, e0, h⟩ := as1_out h
  subst e0
  obtain ⟨c, e1, hq⟩ := arC_out (rd_l (.int .u8)) h
  clear h
  subst e1
  have h := hq
  clear hq
  obtain ⟨hpre, h⟩ := chk_o h
  exact ⟨Nat.le_of_ble_eq_true (show Nat.ble 1 Try.f81.ntmps = true by kernel_rfl), _, run_spec_l1New c hpre h⟩

def pf_spec_l1Byte : PF := ⟨[.t 2], .seq (.reg [.s (.mv 2 (.k (.v (.c (.int .i64 0)))))]) (.seq (.reg [.s (.mv 4 (.t 0)), .s (.mv 5 (.t 0)), .s (.nchk 6 (.t 5)), .s (.fa 7 (.t 6) 2), .s (.load 8 false 1 (.t 7)), .s (.bin 9 .mul (.t 8) (.k (.v (.c (.int .i64 6364136223846793005))))), .s (.bin 10 .add (.t 9) (.k (.v (.c (.int .i64 1442695040888963407))))), .s (.nchk 11 (.t 4)), .s (.fa 12 (.t 11) 2), .s (.store 1 (.t 12) (.t 10))]) (.seq (.rgd [] [.s (.mv 13 (.t 0)), .s (.nchk 14 (.t 13)), .s (.fa 15 (.t 14) 2), .s (.load 16 false 1 (.t 15)), .s (.bin 17 .shr (.t 16) (.k (.v (.c (.int .u64 33))))), .s (.mv 18 (.t 0)), .s (.nchk 19 (.t 18)), .s (.fa 20 (.t 19) 2), .s (.load 21 false 1 (.t 20)), .s (.bin 22 .shr (.t 21) (.k (.v (.c (.int .u64 45))))), .s (.bin 23 .xor (.t 17) (.t 22)), .s (.bin 24 .and (.t 23) (.k (.v (.c (.int .i64 255))))), .s (.mv 3 (.t 24))] (.tk 0 (.tk 1 (.tk 2 (.tk 3 (.tk 4 (.tk 5 (.tk 6 (.tk 7 (.tk 8 (.tk 9 (.tk 10 (.tk 11 (.tk 12 (.done none))))))))))))))) (.seq (.seq (.rgd [] [.s (.mv 25 (.t 0)), .s (.nchk 26 (.t 25)), .s (.fa 27 (.t 26) 1), .s (.load 28 false 1 (.t 27)), .s (.mv 29 (.t 0)), .s (.nchk 30 (.t 29)), .s (.fa 31 (.t 30) 0), .s (.load 32 false 1 (.t 31)), .s (.len 33 false (.t 32)), .s (.bin 34 .lss (.t 28) (.t 33))] (.tk 0 (.tk 1 (.tk 2 (.tk 3 (.tk 4 (.tk 5 (.tk 6 (.tk 7 (.tk 8 (.tk 9 (.done none)))))))))))) (.cond (.t 34) (.seq (.rgd [] [.s (.mv 35 (.t 3)), .s (.mv 36 (.t 0)), .s (.nchk 37 (.t 36)), .s (.fa 38 (.t 37) 0), .s (.load 39 false 1 (.t 38)), .s (.mv 40 (.t 0)), .s (.nchk 41 (.t 40)), .s (.fa 42 (.t 41) 1), .s (.load 43 false 1 (.t 42)), .s (.ia 44 (.int .u8) (.t 39) (.t 43)), .s (.load 45 false 1 (.t 44)), .s (.conv 46 .i64 (.t 45)), .s (.bin 47 .add (.t 35) (.t 46)), .s (.bin 48 .and (.t 47) (.k (.v (.c (.int .i64 255))))), .s (.mv 3 (.t 48))] (.tk 0 (.tk 1 (.tk 2 (.tk 3 (.tk 4 (.tk 5 (.tk 6 (.tk 7 (.tk 8 (.tk 9 (.tk 10 (.tk 11 (.tk 12 (.tk 13 (.tk 14 (.done none))))))))))))))))) (.reg [.s (.mv 49 (.t 0)), .s (.mv 50 (.t 0)), .s (.nchk 51 (.t 50)), .s (.fa 52 (.t 51) 1), .s (.load 53 false 1 (.t 52)), .s (.bin 54 .add (.t 53) (.k (.v (.c (.int .i64 1))))), .s (.nchk 55 (.t 49)), .s (.fa 56 (.t 55) 1), .s (.store 1 (.t 56) (.t 54))])) (.skip))) (.seq (.reg [.s (.mv 57 (.t 3)), .s (.mv 2 (.t 57))]) (.ret)))))⟩
def c_spec_l1Byte : Fun := ⟨157, [true], fun ts K => as1 ts fun t0 => arQ pCurT t0 fun c => chk (CurOk c) (∀ (x : Int) (d : Cur), ((0 ≤ x ∧ x ≤ 255) ∧ CurOk d) → K (tN x) ([curOut d]))⟩
theorem run_spec_l1Byte (c : Cur) (hpre : CurOk c) {K : Tree → List Tree → Prop} (hK : ∀ (x : Int) (d : Cur), ((0 ≤ x ∧ x ≤ 255) ∧ CurOk d) → K (tN x) ([curOut d])) : runK [] (0) [true] pf_spec_l1Byte [.v (.ptr true 0 (c.tc []))] K := by
  obtain ⟨c1, c2⟩ := hpre
  conv => whnf
  repeat' (first | (refine sel_i (fun h => ?_) (fun h => ?_) <;> conv => whnf) | (refine chk_c ?_ ?_ <;> conv => whnf) | (refine And.intro ?_ rfl) | (refine And.intro ?_ ?_ <;> conv => whnf))
  all_goals (try simp only [andI_eq])
  all_goals first
    | (refine ⟨?_⟩; decide)
    | (refine ⟨?_⟩; simp at h; omega)
    | (have hc : c.i < c.b.length := by simpa using h
       rw [wrap_id (n := c.i + 1) (by omega) (by omega)]
       generalize hy : andI _ 255 = y
       exact hK y ⟨c.b, c.i + 1, _⟩ ⟨hy ▸ and255 _, by dsimp only; omega, c2⟩)
    | (generalize hy : andI _ 255 = y; generalize IntKind.i64.wrap (IntKind.i64.wrap (c.h * 6364136223846793005) + 1442695040888963407) = z; exact hK y ⟨c.b, c.i, z⟩ ⟨hy ▸ and255 _, c1, c2⟩)
    | trace_state
theorem ok_spec_l1Byte : FunOk Try.prog c_spec_l1Byte := funOkR (E := []) (envOk_nil) mixd Try.func157 (pf := pf_spec_l1Byte) (by kernel_rfl) fun ts K h => by
  obtain ⟨t0, e0, h⟩ := as1_out h
  subst e0
  obtain ⟨c, e1, hq⟩ := arQ_out rd_cur h
  clear h
  subst e1
  have h := hq
  clear hq
  obtain ⟨hpre, h⟩ := chk_o h
  exact ⟨Nat.le_of_ble_eq_true (show Nat.ble 1 Try.f157.ntmps = true by kernel_rfl), _, run_spec_l1Byte c hpre h⟩

theorem tmod_in {x n : Int} (hx : 0 ≤ x) (hn : 0 < n) : 0 ≤ x.tmod n ∧ x.tmod n < n := by
  rw [Int.tmod_eq_emod_of_nonneg hx]; exact ⟨Int.emod_nonneg _ (by omega), Int.emod_lt_of_pos _ hn⟩

def pf_spec_l1Below : PF := ⟨[.t 4], .seq (.reg [.s (.mv 4 (.k (.v (.c (.int .i64 0)))))]) (.seq (.seq (.reg [.s (.mv 9 (.t 1)), .s (.bin 10 .leq (.t 9) (.k (.v (.c (.int .i64 0)))))]) (.cond (.t 10) (.seq (.reg [.s (.mv 4 (.k (.v (.c (.int .i64 0)))))]) (.ret)) (.skip))) (.seq (.seq (.reg [.s (.mv 11 (.t 1)), .s (.bin 12 .leq (.t 11) (.k (.v (.c (.int .i64 256)))))]) (.cond (.t 12) (.seq (.reg [.s (.mv 13 (.t 0)), .s (.call (some 14) 157 [(.t 13)]), .s (.mv 15 (.t 1)), .s (.bin 16 .rem (.t 14) (.t 15)), .s (.mv 4 (.t 16))]) (.ret)) (.skip))) (.seq (.reg [.s (.mv 17 (.t 0)), .s (.call (some 18) 157 [(.t 17)]), .s (.mv 5 (.t 18))]) (.seq (.reg [.s (.mv 19 (.t 0)), .s (.call (some 20) 157 [(.t 19)]), .s (.mv 6 (.t 20))]) (.seq (.reg [.s (.mv 21 (.t 0)), .s (.call (some 22) 157 [(.t 21)]), .s (.mv 7 (.t 22))]) (.seq (.reg [.s (.mv 23 (.t 0)), .s (.call (some 24) 157 [(.t 23)]), .s (.mv 8 (.t 24))]) (.seq (.reg [.s (.mv 25 (.t 5)), .s (.bin 26 .mul (.t 25) (.k (.v (.c (.int .i64 16777216))))), .s (.mv 27 (.t 6)), .s (.bin 28 .mul (.t 27) (.k (.v (.c (.int .i64 65536))))), .s (.bin 29 .add (.t 26) (.t 28)), .s (.mv 30 (.t 7)), .s (.bin 31 .mul (.t 30) (.k (.v (.c (.int .i64 256))))), .s (.bin 32 .add (.t 29) (.t 31)), .s (.mv 33 (.t 8)), .s (.bin 34 .add (.t 32) (.t 33)), .s (.mv 35 (.t 1)), .s (.bin 36 .rem (.t 34) (.t 35)), .s (.mv 4 (.t 36))]) (.ret))))))))⟩
def c_spec_l1Below : Fun := ⟨83, [true, false], fun ts K => as2 ts fun t0 t1 => arQ pCurT t0 fun c => arC (pI .i64) t1 fun n => chk (CurOk c) (∀ (x : Int) (d : Cur), ((0 ≤ x ∧ (n ≤ 0 → x = 0) ∧ (0 < n → x < n)) ∧ CurOk d) → K (tN x) ([curOut d]))⟩
theorem run_spec_l1Below (c : Cur) (n : Int) (hpre : CurOk c) {K : Tree → List Tree → Prop} (hK : ∀ (x : Int) (d : Cur), ((0 ≤ x ∧ (n ≤ 0 → x = 0) ∧ (0 < n → x < n)) ∧ CurOk d) → K (tN x) ([curOut d])) : runK [c_spec_l1Byte] (0) [true, false] pf_spec_l1Below [.v (.ptr true 0 (c.tc [])), tI .i64 n] K := by
  conv => whnf
  repeat' (first | (refine sel_i (fun h => ?_) (fun h => ?_) <;> conv => whnf) | (refine chk_c ?_ ?_ <;> conv => whnf) | (refine And.intro ?_ rfl) | (refine And.intro ?_ ?_ <;> conv => whnf) | (intro x y z d hd; (try have g1 := And.left hd); (try have g2 := And.right hd); (try have g3 := And.left (And.right hd)); (try have g4 := And.right (And.right hd)); conv => whnf) | (intro x y d hd; (try have g1 := And.left hd); (try have g2 := And.right hd); (try have g3 := And.left (And.right hd)); (try have g4 := And.right (And.right hd)); conv => whnf) | (intro x d hd; (try have g1 := And.left hd); (try have g2 := And.right hd); (try have g3 := And.left (And.right hd)); (try have g4 := And.right (And.right hd)); conv => whnf) | (intro d hd; (try have g1 := And.left hd); (try have g2 := And.right hd); (try have g3 := And.left (And.right hd)); (try have g4 := And.right (And.right hd)); conv => whnf))
  all_goals first
    | (refine ⟨?_⟩; exact hd.2)
    | (refine ⟨?_⟩; exact hpre)
    | (refine ⟨?_⟩; simp at *; omega)
    | exact hK _ ⟨_, _, _⟩ ⟨⟨Int.le_refl _, fun _ => rfl, fun _ => by simp at h; omega⟩, hpre⟩
    | (have hn : 0 < n := by simp at *; omega
       have ht := tmod_in (n := n) hd.1.1 hn
       exact hK _ ⟨_, _, _⟩ ⟨⟨ht.1, fun _ => by omega, fun _ => ht.2⟩, hd.2⟩)
    | (have hn : 0 < n := by simp at *; omega
       rename_i x1 d1 hd1 _ _ _ _ x2 d2 hd2 _ _ _ _ x3 d3 hd3 _ _ _ _
       have q1 := hd1.1; have q2 := hd2.1; have q3 := hd3.1; have q4 := hd.1
       rw [wrap_id (n := x1 * 16777216) (by omega) (by omega), wrap_id (n := x2 * 65536) (by omega) (by omega), wrap_id (n := x1 * 16777216 + x2 * 65536) (by omega) (by omega), wrap_id (n := x3 * 256) (by omega) (by omega), wrap_id (n := x1 * 16777216 + x2 * 65536 + x3 * 256) (by omega) (by omega), wrap_id (n := x1 * 16777216 + x2 * 65536 + x3 * 256 + x) (by omega) (by omega)]
       have ht := tmod_in (x := x1 * 16777216 + x2 * 65536 + x3 * 256 + x) (n := n) (by omega) hn
       exact hK _ ⟨_, _, _⟩ ⟨⟨ht.1, fun _ => by omega, fun _ => ht.2⟩, hd.2⟩)
    | trace_state
theorem ok_spec_l1Below : FunOk Try.prog c_spec_l1Below := funOkR (E := [c_spec_l1Byte]) (envOk_cons ok_spec_l1Byte (envOk_nil)) mixd Try.func83 (pf := pf_spec_l1Below) (by kernel_rfl) fun ts K h => by
  obtain ⟨t0, t1, e0, h⟩ := as2_out h
  subst e0
  obtain ⟨c, e1, hq⟩ := arQ_out rd_cur h
  clear h
  subst e1
  have h := hq
  clear hq
  obtain ⟨n, e1, hq⟩ := arC_out (rd_int .i64) h
  clear h
  subst e1
  have h := hq
  clear hq
  obtain ⟨hpre, h⟩ := chk_o h
  exact ⟨Nat.le_of_ble_eq_true (show Nat.ble 2 Try.f83.ntmps = true by kernel_rfl), _, run_spec_l1Below c n hpre h⟩



def cuC (d : Cur) (k : Nat) : List Cell := [.sl false (.int .u8) k, .int .i64 d.i, .int .i64 d.h]

theorem U8s.app {a b : List Int} (ha : U8s a) (hb : U8s b) : U8s (a ++ b) := fun x hx => by
  rcases List.mem_append.1 hx with q | q
  · exact ha x q
  · exact hb x q
theorem U8s.put {a : List Int} (ha : U8s a) {i : Nat} {v : Int} (hv : 0 ≤ v ∧ v ≤ 255) : U8s (a.set i v) := fun x hx => by
  rcases mem_set hx with q | q
  · exact ha x q
  · rw [q]; exact hv

theorem eq_end {α : Type} [DecidableEq α] {xs ys : List α} {i : Nat} (hl : xs.length = ys.length) (h : xs.length ≤ i) (he : xs.take i = ys.take i) : decide (xs = ys) = true := by
  rw [List.take_of_length_le h, List.take_of_length_le (by omega)] at he
  exact decide_eq_true he
theorem eq_no {α : Type} [DecidableEq α] {xs ys : List α} {i : Nat} {z : α} (hne : ¬ xs.getD i z = ys.getD i z) : decide (xs = ys) = false :=
  decide_eq_false fun e => hne (by rw [e])
theorem eq_yes {α : Type} {xs ys : List α} {i : Nat} {z : α} (hl : xs.length = ys.length) (h : i < xs.length) (hq : xs.getD i z = ys.getD i z) (he : xs.take i = ys.take i) : xs.take (i + 1) = ys.take (i + 1) := by
  have h2 : i < ys.length := by omega
  rw [List.take_add_one, List.take_add_one, he, List.getElem?_eq_getElem h, List.getElem?_eq_getElem h2]
  rw [List.getD_eq_getElem?_getD, List.getD_eq_getElem?_getD, List.getElem?_eq_getElem h, List.getElem?_eq_getElem h2] at hq
  simp only [Option.getD_some] at hq
  rw [hq]
theorem len_ne {α : Type} [DecidableEq α] {xs ys : List α} (h : ((xs.length : Int) != (ys.length : Int)) = true) : decide (xs = ys) = false :=
  decide_eq_false fun e => by rw [e] at h; simp at h
theorem len_eq {α : Type} {xs ys : List α} (h : ((xs.length : Int) != (ys.length : Int)) = false) : xs.length = ys.length := by
  simp at h; omega
theorem eqWd {a b : Word} : (a.n == b.n && (a.is == b.is && (a.key.base == b.key.base && (a.key.top == b.key.top && (a.key.perms == b.key.perms && a.key.sealed == b.key.sealed))))) = decide (a = b) := by
  obtain ⟨a1, a2, a3, a4, a5, a6⟩ := a
  obtain ⟨b1, b2, b3, b4, b5, b6⟩ := b
  rw [Bool.eq_iff_iff]
  simp
def lb_laws_sameWords_0 : PC := .seq (.seq (.reg [.s (.mv 11 (.t 5)), .s (.mv 12 (.t 0)), .s (.len 13 false (.t 12)), .s (.bin 14 .lss (.t 11) (.t 13))]) (.cond (.t 14) (.skip) (.exit 0))) (.seq (.blk 1 (.seq (.rgd [] [.s (.mv 17 (.t 0)), .s (.mv 18 (.t 5)), .s (.ia 19 .word (.t 17) (.t 18)), .s (.load 20 true 6 (.t 19)), .s (.mv 21 (.t 1)), .s (.mv 22 (.t 5)), .s (.ia 23 .word (.t 21) (.t 22)), .s (.load 24 true 6 (.t 23)), .s (.eqs 25 true [.i, .b, .i, .i, .i, .i] true (.t 20) (.t 24))] (.tk 0 (.tk 1 (.tk 2 (.tk 3 (.tk 4 (.tk 5 (.tk 6 (.tk 7 (.tk 8 (.done none))))))))))) (.cond (.t 25) (.seq (.reg [.s (.mv 4 (.k (.v (.c .ff))))]) (.ret)) (.skip)))) (.reg [.s (.mv 15 (.t 5)), .s (.bin 16 .add (.t 15) (.k (.v (.c (.int .i64 1))))), .s (.mv 5 (.t 16))]))
def pf_laws_sameWords : PF := ⟨[.t 4], .seq (.reg [.s (.mv 4 (.k (.v (.c .ff))))]) (.seq (.seq (.reg [.s (.mv 6 (.t 0)), .s (.len 7 false (.t 6)), .s (.mv 8 (.t 1)), .s (.len 9 false (.t 8)), .s (.bin 10 .neq (.t 7) (.t 9))]) (.cond (.t 10) (.seq (.reg [.s (.mv 4 (.k (.v (.c .ff))))]) (.ret)) (.skip))) (.seq (.seq (.reg [.s (.mv 5 (.k (.v (.c (.int .i64 0)))))]) (.blk 0 (.loop [0, 1, 5] lb_laws_sameWords_0))) (.seq (.reg [.s (.mv 4 (.k (.v (.c .tt))))]) (.ret))))⟩
def c_laws_sameWords : Fun := ⟨18, [], fun ts K => as2 ts fun t0 t1 => arC (pL .word) t0 fun a => arC (pL .word) t1 fun b => chk (a.length ≤ 2147483647 ∧ b.length ≤ 2147483647) (K (tB (decide (a = b))) [])⟩
theorem run_laws_sameWords (a : List (FT.Ty .word)) (b : List (FT.Ty .word)) (hpre : a.length ≤ 2147483647 ∧ b.length ≤ 2147483647) : runK [] (a.length + 1) [] pf_laws_sameWords [tL false .word a, tL false .word b] fun r o => r = tB (decide (a = b)) ∧ o = [] := by
  obtain ⟨l1, l2⟩ := hpre
  conv => whnf
  refine sel_i (fun h => ?_) (fun h => ?_) <;> conv => whnf
  · rw [len_ne h]; exact ⟨rfl, rfl⟩
  have hl := len_eq h
  clear h
  refine loop (α := Nat) (fun i => ⟨[(0, .v (.c (.sl false .word 0))), (1, .v (.c (.sl false .word 1))), (5, .v (.c (.int .i64 (i : Int))))], [(1, some (.flat false .word none b)), (0, some (.flat false .word none a))], nums.tail.tail, [], false, []⟩)
      (fun i => i ≤ a.length ∧ a.take i = b.take i) (fun i => a.length - i) (fun i R hI hR => ?_) 0 _ ⟨by simp, by simp⟩ (by omega)
  obtain ⟨hi, hx⟩ := hI
  conv => whnf
  repeat' (first | (refine sel_i (fun h => ?_) (fun h => ?_) <;> conv => whnf) | (refine chk_c ?_ ?_ <;> conv => whnf) | (refine And.intro ?_ rfl) | (refine And.intro ?_ ?_ <;> conv => whnf))
  all_goals (try simp only [eqWd, etaKey, etaWord, Int.toNat_natCast, Bool.not_eq_true', Bool.not_eq_false', decide_eq_true_eq, decide_eq_false_iff_not] at *)
  all_goals first
    | (refine ⟨?_⟩; omega)
    | (rw [eq_no (z := FT.zero .word) (by assumption)]; done)
    | (rw [eq_end hl (by omega) hx]; done)
    | (rw [wrap_id (n := (i : Int) + 1) (by omega) (by omega)]; exact hR (i + 1) ⟨by omega, eq_yes (z := FT.zero .word) hl (by omega) (by assumption) hx⟩ (by omega))
    | trace_state
theorem ok_laws_sameWords : FunOk Try.prog c_laws_sameWords := funOk (E := []) (envOk_nil) mixd Try.func18 (pf := pf_laws_sameWords) (by kernel_rfl) fun ts K h => by
  obtain ⟨t0, t1, e0, h⟩ := as2_out h
  subst e0
  obtain ⟨a, e1, hq⟩ := arC_out (rd_l .word) h
  clear h
  subst e1
  have h := hq
  clear hq
  obtain ⟨b, e1, hq⟩ := arC_out (rd_l .word) h
  clear h
  subst e1
  have h := hq
  clear hq
  obtain ⟨hpre, h⟩ := chk_o h
  exact ⟨_, _, h, Nat.le_of_ble_eq_true (show Nat.ble 2 Try.f18.ntmps = true by kernel_rfl), _, run_laws_sameWords a b hpre⟩

def lb_laws_sameMem_0 : PC := .seq (.seq (.reg [.s (.mv 21 (.t 5)), .s (.fa 22 (.t 2) 1), .s (.load 23 false 1 (.t 22)), .s (.len 24 false (.t 23)), .s (.bin 25 .lss (.t 21) (.t 24))]) (.cond (.t 25) (.skip) (.exit 0))) (.seq (.blk 1 (.seq (.rgd [] [.s (.fa 28 (.t 2) 1), .s (.load 29 false 1 (.t 28)), .s (.mv 30 (.t 5)), .s (.ia 31 .bool (.t 29) (.t 30)), .s (.load 32 false 1 (.t 31)), .s (.fa 33 (.t 3) 1), .s (.load 34 false 1 (.t 33)), .s (.mv 35 (.t 5)), .s (.ia 36 .bool (.t 34) (.t 35)), .s (.load 37 false 1 (.t 36)), .s (.eqs 38 false [.b] true (.t 32) (.t 37))] (.tk 0 (.tk 1 (.tk 2 (.tk 3 (.tk 4 (.tk 5 (.tk 6 (.tk 7 (.tk 8 (.tk 9 (.tk 10 (.done none))))))))))))) (.cond (.t 38) (.seq (.reg [.s (.mv 4 (.k (.v (.c .ff))))]) (.ret)) (.skip)))) (.reg [.s (.mv 26 (.t 5)), .s (.bin 27 .add (.t 26) (.k (.v (.c (.int .i64 1))))), .s (.mv 5 (.t 27))]))
def pf_laws_sameMem : PF := ⟨[.t 4], .seq (.reg [.s (.box 2 (.t 0)), .s (.box 3 (.t 1)), .s (.mv 4 (.k (.v (.c .ff))))]) (.seq (.seq (.reg [.s (.fa 6 (.t 2) 0), .s (.load 7 false 1 (.t 6)), .s (.fa 8 (.t 3) 0), .s (.load 9 false 1 (.t 8)), .s (.call (some 10) 18 [(.t 7), (.t 9)]), .s (.bnot 11 (.t 10)), .s (.mv 12 (.t 11)), .g 12 false (some 13) (.fa 13 (.t 2) 1), .g 12 false (some 14) (.load 14 false 1 (.t 13)), .g 12 false (some 15) (.len 15 false (.t 14)), .g 12 false (some 16) (.fa 16 (.t 3) 1), .g 12 false (some 17) (.load 17 false 1 (.t 16)), .g 12 false (some 18) (.len 18 false (.t 17)), .g 12 false (some 19) (.bin 19 .neq (.t 15) (.t 18)), .s (.pick 20 (.t 12) (.k (.v (.c .tt))) (.t 19))]) (.cond (.t 20) (.seq (.reg [.s (.mv 4 (.k (.v (.c .ff))))]) (.ret)) (.skip))) (.seq (.seq (.reg [.s (.mv 5 (.k (.v (.c (.int .i64 0)))))]) (.blk 0 (.loop [2, 3, 5] lb_laws_sameMem_0))) (.seq (.reg [.s (.mv 4 (.k (.v (.c .tt))))]) (.ret))))⟩
def c_laws_sameMem : Fun := ⟨113, [], fun ts K => as2 ts fun t0 t1 => arG pMemT t0 fun a => arG pMemT t1 fun b => chk (LMem a 2147483647 ∧ LMem b 2147483647) (K (tB (decide (a = b))) [])⟩
theorem run_laws_sameMem (a : Mem) (b : Mem) (hpre : LMem a 2147483647 ∧ LMem b 2147483647) : runK [c_laws_sameWords] (a.gone.length + 1) [] pf_laws_sameMem [tG (a.tc false []), tG (b.tc false [])] fun r o => r = tB (decide (a = b)) ∧ o = [] := by
  obtain ⟨⟨l1, l2⟩, l3, l4⟩ := hpre
  obtain ⟨a1, a2⟩ := a
  obtain ⟨b1, b2⟩ := b
  dsimp only at l1 l2 l3 l4
  conv => whnf
  refine chk_i ⟨l1, l3⟩ ?_
  conv => whnf
  refine sel_i (fun h => ?_) (fun h => ?_) <;> conv => whnf
  · refine ⟨?_, rfl⟩; simp at h; simp [h]
  refine sel_i (fun h2 => ?_) (fun h2 => ?_) <;> conv => whnf
  · refine ⟨?_, rfl⟩; have := of_decide_eq_false (len_ne h2); simp [this]
  have hl := len_eq h2
  have hw : a1 = b1 := by simpa using h
  subst hw
  clear h h2
  refine loop (α := Nat) (fun i => ⟨[(2, .v (.c (.ptr 0 0))), (3, .v (.c (.ptr 3 0))), (5, .v (.c (.int .i64 (i : Int))))],
        [(5, some (.flat false .bool none b2)), (4, some (.flat false .word none a1)), (3, some (.box true [.sl false .word 4, .sl false .bool 5])),
          (2, some (.flat false .bool none a2)), (1, some (.flat false .word none a1)), (0, some (.box true [.sl false .word 1, .sl false .bool 2]))], nums.tail.tail.tail.tail.tail.tail, [], false, []⟩)
      (fun i => i ≤ a2.length ∧ a2.take i = b2.take i) (fun i => a2.length - i) (fun i R hI hR => ?_) 0 _ ⟨by simp, by simp⟩ (by show a2.length - 0 < a2.length + 1; omega)
  obtain ⟨hi, hx⟩ := hI
  conv => whnf
  repeat' (first | (refine sel_i (fun h => ?_) (fun h => ?_) <;> conv => whnf) | (refine chk_c ?_ ?_ <;> conv => whnf) | (refine And.intro ?_ rfl) | (refine And.intro ?_ ?_ <;> conv => whnf))
  all_goals (try simp only [Int.toNat_natCast, Bool.not_eq_true', Bool.not_eq_false', decide_eq_true_eq, decide_eq_false_iff_not] at *)
  all_goals first
    | (refine ⟨?_⟩; omega)
    | (have e := of_decide_eq_false (eq_no (xs := a2) (ys := b2) (z := FT.zero .bool) (i := i) (by simpa using h)); simp [e]; done)
    | (have e := of_decide_eq_true (eq_end hl (by omega) hx); simp [e]; done)
    | (rw [wrap_id (n := (i : Int) + 1) (by omega) (by omega)]; exact hR (i + 1) ⟨by omega, eq_yes (z := FT.zero .bool) hl (by omega) (by simpa using h) hx⟩ (by omega))
    | trace_state
theorem ok_laws_sameMem : FunOk Try.prog c_laws_sameMem := funOk (E := [c_laws_sameWords]) (envOk_cons ok_laws_sameWords (envOk_nil)) mixd Try.func113 (pf := pf_laws_sameMem) (by kernel_rfl) fun ts K h => by
  obtain ⟨t0, t1, e0, h⟩ := as2_out h
  subst e0
  obtain ⟨a, e1, hq⟩ := arG_out rd_mem h
  clear h
  subst e1
  have h := hq
  clear hq
  obtain ⟨b, e1, hq⟩ := arG_out rd_mem h
  clear h
  subst e1
  have h := hq
  clear hq
  obtain ⟨hpre, h⟩ := chk_o h
  exact ⟨_, _, h, Nat.le_of_ble_eq_true (show Nat.ble 2 Try.f113.ntmps = true by kernel_rfl), _, run_laws_sameMem a b hpre⟩












theorem lMem_big {m : Mem} (h : LMem m 24) : LMem m 2147483647 := ⟨Nat.le_trans h.1 (by decide), Nat.le_trans h.2 (by decide)⟩


/-! what the small programs do -/
theorem tryW_yes {w : Word} {n p : Int} (h1 : wordOk w = true) (h2 : w.is = true) (h3 : w.key.sealed = 0) (h4 : andI w.key.perms p = p) (h5 : w.key.base ≤ n) (h6 : n < w.key.top) : tryW w n p = 0 := by
  unfold tryW
  rw [if_neg (by rw [h1, h2]; simp), if_neg (by simpa using h3), if_neg (by simpa using h4), if_neg (by omega)]


theorem wide_low : ∀ b t : Fin 25, b ≤ t → wide (b.val : Int) (t.val : Int) = ((b.val : Int), (t.val : Int)) := by decide +kernel



def arZ (τ : FT) (t : Tree) (k : Unit → Prop) : Prop := match t with | .v (.c (.nl σ)) => (match ftEq σ τ with | true => k () | false => False) | _ => False
theorem arZ_out {τ : FT} {t : Tree} {k : Unit → Prop} (h : arZ τ t k) : ∃ x : Unit, t = .v (.c (.nl τ)) ∧ k x := by
  unfold arZ at h
  split at h
  · split at h
    · rename_i hf; rw [ftEq_eq hf]; exact ⟨(), rfl, h⟩
    · exact h.elim
  · exact h.elim
def pR2 (cs : List TC) (f : List Span → List Span → Prop) : Prop := pL .span cs fun a r => pL .span r fun b r => match r with | [] => f a b | _ :: _ => False
def arR2 (t : Tree) (f : List Span × List Span → Prop) : Prop := match t with
  | .rows n cs => (match Nat.beq n 2 with | true => pR2 cs fun a b => f (a, b) | false => False)
  | _ => False
theorem arR2_out {t : Tree} {f : List Span × List Span → Prop} (h : arR2 t f) : ∃ x : List Span × List Span, t = .rows 2 [tl false .span x.1, tl false .span x.2] ∧ f x := by
  unfold arR2 at h
  split at h
  · split at h
    · rename_i hn
      rw [Nat.eq_of_beq_eq_true hn]
      unfold pR2 at h
      obtain ⟨a, r, e1, h1⟩ := rd_l .span _ _ h
      obtain ⟨b, r2, e2, h2⟩ := rd_l .span _ _ h1
      subst e1 e2
      cases r2 with
      | nil => exact ⟨(a, b), rfl, h2⟩
      | cons _ _ => exact h2.elim
    · exact h.elim
  · exact h.elim

def pf_slices_Grow_Span : PF := ⟨[.t 4], .seq (.reg [.s (.mv 4 (.k (.v (.c (.nils .span)))))]) (.seq (.seq (.reg [.s (.mv 5 (.t 1)), .s (.bin 6 .lss (.t 5) (.k (.v (.c (.int .i64 0)))))]) (.cond (.t 6) (.reg [.s (.no), .s (.no)]) (.skip))) (.seq (.seq (.reg [.s (.mv 8 (.t 1)), .s (.mv 9 (.t 0)), .s (.cap 10 (.t 9)), .s (.mv 11 (.t 0)), .s (.len 12 false (.t 11)), .s (.bin 13 .sub (.t 10) (.t 12)), .s (.bin 14 .sub (.t 8) (.t 13)), .s (.mv 1 (.t 14))]) (.seq (.reg [.s (.mv 15 (.t 1)), .s (.bin 16 .gtr (.t 15) (.k (.v (.c (.int .i64 0)))))]) (.cond (.t 16) (.reg [.s (.mv 17 (.t 0)), .s (.mv 18 (.t 0)), .s (.cap 19 (.t 18)), .s (.slcz 20 .span (.t 17) (.t 19)), .s (.mv 21 (.t 1)), .s (.appz 22 .span (.t 20) (.t 21)), .s (.mv 23 (.t 0)), .s (.len 24 false (.t 23)), .s (.slc 25 .span (.t 22) none (some (.t 24))), .s (.mv 0 (.t 25))]) (.skip)))) (.seq (.reg [.s (.mv 26 (.t 0)), .s (.mv 4 (.t 26))]) (.ret))))⟩
def c_slices_Grow_Span : Fun := ⟨221, [], fun ts K => as2 ts fun t0 t1 => arZ .span t0 fun s => arC (pI .i64) t1 fun n => chk (0 ≤ n ∧ n ≤ 10000000) (K (tL true .span []) [])⟩
theorem run_slices_Grow_Span (s : Unit) (n : Int) (hpre : 0 ≤ n ∧ n ≤ 10000000) : runK [] (0) [] pf_slices_Grow_Span [.v (.c (.nl .span)), tI .i64 n] fun r o => r = tL true .span [] ∧ o = [] := by
  have e0 : IntKind.i64.wrap (0 - 0) = 0 := by decide
  have e1 : IntKind.i64.wrap (n - 0) = n := by rw [Int.sub_zero]; exact wrap_id (by omega) (by omega)
  conv => whnf
  repeat' (first | (refine sel_i (fun h => ?_) (fun h => ?_) <;> conv => whnf) | (refine chk_c ?_ ?_ <;> conv => whnf) | (refine And.intro ?_ rfl) | (refine And.intro ?_ ?_ <;> conv => whnf))
  all_goals (try simp only [e0, e1, decide_eq_true_eq, decide_eq_false_iff_not, gt_iff_lt] at *)
  all_goals first
    | rfl
    | trivial
    | (refine ⟨?_⟩; omega)
    | (exfalso; omega)
    | (refine ⟨?_⟩; simp; done)
    | (refine ⟨?_⟩; simp; omega)
    | trace_state
theorem ok_slices_Grow_Span : FunOk Try.prog c_slices_Grow_Span := funOk (E := []) (envOk_nil) mixd Try.func221 (pf := pf_slices_Grow_Span) (by kernel_rfl) fun ts K h => by
  obtain ⟨t0, t1, e0, hp⟩ := as2_out h
  clear h
  subst e0
  have h := hp
  clear hp
  obtain ⟨s, e1, hq⟩ := arZ_out h
  clear h
  subst e1
  have h := hq
  clear hq
  obtain ⟨n, e1, hq⟩ := arC_out (rd_int .i64) h
  clear h
  subst e1
  have h := hq
  clear hq
  obtain ⟨hpre, h⟩ := chk_o h
  exact ⟨_, _, h, Nat.le_of_ble_eq_true (show Nat.ble 2 Try.f221.ntmps = true by kernel_rfl), _, run_slices_Grow_Span s n hpre⟩

def lb_slices_Concat_Span_0 : PC := .seq (.reg [.s (.bin 12 .lss (.t 11) (.t 10))]) (.seq (.cond (.t 12) (.skip) (.exit 0)) (.seq (.blk 1 (.seq (.reg [.s (.iar 13 (.t 9) (.t 11)), .s (.load 14 false 1 (.t 13)), .s (.mv 5 (.t 14))]) (.seq (.reg [.s (.mv 15 (.t 3)), .s (.mv 16 (.t 5)), .s (.len 17 false (.t 16)), .s (.bin 18 .add (.t 15) (.t 17)), .s (.mv 3 (.t 18))]) (.seq (.reg [.s (.mv 19 (.t 3)), .s (.bin 20 .lss (.t 19) (.k (.v (.c (.int .i64 0)))))]) (.cond (.t 20) (.reg [.s (.no), .s (.no)]) (.skip)))))) (.reg [.s (.bin 22 .add (.t 11) (.k (.v (.c (.int .i64 1))))), .s (.mv 11 (.t 22))])))
def lb_slices_Concat_Span_1 : PC := .seq (.reg [.s (.bin 28 .lss (.t 27) (.t 26))]) (.seq (.cond (.t 28) (.skip) (.exit 2)) (.seq (.blk 3 (.seq (.reg [.s (.iar 29 (.t 25) (.t 27)), .s (.load 30 false 1 (.t 29)), .s (.mv 8 (.t 30))]) (.reg [.s (.mv 31 (.t 6)), .s (.mv 32 (.t 8)), .s (.app 33 .span (.t 31) (.t 32)), .s (.mv 6 (.t 33))]))) (.reg [.s (.bin 34 .add (.t 27) (.k (.v (.c (.int .i64 1))))), .s (.mv 27 (.t 34))])))
def pf_slices_Concat_Span : PF := ⟨[.t 2], .seq (.reg [.s (.mv 2 (.k (.v (.c (.nils .span)))))]) (.seq (.reg [.s (.mv 3 (.k (.v (.c (.int .i64 0)))))]) (.seq (.seq (.reg [.s (.mv 9 (.t 0)), .s (.lenr 10 (.t 9)), .s (.mv 11 (.k (.v (.c (.int .i64 0)))))]) (.blk 0 (.loop [0, 3, 9, 10, 11] lb_slices_Concat_Span_0))) (.seq (.reg [.s (.mv 23 (.t 3)), .s (.call (some 24) 221 [(.k (.v (.c (.nilz .span)))), (.t 23)]), .s (.mv 6 (.t 24))]) (.seq (.seq (.reg [.s (.mv 25 (.t 0)), .s (.lenr 26 (.t 25)), .s (.mv 27 (.k (.v (.c (.int .i64 0)))))]) (.blk 2 (.loop [6, 25, 26, 27] lb_slices_Concat_Span_1))) (.seq (.reg [.s (.mv 35 (.t 6)), .s (.mv 2 (.t 35))]) (.ret))))))⟩
def c_slices_Concat_Span : Fun := ⟨186, [], fun ts K => as1 ts fun t0 => arR2 t0 fun q => chk (q.1.length ≤ 1048576 ∧ q.2.length ≤ 1048576) (K (tL true .span (q.1 ++ q.2)) [])⟩
theorem run_slices_Concat_Span (q : List Span × List Span) (hpre : q.1.length ≤ 1048576 ∧ q.2.length ≤ 1048576) : runK [c_slices_Grow_Span] (10) [] pf_slices_Concat_Span [.rows 2 [tl false .span (q).1, tl false .span (q).2]] fun r o => r = tL true .span (q.1 ++ q.2) ∧ o = [] := by
  obtain ⟨a, b⟩ := q
  obtain ⟨l1, l2⟩ := hpre
  dsimp only at l1 l2 ⊢
  have e1 : IntKind.i64.wrap (0 + (a.length : Int)) = a.length := by rw [Int.zero_add]; exact wrap_id (by omega) (by omega)
  have e2 : IntKind.i64.wrap ((a.length : Int) + (b.length : Int)) = a.length + b.length := wrap_id (by omega) (by omega)
  have e3 : IntKind.i64.wrap (0 + 1) = 1 := by decide
  have e4 : IntKind.i64.wrap (1 + 1) = 2 := by decide
  conv => whnf
  repeat' (first | (refine sel_i (fun h => ?_) (fun h => ?_) <;> first | (exfalso; revert h; decide) | conv => whnf) | (refine chk_c ?_ ?_ <;> conv => whnf) | (refine iter_s ?_; conv => whnf) | (refine And.intro ?_ rfl) | (refine And.intro ?_ ?_ <;> conv => whnf))
  all_goals (try simp only [e1, e2, e3, e4, decide_eq_true_eq, decide_eq_false_iff_not, gt_iff_lt] at *)
  all_goals first
    | rfl
    | trivial
    | (refine ⟨?_⟩; omega)
    | (exfalso; omega)
    | (refine ⟨?_⟩; simp; done)
    | (refine ⟨?_⟩; simp; omega)
    | trace_state
theorem ok_slices_Concat_Span : FunOk Try.prog c_slices_Concat_Span := funOk (E := [c_slices_Grow_Span]) (envOk_cons ok_slices_Grow_Span (envOk_nil)) mixd Try.func186 (pf := pf_slices_Concat_Span) (by kernel_rfl) fun ts K h => by
  obtain ⟨t0, e0, hp⟩ := as1_out h
  clear h
  subst e0
  have h := hp
  clear hp
  obtain ⟨q, e1, hq⟩ := arR2_out h
  clear h
  subst e1
  have h := hq
  clear hq
  obtain ⟨hpre, h⟩ := chk_o h
  exact ⟨_, _, h, Nat.le_of_ble_eq_true (show Nat.ble 1 Try.f186.ntmps = true by kernel_rfl), _, run_slices_Concat_Span q hpre⟩

def useOf (l : List Span) : List Bool := (List.range 24).map (fun c => decide (0 < cnt l c))
theorem useOf_len (l : List Span) : (useOf l).length = 24 := by simp [useOf]
theorem useOf_get (l : List Span) {c : Nat} (hc : c < 24) : (useOf l).getD c false = decide (0 < cnt l c) := by
  simp [useOf, List.getD_eq_getElem?_getD, hc]
theorem useOf_nil : useOf [] = List.replicate 24 false := by
  have : (fun c => decide (0 < cnt [] c)) = fun _ => false := by funext c; simp [cnt]
  unfold useOf; rw [this]; rfl
theorem use_ext {u : List Bool} {l : List Span} (h : u.length = 24) (h2 : ∀ c, c < 24 → u.getD c false = decide (0 < cnt l c)) : u = useOf l := by
  apply List.ext_getElem?
  intro c
  by_cases hc : c < 24
  · have e1 : u[c]? = some (u.getD c false) := by simp [List.getD_eq_getElem?_getD, h, hc]
    have e2 : (useOf l)[c]? = some ((useOf l).getD c false) := by simp [List.getD_eq_getElem?_getD, useOf_len, hc]
    rw [e1, e2, h2 c hc, useOf_get l hc]
  · rw [List.getElem?_eq_none (by omega), List.getElem?_eq_none (by rw [useOf_len]; omega)]
theorem spanD_mem {l : List Span} {i : Nat} (h : i < l.length) : l.getD i (FT.zero .span) ∈ l := by
  rw [List.getD_eq_getElem?_getD, List.getElem?_eq_getElem h]; exact List.getElem_mem h
theorem cnt_take {l : List Span} {i : Nat} (h : i < l.length) (c : Nat) : cnt (l.take (i + 1)) c = cnt (l.take i) c + (if inS (l.getD i (FT.zero .span)) c then 1 else 0) := by
  have e : l[i]? = some (l.getD i (FT.zero .span)) := by simp [List.getD_eq_getElem?_getD, h]
  rw [List.take_add_one, e, cnt_app]
  show _ + cnt [l.getD i (FT.zero .span)] c = _
  rw [cnt_cons]
  simp [cnt]

def lb_impl_usedCells_0 : PC := .seq (.seq (.reg [.s (.mv 21 (.t 6)), .s (.fa 22 (.t 5) 0), .s (.load 23 false 1 (.t 22)), .s (.fa 24 (.t 5) 1), .s (.load 25 false 1 (.t 24)), .s (.bin 26 .add (.t 23) (.t 25)), .s (.bin 27 .lss (.t 21) (.t 26))]) (.cond (.t 27) (.skip) (.exit 2))) (.seq (.blk 3 (.reg [.s (.mv 30 (.t 3)), .s (.mv 31 (.t 6)), .s (.ia 32 .bool (.t 30) (.t 31)), .s (.store 1 (.t 32) (.k (.v (.c .tt))))])) (.reg [.s (.mv 28 (.t 6)), .s (.bin 29 .add (.t 28) (.k (.v (.c (.int .i64 1))))), .s (.mv 6 (.t 29))]))
def lb_impl_usedCells_1 : PC := .seq (.reg [.s (.bin 16 .lss (.t 15) (.t 14))]) (.seq (.cond (.t 16) (.skip) (.exit 0)) (.seq (.blk 1 (.seq (.reg [.s (.ia 17 .span (.t 13) (.t 15)), .s (.load 18 true 2 (.t 17)), .s (.alloc 5 [.int .i64 0, .int .i64 0]), .s (.store 2 (.t 5) (.t 18))]) (.seq (.reg [.s (.fa 19 (.t 5) 0), .s (.load 20 false 1 (.t 19)), .s (.mv 6 (.t 20))]) (.blk 2 (.loop [3, 5, 6, 13, 14, 15] lb_impl_usedCells_0))))) (.reg [.s (.bin 33 .add (.t 15) (.k (.v (.c (.int .i64 1))))), .s (.mv 15 (.t 33))])))
def pf_impl_usedCells : PF := ⟨[.t 2], .seq (.reg [.s (.box 1 (.t 0)), .s (.mv 2 (.k (.v (.c (.nils .bool)))))]) (.seq (.reg [.s (.mkS 7 .bool (.k (.v (.c (.int .i64 24))))), .s (.mv 3 (.t 7))]) (.seq (.seq (.reg [.s (.fa 8 (.t 1) 2), .s (.load 9 false 1 (.t 8)), .s (.fa 10 (.t 1) 3), .s (.load 11 false 1 (.t 10)), .s (.bsr 12 [(.t 9), (.t 11)]), .s (.call (some 13) 186 [(.t 12)]), .s (.len 14 false (.t 13)), .s (.mv 15 (.k (.v (.c (.int .i64 0)))))]) (.blk 0 (.loop [3, 13, 14, 15] lb_impl_usedCells_1))) (.seq (.reg [.s (.mv 34 (.t 3)), .s (.mv 2 (.t 34))]) (.ret))))⟩
def c_impl_usedCells : Fun := ⟨135, [], fun ts K => as1 ts fun t0 => arG pHeapT t0 fun t => chk (LHeap t 1048576 ∧ ∀ s ∈ t.live ++ t.waits, spanOk s = true) (K (tL true .bool (useOf (t.live ++ t.waits))) [])⟩
theorem run_impl_usedCells (t : Heap) (hpre : LHeap t 1048576 ∧ ∀ s ∈ t.live ++ t.waits, spanOk s = true) : runK [c_slices_Concat_Span] (t.live.length + t.waits.length + 30) [] pf_impl_usedCells [tG (t.tc false [])] fun r o => r = tL true .bool (useOf (t.live ++ t.waits)) ∧ o = [] := by
  obtain ⟨⟨⟨l1, l4⟩, l2, l3⟩, hsp⟩ := hpre
  conv => whnf
  repeat' (first | (refine sel_i (fun h => ?_) (fun h => ?_) <;> conv => whnf) | (refine chk_c ?_ ?_ <;> conv => whnf) | (refine And.intro ?_ rfl) | (refine And.intro ?_ ?_ <;> conv => whnf))
  all_goals first
    | (refine ⟨?_⟩; exact ⟨l2, l3⟩)
    | (refine ⟨?_⟩; exact (show (0 : Int) ≤ 24 ∧ (24 : Int) ≤ 2147483647 by decide))
    | skip
  obtain ⟨all, hall⟩ : ∃ a : List Span, a = t.live ++ t.waits := ⟨_, rfl⟩
  have hlen : all.length = t.live.length + t.waits.length := by rw [hall, List.length_append]
  rw [show (t.live, t.waits).1 ++ (t.live, t.waits).2 = all from hall.symm]
  rw [← hall] at hsp
  try rw [← hall]
  refine loop (α := Nat × List Bool) (fun q => ⟨[(3, .v (.c (.sl true .bool 0))), (13, .v (.c (.sl false .span 1))), (14, .v (.c (.int .i64 (all.length : Int)))), (15, .v (.c (.int .i64 (q.1 : Int))))],
        [(1, some (.flat true .span none all)), (0, some (.flat true .bool none q.2))], nums.tail.tail, [], false, []⟩)
      (fun q => q.1 ≤ all.length ∧ q.2 = useOf (all.take q.1)) (fun q => all.length - q.1) (fun q R hI hR => ?_) (0, List.replicate 24 false) _ ⟨Nat.zero_le _, by rw [List.take_zero, useOf_nil]⟩ (by show all.length - 0 < _; omega)
  obtain ⟨i, u⟩ := q
  obtain ⟨hi, hu⟩ := hI
  dsimp only at hi hu ⊢
  have hul : u.length = 24 := by rw [hu, useOf_len]
  conv => whnf
  refine sel_i (fun h => ?_) (fun h => ?_)
  · have hlt : i < all.length := by have h := of_decide_eq_true h; omega
    clear h
    have hs := hsp _ (spanD_mem hlt)
    have hct := cnt_take hlt
    have hin := inS_nat hs
    have hge : all.getD i (FT.zero .span) = all.getD i (FT.zero .span) := rfl
    have ho : (0 ≤ (all.getD i (FT.zero .span)).at_ ∧ (all.getD i (FT.zero .span)).at_ ≤ 23) ∧ 1 ≤ (all.getD i (FT.zero .span)).len ∧ (all.getD i (FT.zero .span)).len ≤ 24 - (all.getD i (FT.zero .span)).at_ := by
      have := hs
      simp only [spanOk, Bool.and_eq_true, inR_t] at this
      exact this
    conv => whnf
    repeat' (first | (refine sel_i (fun h => ?_) (fun h => ?_) <;> conv => whnf) | (refine chk_c ?_ ?_ <;> conv => whnf) | (refine And.intro ?_ rfl) | (refine And.intro ?_ ?_ <;> conv => whnf))
    all_goals (try simp only [Int.toNat_natCast] at *)
    all_goals generalize hsd : all.getD i (FT.zero .span) = s at *
    all_goals try (refine ⟨?_⟩; omega)
    obtain ⟨sa, sl⟩ := s
    dsimp only at ho hin hct ⊢
    obtain ⟨a, rfl⟩ := Int.eq_ofNat_of_zero_le ho.1.1
    obtain ⟨m, rfl⟩ := Int.eq_ofNat_of_zero_le (show 0 ≤ sl by omega)
    simp only [Int.toNat_natCast] at hin
    have w1 : IntKind.i64.wrap ((a : Int) + (m : Int)) = (a : Int) + (m : Int) := wrap_id (by omega) (by omega)
    refine loop (α := Nat × List Bool) (fun q => ⟨[(3, .v (.c (.sl true .bool 0))), (5, .v (.c (.ptr 1 0))), (6, .v (.c (.int .i64 (q.1 : Int)))), (13, .v (.c (.sl false .span 2))), (14, .v (.c (.int .i64 (all.length : Int)))), (15, .v (.c (.int .i64 (i : Int))))],
          [(2, some (.flat true .span none all)), (1, some (.box true [.int .i64 (a : Int), .int .i64 (m : Int)])), (0, some (.flat true .bool none q.2))], nums.tail.tail.tail, [], false, []⟩)
        (fun q => (a ≤ q.1 ∧ q.1 ≤ a + m) ∧ q.2.length = 24 ∧ ∀ c, c < 24 → q.2.getD c false = decide (0 < cnt (all.take i) c ∨ (a ≤ c ∧ c < q.1))) (fun q => a + m - q.1) (fun q R2 hI2 hR2 => ?_) (a, u) _
        ⟨⟨Nat.le_refl _, Nat.le_add_right _ _⟩, hul, fun c hc => by rw [hu, useOf_get _ hc]; exact decide_eq_decide.2 ⟨.inl, fun h => h.elim id (fun h => absurd h.2 (by dsimp only; omega))⟩⟩ (by show a + m - a < t.live.length + t.waits.length + 30; omega)
    obtain ⟨n, v⟩ := q
    obtain ⟨⟨gn1, gn2⟩, gl, gv⟩ := hI2
    dsimp only at gn1 gn2 gl gv ⊢
    conv => whnf
    rw [w1]
    refine sel_i (fun h => ?_) (fun h => ?_)
    · have hn : n < a + m := by have h := of_decide_eq_true h; omega
      clear h
      conv => whnf
      repeat' (first | (refine sel_i (fun h => ?_) (fun h => ?_) <;> conv => whnf) | (refine chk_c ?_ ?_ <;> conv => whnf) | (refine And.intro ?_ rfl) | (refine And.intro ?_ ?_ <;> conv => whnf))
      all_goals (try simp only [Int.toNat_natCast] at *)
      all_goals first
        | (refine ⟨?_⟩; omega)
        | skip
      rw [wrap_id (n := (n : Int) + 1) (by omega) (by omega)]
      refine hR2 (n + 1, v.set n true) ⟨⟨by dsimp only; omega, by dsimp only; omega⟩, by simpa using gl, fun c hc => ?_⟩ (by dsimp only; omega)
      dsimp only
      by_cases e : n = c
      · subst e
        simp only [List.getD_eq_getElem?_getD, List.getElem?_set, if_true]
        rw [if_pos (by omega)]
        simp; right; omega
      · have : (v.set n true).getD c false = v.getD c false := by simp only [List.getD_eq_getElem?_getD, List.getElem?_set, if_neg e]
        rw [this, gv c hc]
        exact decide_eq_decide.2 ⟨fun h => h.imp id (fun h => ⟨h.1, by omega⟩), fun h => h.imp id (fun h => ⟨h.1, by omega⟩)⟩
    · have hn : n = a + m := by have h := of_decide_eq_false h; omega
      conv => whnf
      rw [wrap_id (n := (i : Int) + 1) (by omega) (by omega)]
      refine hR (i + 1, v) ⟨hlt, use_ext gl fun c hc => ?_⟩ (by dsimp only; omega)
      dsimp only
      rw [gv c hc, hct c, hin c]
      apply decide_eq_decide.2
      simp only [Bool.and_eq_true, decide_eq_true_eq]
      split <;> omega
  · have e : i = all.length := by have h := of_decide_eq_false h; omega
    subst e
    conv => whnf
    rw [hu, List.take_length]
    exact ⟨rfl, rfl⟩
theorem ok_impl_usedCells : FunOk Try.prog c_impl_usedCells := funOk (E := [c_slices_Concat_Span]) (envOk_cons ok_slices_Concat_Span (envOk_nil)) mixd Try.func135 (pf := pf_impl_usedCells) (by kernel_rfl) fun ts K h => by
  obtain ⟨t0, e0, h⟩ := as1_out h
  subst e0
  obtain ⟨t, e1, hq⟩ := arG_out rd_heap h
  clear h
  subst e1
  have h := hq
  clear hq
  obtain ⟨hpre, h⟩ := chk_o h
  exact ⟨_, _, h, Nat.le_of_ble_eq_true (show Nat.ble 1 Try.f135.ntmps = true by kernel_rfl), _, run_impl_usedCells t hpre⟩

theorem heapOk_spans {t : Heap} (h : heapOk t = true) : ∀ s ∈ t.live ++ t.waits, spanOk s = true := fun s hs => by
  simp only [heapOk, Bool.and_eq_true] at h
  rcases List.mem_append.1 hs with q | q
  · exact spansOk_mem h.1.1.2 s q
  · exact spansOk_mem h.1.2 s q

def putS (l : List Span) (x : Span) : List Span := l.takeWhile (fun s => decide (s.at_ < x.at_)) ++ x :: l.dropWhile (fun s => decide (s.at_ < x.at_))
theorem putS_at : ∀ {l : List Span} {x : Span} {k : Nat}, k ≤ l.length → (∀ j, j < k → (l.getD j (FT.zero .span)).at_ < x.at_) → (k = l.length ∨ ¬ (l.getD k (FT.zero .span)).at_ < x.at_) → putS l x = l.take k ++ x :: l.drop k
  | [], x, k, h, _, _ => by have : k = 0 := by simpa using h
                            subst this; rfl
  | s :: l, x, 0, _, _, h => by
    rcases h with h | h
    · simp at h
    · have h : ¬ s.at_ < x.at_ := h
      simp [putS, List.takeWhile_cons, List.dropWhile_cons, h]
  | s :: l, x, k + 1, hk, h1, h2 => by
    have h0 : s.at_ < x.at_ := h1 0 (by omega)
    have ih := putS_at (l := l) (x := x) (k := k) (by simpa using hk) (fun j hj => h1 (j + 1) (by omega)) (h2.imp (fun h => by simpa using h) (fun h => h))
    have e : putS (s :: l) x = s :: putS l x := by simp [putS, List.takeWhile_cons, List.dropWhile_cons, h0]
    rw [e, ih]; rfl
theorem putS_mem {l : List Span} {x s : Span} : s ∈ putS l x ↔ s = x ∨ s ∈ l := by
  have : s ∈ l ↔ s ∈ l.takeWhile (fun s => decide (s.at_ < x.at_)) ∨ s ∈ l.dropWhile (fun s => decide (s.at_ < x.at_)) := by
    rw [← List.mem_append, List.takeWhile_append_dropWhile]
  rw [this]
  simp only [putS, List.mem_append, List.mem_cons]
  constructor
  · rintro (h | h | h) <;> simp [h]
  · rintro (h | h | h) <;> simp [h]
theorem putS_cnt (l : List Span) (x : Span) (c : Nat) : cnt (putS l x) c = cnt l c + (if inS x c then 1 else 0) := by
  have e : cnt l c = cnt (l.takeWhile (fun s => decide (s.at_ < x.at_))) c + cnt (l.dropWhile (fun s => decide (s.at_ < x.at_))) c := by
    rw [← cnt_app, List.takeWhile_append_dropWhile]
  unfold putS
  rw [cnt_app, cnt_cons, e]; omega
/-! spans that are right: each one, and in order -/
def Ord (l : List Span) : Prop := l.Pairwise (fun a b => a.at_ < b.at_)
theorem ord_of {l : List Span} (h : ∀ j, 0 < j → j < l.length → (l.getD (j - 1) (FT.zero .span)).at_ < (l.getD j (FT.zero .span)).at_) : Ord l := by
  have key : ∀ d i : Nat, i + d + 1 < l.length → (l.getD i (FT.zero .span)).at_ < (l.getD (i + d + 1) (FT.zero .span)).at_ := by
    intro d
    induction d with
    | zero => intro i hi; have := h (i + 1) (by omega) hi; simpa using this
    | succ d ih =>
      intro i hi
      have h1 := ih i (by omega)
      have h2 := h (i + (d + 1) + 1) (by omega) hi
      rw [show i + (d + 1) + 1 - 1 = i + d + 1 by omega] at h2
      omega
  refine List.pairwise_iff_getElem.2 fun i j hi hj hij => ?_
  have := key (j - i - 1) i (by omega)
  rw [show i + (j - i - 1) + 1 = j by omega] at this
  simpa [List.getD_eq_getElem?_getD, hi, hj] using this
theorem ord_step {l : List Span} (h : Ord l) {j : Nat} (h0 : 0 < j) (hj : j < l.length) : (l.getD (j - 1) (FT.zero .span)).at_ < (l.getD j (FT.zero .span)).at_ := by
  have := List.pairwise_iff_getElem.1 h (j - 1) j (by omega) hj (by omega)
  simpa [List.getD_eq_getElem?_getD, hj, show j - 1 < l.length by omega] using this
theorem spansOk_ord {l : List Span} : spansOk l = true ↔ (∀ s ∈ l, spanOk s = true) ∧ Ord l := by
  rw [spansOk_iff]
  constructor
  · intro h
    refine ⟨spansOk_mem (spansOk_iff.2 h), ord_of fun j h0 hj => ?_⟩
    have := ((spanChk_iff l j).1 (h j hj)).2
    omega
  · rintro ⟨h1, h2⟩ j hj
    have hs := h1 _ (spanD_mem hj)
    rw [spanChk_iff]
    simp only [spanOk, Bool.and_eq_true, inR_t] at hs
    refine ⟨hs, ?_⟩
    by_cases h0 : j = 0
    · exact .inl h0
    · exact .inr (ord_step h2 (by omega) hj)
theorem takeWhile_all {α : Type} {p : α → Bool} : ∀ {l : List α} {s : α}, s ∈ l.takeWhile p → p s = true
  | [], _, h => by cases h
  | a :: l, s, h => by
    rw [List.takeWhile_cons] at h
    split at h
    · rename_i ha
      rcases List.mem_cons.1 h with rfl | h
      · exact ha
      · exact takeWhile_all h
    · cases h
theorem putS_ord {l : List Span} {x : Span} (h : Ord l) (hx : ∀ s ∈ l, s.at_ ≠ x.at_) : Ord (putS l x) := by
  have hl : Ord (l.takeWhile (fun s => decide (s.at_ < x.at_)) ++ l.dropWhile (fun s => decide (s.at_ < x.at_))) := by rw [List.takeWhile_append_dropWhile]; exact h
  obtain ⟨a1, a2, a3⟩ := List.pairwise_append.1 hl
  have hm : ∀ s ∈ l.dropWhile (fun s => decide (s.at_ < x.at_)), s ∈ l := fun s hs => (List.dropWhile_sublist _).subset hs
  have hlt : ∀ s ∈ l.takeWhile (fun s => decide (s.at_ < x.at_)), s.at_ < x.at_ := fun s hs => by
    have := takeWhile_all (p := fun s : Span => decide (s.at_ < x.at_)) hs
    simpa using this
  have hgt : ∀ s ∈ l.dropWhile (fun s => decide (s.at_ < x.at_)), x.at_ < s.at_ := by
    cases hd : l.dropWhile (fun s => decide (s.at_ < x.at_)) with
    | nil => intro s hs; cases hs
    | cons d r =>
      have hdn : ¬ d.at_ < x.at_ := by
        have := List.head?_dropWhile_not (fun s : Span => decide (s.at_ < x.at_)) l
        rw [hd] at this
        simpa using this
      have hdx : d.at_ ≠ x.at_ := hx d (hm d (by rw [hd]; simp))
      rw [hd] at a2
      intro s hs
      rcases List.mem_cons.1 hs with rfl | hs
      · omega
      · have := (List.pairwise_cons.1 a2).1 s hs
        omega
  exact List.pairwise_append.2 ⟨a1, List.pairwise_cons.2 ⟨hgt, a2⟩, fun a ha b hb => by
    rcases List.mem_cons.1 hb with rfl | hb
    · exact hlt a ha
    · exact a3 a ha b hb⟩

def lb_spec_l23Put_0 : PC := .seq (.seq (.rgd [] [.s (.mv 7 (.t 5)), .s (.mv 8 (.t 0)), .s (.len 9 false (.t 8)), .s (.bin 10 .lss (.t 7) (.t 9)), .s (.mv 11 (.t 10)), .g 11 true (some 12) (.mv 12 (.t 0)), .g 11 true (some 13) (.mv 13 (.t 5)), .g 11 true (some 14) (.ia 14 .span (.t 12) (.t 13)), .g 11 true (some 15) (.fa 15 (.t 14) 0), .g 11 true (some 16) (.load 16 false 1 (.t 15)), .g 11 true (some 17) (.fa 17 (.t 3) 0), .g 11 true (some 18) (.load 18 false 1 (.t 17)), .g 11 true (some 19) (.bin 19 .lss (.t 16) (.t 18)), .s (.pick 20 (.t 11) (.t 19) (.k (.v (.c .ff))))] (.tk 0 (.tk 1 (.tk 2 (.tk 3 (.tk 4 (.tk 5 (.tk 6 (.tk 7 (.tk 8 (.tk 9 (.tk 10 (.tk 11 (.tk 12 (.tk 13 (.done none)))))))))))))))) (.cond (.t 20) (.skip) (.exit 0))) (.blk 1 (.reg [.s (.mv 21 (.t 5)), .s (.bin 22 .add (.t 21) (.k (.v (.c (.int .i64 1))))), .s (.mv 5 (.t 22))]))
def pf_spec_l23Put : PF := ⟨[.t 4], .seq (.reg [.s (.box 3 (.t 1)), .s (.mv 4 (.k (.v (.c (.nils .span)))))]) (.seq (.reg [.s (.mv 5 (.k (.v (.c (.int .i64 0)))))]) (.seq (.blk 0 (.loop [0, 3, 5] lb_spec_l23Put_0)) (.seq (.reg [.s (.bs 23 .span []), .s (.mv 24 (.t 0)), .s (.mv 25 (.t 5)), .s (.slc 26 .span (.t 24) none (some (.t 25))), .s (.app 27 .span (.t 23) (.t 26)), .s (.mv 6 (.t 27))]) (.seq (.reg [.s (.mv 28 (.t 6)), .s (.load 29 true 2 (.t 3)), .s (.bs 30 .span [(.t 29)]), .s (.app 31 .span (.t 28) (.t 30)), .s (.mv 6 (.t 31))]) (.seq (.reg [.s (.mv 32 (.t 6)), .s (.mv 33 (.t 0)), .s (.mv 34 (.t 5)), .s (.slc 35 .span (.t 33) (some (.t 34)) none), .s (.app 36 .span (.t 32) (.t 35)), .s (.mv 4 (.t 36))]) (.ret))))))⟩
def c_spec_l23Put : Fun := ⟨139, [], fun ts K => as2 ts fun t0 t1 => arC (pL .span) t0 fun l => arG pSpanT t1 fun x => chk (l.length ≤ 1048576) (K (tL true .span (putS l x)) [])⟩
theorem run_spec_l23Put (l : List (FT.Ty .span)) (x : Span) (hpre : l.length ≤ 1048576) : runK [] (l.length + 1) [] pf_spec_l23Put [tL false .span l, tG (x.tc [])] fun r o => r = tL true .span (putS l x) ∧ o = [] := by
  conv => whnf
  refine loop (α := Nat) (fun k => ⟨[(0, .v (.c (.sl false .span 0))), (3, .v (.c (.ptr 1 0))), (5, .v (.c (.int .i64 (k : Int))))], [(1, some (.box true [.int .i64 x.at_, .int .i64 x.len])), (0, some (.flat false .span none l))], nums.tail.tail, [], false, []⟩)
      (fun k => k ≤ l.length ∧ ∀ j, j < k → (l.getD j (FT.zero .span)).at_ < x.at_) (fun k => l.length - k) (fun k R hI hR => ?_) 0 _ ⟨Nat.zero_le _, fun j hj => absurd hj (by omega)⟩ (by show l.length - 0 < l.length + 1; omega)
  obtain ⟨hk, hj⟩ := hI
  have e1 : win l 0 k = l.take k := by simp [win]
  have e2 : win l (0 + k) ((l.length : Int) - (k : Int)).toNat = l.drop k := by
    unfold win; rw [Nat.zero_add, List.take_of_length_le (by rw [List.length_drop]; omega)]
  conv => whnf
  repeat' (first | (refine sel_i (fun h => ?_) (fun h => ?_) <;> conv => whnf) | (refine chk_c ?_ ?_ <;> conv => whnf) | (refine And.intro ?_ rfl) | (refine And.intro ?_ ?_ <;> conv => whnf))
  all_goals (try simp only [etaSpan, Int.toNat_natCast, decide_eq_true_eq, decide_eq_false_iff_not] at *)
  all_goals first
    | (refine ⟨?_⟩; omega)
    | (rw [wrap_id (n := (k : Int) + 1) (by omega) (by omega)]
       refine hR (k + 1) ⟨by omega, fun j hjk => ?_⟩ (by omega)
       by_cases e : j = k
       · rw [e]; exact h
       · exact hj j (by omega))
    | (refine ⟨?_⟩; simp only [e1, e2, List.nil_append, List.length_append, List.length_take, List.length_drop, List.length_cons, List.length_nil]; omega)
    | (rw [putS_at hk hj (.inr h)]; simp only [e1, e2, List.nil_append, List.append_assoc]; rfl)
    | (rw [putS_at hk hj (.inl (by omega))]; simp only [e1, e2, List.nil_append, List.append_assoc]; rfl)
    | trace_state
theorem ok_spec_l23Put : FunOk Try.prog c_spec_l23Put := funOk (E := []) (envOk_nil) mixd Try.func139 (pf := pf_spec_l23Put) (by kernel_rfl) fun ts K h => by
  obtain ⟨t0, t1, e0, h⟩ := as2_out h
  subst e0
  obtain ⟨l, e1, hq⟩ := arC_out (rd_l .span) h
  clear h
  subst e1
  have h := hq
  clear hq
  obtain ⟨x, e1, hq⟩ := arG_out rd_span h
  clear h
  subst e1
  have h := hq
  clear hq
  obtain ⟨hpre, h⟩ := chk_o h
  exact ⟨_, _, h, Nat.le_of_ble_eq_true (show Nat.ble 2 Try.f139.ntmps = true by kernel_rfl), _, run_spec_l23Put l x hpre⟩

def freeAt (l : List Span) (n a : Nat) : Bool := (List.range n).all (fun j => cnt l (a + j) == 0)
def firstAt (l : List Span) (n : Nat) : Option Nat := (List.range (25 - n)).find? (fun a => freeAt l n a)
def grantK (a n : Int) : Word := keyWord ⟨a, a + n, 27, 0⟩ 0
def grant (h : Heap) (n : Int) : Heap × Word × Bool :=
  if heapOk h && inR n 1 24 then match firstAt (h.live ++ h.waits) n.toNat with
    | some a => (⟨h.mem, putS h.live ⟨(a : Int), n⟩, h.waits⟩, grantK (a : Int) n, true)
    | none => (h, zW, false)
  else (h, zW, false)
def grantT (x : Heap × Word × Bool) : Tree := .tup [.g (x.1.tc true []), .g (x.2.1.tc []), .c (.bool x.2.2)]
theorem grant_no {h : Heap} {n : Int} (k : (heapOk h && inR n 1 24) = false) : grant h n = (h, zW, false) := by unfold grant; rw [k]; rfl
theorem grant_some {h : Heap} {n : Int} {a : Nat} (k : (heapOk h && inR n 1 24) = true) (f : firstAt (h.live ++ h.waits) n.toNat = some a) : grant h n = (⟨h.mem, putS h.live ⟨(a : Int), n⟩, h.waits⟩, grantK (a : Int) n, true) := by
  unfold grant; rw [k, f]; rfl
theorem grant_none {h : Heap} {n : Int} (k : (heapOk h && inR n 1 24) = true) (f : firstAt (h.live ++ h.waits) n.toNat = none) : grant h n = (h, zW, false) := by
  unfold grant; rw [k, f]; rfl
theorem freeAt_t {l : List Span} {n a : Nat} : freeAt l n a = true ↔ ∀ j, a ≤ j → j < a + n → cnt l j = 0 := by
  unfold freeAt
  rw [List.all_eq_true]
  constructor
  · intro h j h1 h2
    have := h (j - a) (List.mem_range.2 (by omega))
    rw [show a + (j - a) = j by omega] at this
    simpa using this
  · intro h j hj
    have hj := List.mem_range.1 hj
    simp [h (a + j) (by omega) (by omega)]
theorem freeAt_f {l : List Span} {n a j : Nat} (h1 : a ≤ j) (h2 : j < a + n) (h : 0 < cnt l j) : freeAt l n a = false := by
  rw [Bool.eq_false_iff]
  intro hh
  have := freeAt_t.1 hh j h1 h2
  omega
theorem first_some {l : List Span} {n a : Nat} (ha : a + n ≤ 24) (h : freeAt l n a = true) (h2 : ∀ b, b < a → freeAt l n b = false) : firstAt l n = some a := by
  unfold firstAt
  rw [List.find?_range_eq_some]
  exact ⟨h, by rw [List.mem_range]; omega, fun j hj => by rw [h2 j hj]; rfl⟩
theorem first_none {l : List Span} {n : Nat} (h2 : ∀ b, b + n ≤ 24 → freeAt l n b = false) : firstAt l n = none := by
  unfold firstAt
  rw [List.find?_range_eq_none]
  exact fun i hi => by rw [h2 i (by omega)]; rfl
theorem first_out {l : List Span} {n a : Nat} (hn : n ≤ 24) (h : firstAt l n = some a) : a + n ≤ 24 ∧ freeAt l n a = true := by
  unfold firstAt at h
  rw [List.find?_range_eq_some] at h
  have := List.mem_range.1 h.2.1
  exact ⟨by omega, h.1⟩

def lb_spec_Grant_0 : PC := .seq (.seq (.reg [.s (.mv 26 (.t 10)), .s (.bin 27 .lss (.t 26) (.k (.v (.c (.int .i64 24)))))]) (.cond (.t 27) (.skip) (.exit 0))) (.seq (.blk 1 (.seq (.seq (.reg [.s (.mv 30 (.t 8)), .s (.mv 31 (.t 10)), .s (.ia 32 (.int .i64) (.t 30) (.t 31)), .s (.load 33 false 1 (.t 32)), .s (.bin 34 .gtr (.t 33) (.k (.v (.c (.int .i64 0)))))]) (.cond (.t 34) (.seq (.reg [.s (.mv 9 (.k (.v (.c (.int .i64 0)))))]) (.exit 1)) (.skip))) (.seq (.reg [.s (.mv 35 (.t 9)), .s (.bin 36 .add (.t 35) (.k (.v (.c (.int .i64 1))))), .s (.mv 9 (.t 36))]) (.seq (.reg [.s (.mv 37 (.t 9)), .s (.mv 38 (.t 1)), .s (.bin 39 .eql (.t 37) (.t 38))]) (.cond (.t 39) (.seq (.reg [.s (.mv 40 (.t 10)), .s (.mv 41 (.t 1)), .s (.bin 42 .sub (.t 40) (.t 41)), .s (.bin 43 .add (.t 42) (.k (.v (.c (.int .i64 1))))), .s (.mv 11 (.t 43))]) (.seq (.reg [.s (.fa 44 (.t 7) 2), .s (.load 45 false 1 (.t 44)), .s (.mv 46 (.t 11)), .s (.mv 47 (.t 1)), .s (.build 48 [.int .i64 0, .int .i64 0] [(0, 1, (.t 46)), (1, 1, (.t 47))]), .s (.call (some 49) 139 [(.t 45), (.t 48)]), .s (.fa 50 (.t 7) 2), .s (.store 1 (.t 50) (.t 49))]) (.seq (.rgd [] [.s (.load 51 true 4 (.t 7)), .s (.mv 52 (.t 11)), .s (.mv 53 (.t 11)), .s (.mv 54 (.t 1)), .s (.bin 55 .add (.t 53) (.t 54)), .s (.build 56 [.int .i64 0, .int .i64 0, .int .i64 0, .int .i64 0] [(0, 1, (.t 52)), (1, 1, (.t 55)), (2, 1, (.k (.v (.c (.int .i64 27)))))]), .s (.call (some 57) 150 [(.t 56), (.k (.v (.c (.int .i64 0))))]), .s (.store 4 (.t 4) (.t 51)), .s (.store 6 (.t 5) (.t 57)), .s (.mv 6 (.k (.v (.c .tt))))] (.tk 0 (.tk 1 (.tk 2 (.tk 3 (.tk 4 (.tk 5 (.one 6 false (.one 7 true (.one 8 true (.tk 9 (.done none)))))))))))) (.ret)))) (.skip)))))) (.reg [.s (.mv 28 (.t 10)), .s (.bin 29 .add (.t 28) (.k (.v (.c (.int .i64 1))))), .s (.mv 10 (.t 29))]))
def pf_spec_Grant : PF := ⟨[.c 4 true 4, .c 5 true 6, .t 6], .seq (.reg [.s (.box 2 (.t 0)), .s (.alloc 4 [.nils .word, .nils .bool, .nils .span, .nils .span]), .s (.alloc 5 [.int .i64 0, .ff, .int .i64 0, .int .i64 0, .int .i64 0, .int .i64 0]), .s (.mv 6 (.k (.v (.c .ff))))]) (.seq (.reg [.s (.load 12 true 4 (.t 2)), .s (.call (some 13) 138 [(.t 12)]), .s (.alloc 7 [.nils .word, .nils .bool, .nils .span, .nils .span]), .s (.store 4 (.t 7) (.t 13))]) (.seq (.seq (.reg [.s (.load 14 true 4 (.t 2)), .s (.call (some 15) 132 [(.t 14)]), .s (.bnot 16 (.t 15)), .s (.mv 17 (.t 16)), .g 17 false (some 18) (.mv 18 (.t 1)), .g 17 false (some 19) (.call (some 19) 149 [(.t 18), (.k (.v (.c (.int .i64 1)))), (.k (.v (.c (.int .i64 24))))]), .g 17 false (some 20) (.bnot 20 (.t 19)), .s (.pick 21 (.t 17) (.k (.v (.c .tt))) (.t 20))]) (.cond (.t 21) (.seq (.reg [.s (.load 22 true 4 (.t 7)), .s (.build 23 [.int .i64 0, .ff, .int .i64 0, .int .i64 0, .int .i64 0, .int .i64 0] []), .s (.store 4 (.t 4) (.t 22)), .s (.store 6 (.t 5) (.t 23)), .s (.mv 6 (.k (.v (.c .ff))))]) (.ret)) (.skip))) (.seq (.reg [.s (.load 24 true 4 (.t 2)), .s (.call (some 25) 131 [(.t 24)]), .s (.mv 8 (.t 25))]) (.seq (.reg [.s (.mv 9 (.k (.v (.c (.int .i64 0)))))]) (.seq (.seq (.reg [.s (.mv 10 (.k (.v (.c (.int .i64 0)))))]) (.blk 0 (.loop [1, 4, 5, 7, 8, 9, 10] lb_spec_Grant_0))) (.seq (.reg [.s (.load 58 true 4 (.t 7)), .s (.build 59 [.int .i64 0, .ff, .int .i64 0, .int .i64 0, .int .i64 0, .int .i64 0] []), .s (.store 4 (.t 4) (.t 58)), .s (.store 6 (.t 5) (.t 59)), .s (.mv 6 (.k (.v (.c .ff))))]) (.ret)))))))⟩
def c_spec_Grant : Fun := ⟨70, [], fun ts K => as2 ts fun t0 t1 => arG pHeapT t0 fun t => arC (pI .i64) t1 fun n => chk (LHeap t 1048576) (K (grantT (grant t n)) [])⟩
theorem run_spec_Grant (t : Heap) (n : Int) (hpre : LHeap t 1048576) : runK [c_spec_l23Owners, c_spec_HeapOk, c_spec_l23Copy, c_spec_l23Put, c_spec_l1In, c_spec_KeyWord] (30) [] pf_spec_Grant [tG (t.tc false []), tI .i64 n] fun r o => r = grantT (grant t n) ∧ o = [] := by
  have l2 := hpre.2.1
  have l3 := hpre.2.2
  conv => whnf
  repeat' (first | (refine sel_i (fun h => ?_) (fun h => ?_) <;> conv => whnf) | (refine chk_c ?_ ?_ <;> conv => whnf) | (refine And.intro ?_ rfl) | (refine And.intro ?_ ?_ <;> conv => whnf))
  all_goals (try simp only [etaMemory, etaHeap, Bool.not_eq_true', Bool.not_eq_false'] at *)
  all_goals first
    | (refine ⟨?_⟩; exact hpre)
    | (refine ⟨?_⟩; exact hpre.mono (by decide))
    | (refine ⟨?_⟩; exact ⟨hpre.mono (by decide)⟩)
    | (rw [grant_no (by simp [*])]; rfl)
    | skip
  have hk : heapOk t = true := by assumption
  have hn1 := inR_t.1 h
  obtain ⟨N, rfl⟩ := Int.eq_ofNat_of_zero_le (show 0 ≤ n by omega)
  have hg : (heapOk t && inR (N : Int) 1 24) = true := by rw [hk, h]; rfl
  have how := owners_len (t.live ++ t.waits)
  have hos : ∀ j, j < 24 → (owners (t.live ++ t.waits)).getD j 0 = (cnt (t.live ++ t.waits) j : Int) := fun j hj => owners_spec (heapOk_spans hk) (by rw [List.length_append]; omega) hj
  have hfs := fun a (h1 : a + N ≤ 24) h2 h3 => grant_some (h := t) (n := (N : Int)) (a := a) hg (first_some (n := N) h1 h2 h3)
  have hfn := fun h2 => grant_none (h := t) (n := (N : Int)) hg (first_none (n := N) h2)
  clear h
  generalize owners (t.live ++ t.waits) = ow at *
  generalize t.live ++ t.waits = all at *
  refine loop (α := Nat × Nat) (fun q => ⟨[(1, .v (.c (.int .i64 (N : Int)))), (4, .v (.c (.ptr 0 0))), (5, .v (.c (.ptr 1 0))), (7, .v (.c (.ptr 2 0))), (8, .v (.c (.sl false (.int .i64) 7))), (9, .v (.c (.int .i64 (q.2 : Int)))), (10, .v (.c (.int .i64 (q.1 : Int))))],
        [(7, some (.flat true (.int .i64) none ow)), (6, some (.flat true .span none t.waits)), (5, some (.flat true .span none t.live)), (4, some (.flat true .bool none t.mem.gone)), (3, some (.flat true .word none t.mem.words)), (2, some (.box true [.sl false .word 3, .sl false .bool 4, .sl false .span 5, .sl false .span 6])), (1, some (.box true [.int .i64 0, .ff, .int .i64 0, .int .i64 0, .int .i64 0, .int .i64 0])), (0, some (.box true [.nils .word, .nils .bool, .nils .span, .nils .span]))], nums.tail.tail.tail.tail.tail.tail.tail.tail, [], false, []⟩)
      (fun q => (q.1 ≤ 24 ∧ q.2 ≤ q.1 ∧ q.2 < N) ∧ (∀ j, q.1 - q.2 ≤ j → j < q.1 → cnt all j = 0) ∧ (q.2 < q.1 → 0 < cnt all (q.1 - q.2 - 1)) ∧ ∀ a, a + N ≤ q.1 → freeAt all N a = false) (fun q => 24 - q.1) (fun q R hI hR => ?_) (0, 0) _
      ⟨⟨Nat.zero_le _, Nat.le_refl _, by dsimp only; omega⟩, fun j h1 h2 => absurd h2 (by dsimp only; omega), fun h => absurd h (by dsimp only; omega), fun a ha => absurd ha (by dsimp only; omega)⟩ (by show 24 - 0 < 30; omega)
  obtain ⟨c, f⟩ := q
  obtain ⟨⟨i1, i2, i3⟩, hz, hb, hw⟩ := hI
  dsimp only at i1 i2 i3 hz hb hw ⊢
  conv => whnf
  repeat' (first | (refine sel_i (fun h => ?_) (fun h => ?_) <;> conv => whnf) | (refine chk_c ?_ ?_ <;> conv => whnf) | (refine And.intro ?_ rfl) | (refine And.intro ?_ ?_ <;> conv => whnf))
  all_goals (try simp only [etaMemory, etaHeap, Int.toNat_natCast, Bool.not_eq_true', Bool.not_eq_false', beq_iff_eq, beq_eq_false_iff_ne, decide_eq_true_eq, decide_eq_false_iff_not] at *)
  all_goals first
    | (refine ⟨?_⟩; omega)
    | skip
  · have g := hos c (by omega)
    have h0 : ow.getD c 0 > 0 := h
    rw [wrap_id (n := (c : Int) + 1) (by omega) (by omega)]
    refine hR (c + 1, 0) ⟨⟨by dsimp only; omega, Nat.zero_le _, by dsimp only; omega⟩, fun j h1 h2 => absurd h2 (by dsimp only at h1 ⊢; omega), fun _ => ?_, fun a ha => ?_⟩ (by dsimp only; omega)
    · dsimp only
      rw [show c + 1 - 0 - 1 = c by omega]; omega
    · dsimp only at ha
      by_cases e : a + N ≤ c
      · exact hw a e
      · exact freeAt_f (j := c) (by omega) (by omega) (by omega)
  · have g := hos c (by omega)
    rw [wrap_id (n := (f : Int) + 1) (by omega) (by omega)] at h
    have h0 : ¬ ow.getD c 0 > 0 := by assumption
    have hfN : f + 1 = N := by omega
    rw [hfs (c + 1 - N) (by omega) (freeAt_t.2 fun j h1 h2 => by
      by_cases e : j = c
      · rw [e]; omega
      · exact hz j (by omega) (by omega)) (fun b hb => hw b (by omega))]
    have e1 : IntKind.i64.wrap (IntKind.i64.wrap ((c : Int) - (N : Int)) + 1) = ((c + 1 - N : Nat) : Int) := by
      rw [wrap_id (n := (c : Int) - (N : Int)) (by omega) (by omega), wrap_id (by omega) (by omega)]; omega
    rw [e1, wrap_id (n := ((c + 1 - N : Nat) : Int) + (N : Int)) (by omega) (by omega)]
    rfl
  · have g := hos c (by omega)
    rw [wrap_id (n := (f : Int) + 1) (by omega) (by omega)] at h
    have h0 : ¬ ow.getD c 0 > 0 := by assumption
    have hfN : ¬ f + 1 = N := by omega
    rw [wrap_id (n := (c : Int) + 1) (by omega) (by omega), wrap_id (n := (f : Int) + 1) (by omega) (by omega)]
    refine hR (c + 1, f + 1) ⟨⟨by dsimp only; omega, by dsimp only; omega, by dsimp only; omega⟩, fun j h1 h2 => ?_, fun h5 => ?_, fun a ha => ?_⟩ (by dsimp only; omega)
    · dsimp only at h1 h2
      by_cases e : j = c
      · rw [e]; omega
      · exact hz j (by omega) (by omega)
    · dsimp only at h5 ⊢
      have := hb (by omega)
      rw [show c + 1 - (f + 1) - 1 = c - f - 1 by omega]; exact this
    · dsimp only at ha
      by_cases e : a + N ≤ c
      · exact hw a e
      · have := hb (by omega)
        exact freeAt_f (j := c - f - 1) (by omega) (by omega) this
  · rw [hfn (fun b hb => hw b (by omega))]; rfl
theorem ok_spec_Grant : FunOk Try.prog c_spec_Grant := funOk (E := [c_spec_l23Owners, c_spec_HeapOk, c_spec_l23Copy, c_spec_l23Put, c_spec_l1In, c_spec_KeyWord]) (envOk_cons ok_spec_l23Owners (envOk_cons ok_spec_HeapOk (envOk_cons ok_spec_l23Copy (envOk_cons ok_spec_l23Put (envOk_cons ok_spec_l1In (envOk_cons ok_spec_KeyWord (envOk_nil))))))) mixd Try.func70 (pf := pf_spec_Grant) (by kernel_rfl) fun ts K h => by
  obtain ⟨t0, t1, e0, h⟩ := as2_out h
  subst e0
  obtain ⟨t, e1, hq⟩ := arG_out rd_heap h
  clear h
  subst e1
  have h := hq
  clear hq
  obtain ⟨n, e1, hq⟩ := arC_out (rd_int .i64) h
  clear h
  subst e1
  have h := hq
  clear hq
  obtain ⟨hpre, h⟩ := chk_o h
  exact ⟨_, _, h, Nat.le_of_ble_eq_true (show Nat.ble 2 Try.f70.ntmps = true by kernel_rfl), _, run_spec_Grant t n hpre⟩

def setRun : Nat → Nat → List Bool → List Bool
  | 0, _, u => u
  | n + 1, c, u => setRun n (c + 1) (u.set c true)
theorem setRun_len : ∀ (n c : Nat) (u : List Bool), (setRun n c u).length = u.length
  | 0, _, _ => rfl
  | n + 1, c, u => by unfold setRun; rw [setRun_len n]; simp
theorem setRun_get : ∀ (n c : Nat) (u : List Bool) {j : Nat}, j < u.length → (setRun n c u).getD j false = (u.getD j false || (decide (c ≤ j) && decide (j < c + n)))
  | 0, c, u, j, _ => by
    have : (decide (c ≤ j) && decide (j < c + 0)) = false := by rw [Bool.and_eq_false_iff]; by_cases h : c ≤ j <;> simp <;> omega
    rw [this, Bool.or_false]; rfl
  | n + 1, c, u, j, hj => by
    unfold setRun
    rw [setRun_get n (c + 1) _ (by simpa using hj)]
    by_cases e : c = j
    · subst e
      have : (u.set c true).getD c false = true := by simp [List.getD_eq_getElem?_getD, hj]
      rw [this]; simp
    · have : (u.set c true).getD j false = u.getD j false := by simp only [List.getD_eq_getElem?_getD, List.getElem?_set, if_neg e]
      rw [this]
      congr 1
      by_cases h1 : c + 1 ≤ j
      · rw [decide_eq_true h1, decide_eq_true (show c ≤ j by omega)]
        exact congrArg (true && ·) (decide_eq_decide.2 ⟨fun h => by omega, fun h => by omega⟩)
      · rw [decide_eq_false h1, decide_eq_false (show ¬ c ≤ j by omega)]; rfl
def idxAt (l : List Span) (a : Int) : Option Nat := (List.range l.length).find? (fun i => decide ((l.getD i (FT.zero .span)).at_ = a))
def giveBack (h : Heap) (a : Int) : Heap × Bool :=
  if heapOk h then match idxAt h.live a with
    | some i => (⟨⟨h.mem.words, setRun (h.live.getD i (FT.zero .span)).len.toNat (h.live.getD i (FT.zero .span)).at_.toNat h.mem.gone⟩, h.live.take i ++ h.live.drop (i + 1), putS h.waits (h.live.getD i (FT.zero .span))⟩, true)
    | none => (h, false)
  else (h, false)
def giveT (x : Heap × Bool) : Tree := .tup [.g (x.1.tc true []), .c (.bool x.2)]
theorem give_no {h : Heap} {a : Int} (k : heapOk h = false) : giveBack h a = (h, false) := by unfold giveBack; rw [k]; rfl
theorem give_none {h : Heap} {a : Int} (k : ∀ i, i < h.live.length → ¬ (h.live.getD i (FT.zero .span)).at_ = a) : giveBack h a = (h, false) := by
  have : idxAt h.live a = none := by
    unfold idxAt; rw [List.find?_range_eq_none]; exact fun i hi => by rw [decide_eq_false (k i hi)]; rfl
  unfold giveBack; rw [this]; split <;> rfl
theorem give_some {h : Heap} {a : Int} {i : Nat} (k : heapOk h = true) (hi : i < h.live.length) (he : (h.live.getD i (FT.zero .span)).at_ = a) (hb : ∀ j, j < i → ¬ (h.live.getD j (FT.zero .span)).at_ = a) :
    giveBack h a = (⟨⟨h.mem.words, setRun (h.live.getD i (FT.zero .span)).len.toNat (h.live.getD i (FT.zero .span)).at_.toNat h.mem.gone⟩, h.live.take i ++ h.live.drop (i + 1), putS h.waits (h.live.getD i (FT.zero .span))⟩, true) := by
  have : idxAt h.live a = some i := by
    unfold idxAt; rw [List.find?_range_eq_some]; exact ⟨decide_eq_true he, List.mem_range.2 hi, fun j hj => by rw [decide_eq_false (hb j hj)]; rfl⟩
  unfold giveBack; rw [k, this]; rfl

def lb_spec_GiveBack_0 : PC := .seq (.seq (.reg [.s (.mv 52 (.t 9)), .s (.fa 53 (.t 8) 0), .s (.load 54 false 1 (.t 53)), .s (.fa 55 (.t 8) 1), .s (.load 56 false 1 (.t 55)), .s (.bin 57 .add (.t 54) (.t 56)), .s (.bin 58 .lss (.t 52) (.t 57))]) (.cond (.t 58) (.skip) (.exit 2))) (.seq (.blk 3 (.reg [.s (.fa 61 (.t 6) 0), .s (.fa 62 (.t 61) 1), .s (.load 63 false 1 (.t 62)), .s (.mv 64 (.t 9)), .s (.ia 65 .bool (.t 63) (.t 64)), .s (.store 1 (.t 65) (.k (.v (.c .tt))))])) (.reg [.s (.mv 59 (.t 9)), .s (.bin 60 .add (.t 59) (.k (.v (.c (.int .i64 1))))), .s (.mv 9 (.t 60))]))
def lb_spec_GiveBack_1 : PC := .seq (.seq (.reg [.s (.mv 16 (.t 7)), .s (.fa 17 (.t 2) 2), .s (.load 18 false 1 (.t 17)), .s (.len 19 false (.t 18)), .s (.bin 20 .lss (.t 16) (.t 19))]) (.cond (.t 20) (.skip) (.exit 0))) (.seq (.blk 1 (.seq (.reg [.s (.fa 23 (.t 2) 2), .s (.load 24 false 1 (.t 23)), .s (.mv 25 (.t 7)), .s (.ia 26 .span (.t 24) (.t 25)), .s (.load 27 true 2 (.t 26)), .s (.alloc 8 [.int .i64 0, .int .i64 0]), .s (.store 2 (.t 8) (.t 27))]) (.seq (.seq (.reg [.s (.fa 28 (.t 8) 0), .s (.load 29 false 1 (.t 28)), .s (.mv 30 (.t 1)), .s (.bin 31 .neq (.t 29) (.t 30))]) (.cond (.t 31) (.exit 1) (.skip))) (.seq (.rgd [] [.s (.bs 32 .span []), .s (.fa 33 (.t 2) 2), .s (.load 34 false 1 (.t 33)), .s (.mv 35 (.t 7)), .s (.slc 36 .span (.t 34) none (some (.t 35))), .s (.app 37 .span (.t 32) (.t 36)), .s (.fa 38 (.t 2) 2), .s (.load 39 false 1 (.t 38)), .s (.mv 40 (.t 7)), .s (.bin 41 .add (.t 40) (.k (.v (.c (.int .i64 1))))), .s (.slc 42 .span (.t 39) (some (.t 41)) none), .s (.app 43 .span (.t 37) (.t 42)), .s (.fa 44 (.t 6) 2), .s (.store 1 (.t 44) (.t 43))] (.tk 1 (.tk 2 (.tk 3 (.tk 6 (.tk 7 (.tk 8 (.tk 9 (.alt 0 false (.alt 4 false (.alt 5 false (.one 10 false (.one 11 true (.tk 12 (.one 13 true (.done (some [2, 4, 6, 8])))))) (.alt 10 false (.one 5 false (.one 11 true (.tk 12 (.one 13 true (.done (some [2, 4, 6, 8])))))) (.nil))) (.alt 10 false (.one 4 false (.one 5 false (.one 11 true (.tk 12 (.one 13 true (.done (some [2, 4, 6, 8]))))))) (.nil))) (.alt 4 false (.alt 0 false (.alt 5 false (.one 10 false (.one 11 true (.tk 12 (.one 13 true (.done (some [2, 4, 6, 8])))))) (.alt 10 false (.one 5 false (.one 11 true (.tk 12 (.one 13 true (.done (some [2, 4, 6, 8])))))) (.nil))) (.alt 10 false (.one 0 false (.one 5 false (.one 11 true (.tk 12 (.one 13 true (.done (some [2, 4, 6, 8]))))))) (.nil))) (.alt 10 false (.alt 0 false (.one 4 false (.one 5 false (.one 11 true (.tk 12 (.one 13 true (.done (some [2, 4, 6, 8]))))))) (.alt 4 false (.one 0 false (.one 5 false (.one 11 true (.tk 12 (.one 13 true (.done (some [2, 4, 6, 8]))))))) (.nil))) (.nil)))))))))))) (.seq (.reg [.s (.fa 45 (.t 2) 3), .s (.load 46 false 1 (.t 45)), .s (.load 47 true 2 (.t 8)), .s (.call (some 48) 139 [(.t 46), (.t 47)]), .s (.fa 49 (.t 6) 3), .s (.store 1 (.t 49) (.t 48))]) (.seq (.seq (.reg [.s (.fa 50 (.t 8) 0), .s (.load 51 false 1 (.t 50)), .s (.mv 9 (.t 51))]) (.blk 2 (.loop [4, 6, 8, 9] lb_spec_GiveBack_0))) (.seq (.reg [.s (.load 66 true 4 (.t 6)), .s (.store 4 (.t 4) (.t 66)), .s (.mv 5 (.k (.v (.c .tt))))]) (.ret)))))))) (.reg [.s (.mv 21 (.t 7)), .s (.bin 22 .add (.t 21) (.k (.v (.c (.int .i64 1))))), .s (.mv 7 (.t 22))]))
def pf_spec_GiveBack : PF := ⟨[.c 4 true 4, .t 5], .seq (.reg [.s (.box 2 (.t 0)), .s (.alloc 4 [.nils .word, .nils .bool, .nils .span, .nils .span]), .s (.mv 5 (.k (.v (.c .ff))))]) (.seq (.reg [.s (.load 10 true 4 (.t 2)), .s (.call (some 11) 138 [(.t 10)]), .s (.alloc 6 [.nils .word, .nils .bool, .nils .span, .nils .span]), .s (.store 4 (.t 6) (.t 11))]) (.seq (.seq (.reg [.s (.load 12 true 4 (.t 2)), .s (.call (some 13) 132 [(.t 12)]), .s (.bnot 14 (.t 13))]) (.cond (.t 14) (.seq (.reg [.s (.load 15 true 4 (.t 6)), .s (.store 4 (.t 4) (.t 15)), .s (.mv 5 (.k (.v (.c .ff))))]) (.ret)) (.skip))) (.seq (.seq (.reg [.s (.mv 7 (.k (.v (.c (.int .i64 0)))))]) (.blk 0 (.loop [1, 2, 4, 6, 7] lb_spec_GiveBack_1))) (.seq (.reg [.s (.load 67 true 4 (.t 6)), .s (.store 4 (.t 4) (.t 67)), .s (.mv 5 (.k (.v (.c .ff))))]) (.ret)))))⟩
def c_spec_GiveBack : Fun := ⟨66, [], fun ts K => as2 ts fun t0 t1 => arG pHeapT t0 fun t => arC (pI .i64) t1 fun a => chk (LHeap t 1048576) (K (giveT (giveBack t a)) [])⟩
theorem run_spec_GiveBack (t : Heap) (a : Int) (hpre : LHeap t 1048576) : runK [c_spec_HeapOk, c_spec_l23Copy, c_spec_l23Put] (t.live.length + 30) [] pf_spec_GiveBack [tG (t.tc false []), tI .i64 a] fun r o => r = giveT (giveBack t a) ∧ o = [] := by
  have l2 := hpre.2.1
  have l3 := hpre.2.2
  conv => whnf
  repeat' (first | (refine sel_i (fun h => ?_) (fun h => ?_) <;> conv => whnf) | (refine chk_c ?_ ?_ <;> conv => whnf) | (refine And.intro ?_ rfl) | (refine And.intro ?_ ?_ <;> conv => whnf))
  all_goals (try simp only [etaMemory, etaHeap, Bool.not_eq_true', Bool.not_eq_false'] at *)
  all_goals first
    | (refine ⟨?_⟩; exact hpre)
    | (refine ⟨?_⟩; exact hpre.mono (by decide))
    | (rw [give_no (by assumption)]; rfl)
    | skip
  have hsp : ∀ s ∈ t.live, spanOk s = true := fun s hs => heapOk_spans h s (List.mem_append_left _ hs)
  have hg24 := (memoryOk_n (heapOk_mem h)).2.1
  have hgn := give_none (h := t) (a := a)
  have hgs := fun i hi he hb => give_some (h := t) (a := a) (i := i) h hi he hb
  clear h
  refine loop (α := Nat) (fun i => ⟨[(1, .v (.c (.int .i64 a))), (2, .v (.c (.ptr 0 0))), (4, .v (.c (.ptr 5 0))), (6, .v (.c (.ptr 6 0))), (7, .v (.c (.int .i64 (i : Int))))],
        [(10, some (.flat true .span none t.waits)), (9, some (.flat true .span none t.live)), (8, some (.flat true .bool none t.mem.gone)), (7, some (.flat true .word none t.mem.words)), (6, some (.box true [.sl false .word 7, .sl false .bool 8, .sl false .span 9, .sl false .span 10])), (5, some (.box true [.nils .word, .nils .bool, .nils .span, .nils .span])), (4, some (.flat false .span none t.waits)), (3, some (.flat false .span none t.live)), (2, some (.flat false .bool none t.mem.gone)), (1, some (.flat false .word none t.mem.words)), (0, some (.box true [.sl false .word 1, .sl false .bool 2, .sl false .span 3, .sl false .span 4]))], nums.tail.tail.tail.tail.tail.tail.tail.tail.tail.tail.tail, [], false, []⟩)
      (fun i => i ≤ t.live.length ∧ ∀ j, j < i → ¬ (t.live.getD j (FT.zero .span)).at_ = a) (fun i => t.live.length - i) (fun i R hI hR => ?_) 0 _ ⟨Nat.zero_le _, fun j hj => absurd hj (by omega)⟩ (by show t.live.length - 0 < t.live.length + 30; omega)
  obtain ⟨hi, hb⟩ := hI
  conv => whnf
  refine sel_i (fun h => ?_) (fun h => ?_)
  · have hlt : i < t.live.length := by have h := of_decide_eq_true h; omega
    clear h
    have hs := hsp _ (spanD_mem hlt)
    have hgs2 := fun he => hgs i hlt he hb
    have e1 : win t.live 0 i = t.live.take i := by simp [win]
    have e2 : win t.live (0 + (i + 1)) ((t.live.length : Int) - ((i + 1 : Nat) : Int)).toNat = t.live.drop (i + 1) := by
      unfold win; rw [Nat.zero_add, List.take_of_length_le (by rw [List.length_drop]; omega)]
    have w1 : IntKind.i64.wrap ((i : Int) + 1) = ((i + 1 : Nat) : Int) := by rw [wrap_id (by omega) (by omega)]; rfl
    conv => whnf
    repeat' (first | (refine sel_i (fun h => ?_) (fun h => ?_) <;> conv => whnf) | (refine chk_c ?_ ?_ <;> conv => whnf) | (refine And.intro ?_ rfl) | (refine And.intro ?_ ?_ <;> conv => whnf))
    all_goals (try simp only [etaMemory, etaHeap, etaSpan, w1, Int.toNat_natCast, e1, e2, bne_iff_ne, ne_eq, bne_eq_false_iff_eq, Bool.not_eq_true', Bool.not_eq_false', beq_iff_eq, beq_eq_false_iff_ne, decide_eq_true_eq, decide_eq_false_iff_not] at *)
    all_goals first
      | (refine ⟨?_⟩; omega)
      | (refine ⟨?_⟩; simp only [List.nil_append, List.length_append, List.length_take, List.length_drop, List.length_cons, List.length_nil]; omega)
      | (refine hR (i + 1) ⟨hlt, fun j hj => ?_⟩ (by omega)
         by_cases e : j = i
         · rw [e]; exact h
         · exact hb j (by omega))
      | skip
    have ho : (0 ≤ (t.live.getD i (FT.zero .span)).at_ ∧ (t.live.getD i (FT.zero .span)).at_ ≤ 23) ∧ 1 ≤ (t.live.getD i (FT.zero .span)).len ∧ (t.live.getD i (FT.zero .span)).len ≤ 24 - (t.live.getD i (FT.zero .span)).at_ := by
      have := hs
      simp only [spanOk, Bool.and_eq_true, inR_t] at this
      exact this
    rw [hgs2 h]
    clear hgs hgs2 hgn hb hR
    generalize t.live.getD i (FT.zero .span) = s at *
    obtain ⟨sa, sl⟩ := s
    dsimp only at ho ⊢
    obtain ⟨b, rfl⟩ := Int.eq_ofNat_of_zero_le ho.1.1
    obtain ⟨m, rfl⟩ := Int.eq_ofNat_of_zero_le (show 0 ≤ sl by omega)
    simp only [Int.toNat_natCast]
    have w2 : IntKind.i64.wrap ((b : Int) + (m : Int)) = (b : Int) + m := wrap_id (by omega) (by omega)
    refine loop (α := Nat × List Bool) (fun q => ⟨[(4, .v (.c (.ptr 0 0))), (6, .v (.c (.ptr 1 0))), (8, .v (.c (.ptr 6 0))), (9, .v (.c (.int .i64 (q.1 : Int))))],
          [(6, some (.box true [.int .i64 (b : Int), .int .i64 (m : Int)])), (5, some (.flat true .span none (putS t.waits ⟨(b : Int), (m : Int)⟩))), (4, some (.flat true .span none ([] ++ List.take i t.live ++ List.drop (i + 1) t.live))), (3, some (.flat true .bool none q.2)), (2, some (.flat true .word none t.mem.words)), (1, some (.box true [.sl false .word 2, .sl false .bool 3, .sl true .span 4, .sl false .span 5])), (0, some (.box true [.nils .word, .nils .bool, .nils .span, .nils .span]))], nums.tail.tail.tail.tail.tail.tail.tail, [], false, []⟩)
        (fun q => (b ≤ q.1 ∧ q.1 ≤ b + m) ∧ q.2.length = 24 ∧ setRun (b + m - q.1) q.1 q.2 = setRun m b t.mem.gone) (fun q => b + m - q.1) (fun q R2 hI2 hR2 => ?_) (b, t.mem.gone) _
        ⟨⟨Nat.le_refl _, Nat.le_add_right _ _⟩, hg24, by dsimp only; rw [Nat.add_sub_cancel_left]⟩ (by show b + m - b < t.live.length + 30; omega)
    obtain ⟨n, u⟩ := q
    obtain ⟨⟨gn1, gn2⟩, gl, gv⟩ := hI2
    dsimp only at gn1 gn2 gl gv ⊢
    conv => whnf
    rw [w2]
    refine sel_i (fun h => ?_) (fun h => ?_)
    · have hn : n < b + m := by have h := of_decide_eq_true h; omega
      clear h
      rw [show b + m - n = (b + m - (n + 1)) + 1 by omega, setRun] at gv
      conv => whnf
      repeat' (first | (refine sel_i (fun h => ?_) (fun h => ?_) <;> conv => whnf) | (refine chk_c ?_ ?_ <;> conv => whnf) | (refine And.intro ?_ rfl) | (refine And.intro ?_ ?_ <;> conv => whnf))
      all_goals (try simp only [Int.toNat_natCast] at *)
      all_goals first
        | (refine ⟨?_⟩; omega)
        | (rw [wrap_id (n := (n : Int) + 1) (by omega) (by omega)]
           exact hR2 (n + 1, u.set n true) ⟨⟨by dsimp only; omega, by dsimp only; omega⟩, by simpa using gl, gv⟩ (by dsimp only; omega))
        | trace_state
    · have hn : n = b + m := by have h := of_decide_eq_false h; omega
      subst hn
      rw [Nat.sub_self, setRun] at gv
      conv => whnf
      rw [← gv, List.nil_append]
      exact ⟨rfl, rfl⟩
  · have e : i = t.live.length := by have h := of_decide_eq_false h; omega
    subst e
    conv => whnf
    rw [hgn hb]
    exact ⟨rfl, rfl⟩
theorem ok_spec_GiveBack : FunOk Try.prog c_spec_GiveBack := funOk (E := [c_spec_HeapOk, c_spec_l23Copy, c_spec_l23Put]) (envOk_cons ok_spec_HeapOk (envOk_cons ok_spec_l23Copy (envOk_cons ok_spec_l23Put (envOk_nil)))) mixd Try.func66 (pf := pf_spec_GiveBack) (by kernel_rfl) fun ts K h => by
  obtain ⟨t0, t1, e0, h⟩ := as2_out h
  subst e0
  obtain ⟨t, e1, hq⟩ := arG_out rd_heap h
  clear h
  subst e1
  have h := hq
  clear hq
  obtain ⟨a, e1, hq⟩ := arC_out (rd_int .i64) h
  clear h
  subst e1
  have h := hq
  clear hq
  obtain ⟨hpre, h⟩ := chk_o h
  exact ⟨_, _, h, Nat.le_of_ble_eq_true (show Nat.ble 2 Try.f66.ntmps = true by kernel_rfl), _, run_spec_GiveBack t a hpre⟩

def writeM (m : Mem) (y : Word) (n : Int) (w : Word) : Mem × Int :=
  if memoryOk m then (if writeC m y n w = 0 then (⟨m.words.set n.toNat w, m.gone⟩, 0) else (m, writeC m y n w)) else (⟨[], []⟩, writeC m y n w)
def writeT (x : Mem × Int) : Tree := .tup [.g (x.1.tc true []), .c (.int .i64 x.2)]
theorem writeM_no {m : Mem} {y w : Word} {n : Int} (h : memoryOk m = false) : writeM m y n w = (⟨[], []⟩, writeC m y n w) := by unfold writeM; rw [h]; rfl
theorem writeM_0 {m : Mem} {y w : Word} {n : Int} (h : memoryOk m = true) (h2 : writeC m y n w = 0) : writeM m y n w = (⟨m.words.set n.toNat w, m.gone⟩, 0) := by unfold writeM; rw [h, if_pos rfl, if_pos h2]
theorem writeM_t {m : Mem} {y w : Word} {n : Int} (h : memoryOk m = true) (h2 : ¬ writeC m y n w = 0) : writeM m y n w = (m, writeC m y n w) := by unfold writeM; rw [h, if_pos rfl, if_neg h2]

def pf_spec_Write : PF := ⟨[.c 8 true 2, .t 9], .seq (.reg [.s (.box 4 (.t 0)), .s (.box 5 (.t 1)), .s (.box 7 (.t 3)), .s (.alloc 8 [.nils .word, .nils .bool]), .s (.mv 9 (.k (.v (.c (.int .i64 0)))))]) (.seq (.reg [.s (.load 12 true 2 (.t 4)), .s (.load 13 true 6 (.t 5)), .s (.mv 14 (.t 2)), .s (.load 15 true 6 (.t 7)), .s (.call (some 16) 228 [(.t 12), (.t 13), (.t 14), (.t 15)]), .s (.mv 10 (.t 16))]) (.seq (.seq (.reg [.s (.load 17 true 2 (.t 4)), .s (.call (some 18) 89 [(.t 17)]), .s (.bnot 19 (.t 18))]) (.cond (.t 19) (.seq (.reg [.s (.build 20 [.nils .word, .nils .bool] []), .s (.mv 21 (.t 10)), .s (.store 2 (.t 8) (.t 20)), .s (.mv 9 (.t 21))]) (.ret)) (.skip))) (.seq (.reg [.s (.load 22 true 2 (.t 4)), .s (.call (some 23) 190 [(.t 22)]), .s (.alloc 11 [.nils .word, .nils .bool]), .s (.store 2 (.t 11) (.t 23))]) (.seq (.seq (.reg [.s (.mv 24 (.t 10)), .s (.bin 25 .eql (.t 24) (.k (.v (.c (.int .i64 0)))))]) (.cond (.t 25) (.reg [.s (.fa 26 (.t 11) 0), .s (.load 27 false 1 (.t 26)), .s (.mv 28 (.t 2)), .s (.load 29 true 6 (.t 7)), .s (.ia 30 .word (.t 27) (.t 28)), .s (.store 6 (.t 30) (.t 29))]) (.skip))) (.seq (.reg [.s (.load 31 true 2 (.t 11)), .s (.mv 32 (.t 10)), .s (.store 2 (.t 8) (.t 31)), .s (.mv 9 (.t 32))]) (.ret))))))⟩
def c_spec_Write : Fun := ⟨201, [], fun ts K => as4 ts fun t0 t1 t2 t3 => arG pMemT t0 fun m => arG pWordT t1 fun y => arC (pI .i64) t2 fun n => arG pWordT t3 fun w => chk (LMem m 2147483647) (K (writeT (writeM m y n w)) [])⟩
theorem run_spec_Write (m : Mem) (y : Word) (n : Int) (w : Word) (hpre : LMem m 2147483647) : runK [c_spec_MemoryOk, c_spec_l8Copy, c_spec_l8Write] (0) [] pf_spec_Write [tG (m.tc false []), tG (y.tc []), tI .i64 n, tG (w.tc [])] fun r o => r = writeT (writeM m y n w) ∧ o = [] := by
  conv => whnf
  repeat' (first | (refine sel_i (fun h => ?_) (fun h => ?_) <;> conv => whnf) | (refine chk_c ?_ ?_ <;> conv => whnf) | (refine And.intro ?_ rfl) | (refine And.intro ?_ ?_ <;> conv => whnf))
  all_goals (try simp only [etaKey, etaWord, etaMemory, beq_iff_eq, beq_eq_false_iff_ne, ne_eq, Bool.not_eq_true', Bool.not_eq_false', decide_eq_true_eq, decide_eq_false_iff_not] at *)
  all_goals first
    | (refine ⟨?_⟩; exact hpre)
    | (rw [writeM_no (by assumption)]; rfl)
    | (rw [writeM_0 (by assumption) (by assumption)]; rename_i h9; rw [h9]; rfl)
    | (rw [writeM_0 (by assumption) h, h]; rfl)
    | (rw [writeM_t (by assumption) (by assumption)]; rfl)
    | (have q := writeC_00 (m := m) (y := y) (n := n) (w := w) (by assumption); refine ⟨?_⟩; omega)
    | trace_state
theorem ok_spec_Write : FunOk Try.prog c_spec_Write := funOk (E := [c_spec_MemoryOk, c_spec_l8Copy, c_spec_l8Write]) (envOk_cons ok_spec_MemoryOk (envOk_cons ok_spec_l8Copy (envOk_cons ok_spec_l8Write (envOk_nil)))) mixd Try.func201 (pf := pf_spec_Write) (by kernel_rfl) fun ts K h => by
  obtain ⟨t0, t1, t2, t3, e0, h⟩ := as4_out h
  subst e0
  obtain ⟨m, e1, hq⟩ := arG_out rd_mem h
  clear h
  subst e1
  have h := hq
  clear hq
  obtain ⟨y, e1, hq⟩ := arG_out rd_word h
  clear h
  subst e1
  have h := hq
  clear hq
  obtain ⟨n, e1, hq⟩ := arC_out (rd_int .i64) h
  clear h
  subst e1
  have h := hq
  clear hq
  obtain ⟨w, e1, hq⟩ := arG_out rd_word h
  clear h
  subst e1
  have h := hq
  clear hq
  obtain ⟨hpre, h⟩ := chk_o h
  exact ⟨_, _, h, Nat.le_of_ble_eq_true (show Nat.ble 4 Try.f201.ntmps = true by kernel_rfl), _, run_spec_Write m y n w hpre⟩
end Go.Pi
