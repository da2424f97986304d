/- Contracts of functions, each out of its run by PI. No conditions. -/
import Derived.Test.YtojoiikibimomaaGreatDoorC7
namespace Go.Pi
open Go.Proofs
set_option linter.unusedVariables false
set_option linter.unusedSimpArgs false
set_option maxRecDepth 100000
attribute [local irreducible] iterN
/-! a core that is right stays so -/
theorem entryOk_iff {e : Entry} : entryOk e = true ↔ wordOk e.pc = true ∧ wordOk e.guess = true ∧ wordOk e.e.val = true ∧ wordOk e.e.next = true ∧ wordOk e.e.put = true ∧ (insOk e.x = true ∨ e.x = zI) ∧ (0 ≤ e.e.trap ∧ e.e.trap ≤ 5) ∧ (-1 ≤ e.e.r ∧ e.e.r ≤ 7) ∧ e.e.drop ≤ 4096 := by
  simp only [entryOk, Bool.and_eq_true, Bool.or_eq_true, decide_eq_true_eq, inR_t, and_assoc]
structure EffOk (e : Eff) : Prop where
  val : wordOk e.val = true
  next : wordOk e.next = true
  put : wordOk e.put = true
  trap : 0 ≤ e.trap ∧ e.trap ≤ 5
  r : -1 ≤ e.r ∧ e.r ≤ 7
  drop : e.drop ≤ 4096
theorem trapE_ok {t : Int} {pc : Word} (h : 0 ≤ t ∧ t ≤ 5) (hp : wordOk pc = true) : EffOk (trapE t pc) :=
  ⟨zW_ok, hp, zW_ok, h, (by decide : (-1 : Int) ≤ -1 ∧ (-1 : Int) ≤ 7), (by decide : (-1 : Int) ≤ 4096)⟩
theorem workE_tr {x : Inst} {pc a b got : Word} (h : ¬ (workE x pc a b got).trap = 0) : workE x pc a b got = trapE (workE x pc a b got).trap pc := by
  unfold workE at h ⊢
  repeat' (first | (exact rfl) | (exact absurd rfl h) | split at h)
  all_goals simp_all [trapE]
theorem insOk_r {x : Inst} (h : insOk x = true) : 0 ≤ x.r ∧ x.r ≤ 7 := by
  simp only [insOk, Bool.and_eq_true] at h
  exact fld_in h.1.1.1.1.2
theorem setsI_in {x : Inst} (h : insOk x = true ∨ x = zI) : -1 ≤ setsI x ∧ setsI x ≤ 7 := by
  rcases h with h | h
  · have := insOk_r h
    unfold setsI; split <;> omega
  · rw [h]; decide
theorem workE_ok {x : Inst} {pc a b got : Word} (hp : wordOk pc = true) (ha : wordOk a = true) (hb : wordOk b = true) (hg : wordOk got = true) (hx : insOk x = true ∨ x = zI) : EffOk (workE x pc a b got) := by
  obtain ⟨h1, h2⟩ := workE_spec (x := x) (pc := pc) ha hb hg
  by_cases h : (workE x pc a b got).trap = 0
  · have hs := h2 h
    have h0 := workE_0 h
    have hr := setsI_in hx
    refine ⟨hs.val.ok, hs.next.ok, hs.put.ok, h1, by rw [h0.1]; exact hr, ?_⟩
    by_cases hd : (workE x pc a b got).drop = -1
    · rw [hd]; decide
    · obtain ⟨q1, q2⟩ := hs.drop hd
      obtain ⟨t1, t2, _⟩ := tryW_0 q1
      have := keyOk_n (wordOk_is t1 t2)
      rw [q2]; omega
  · rw [workE_tr h]
    exact trapE_ok h1 hp
theorem coreOk_regs {c : Core} (h : coreOk c = true) : ∀ w ∈ c.s.regs, wordOk w = true := (stateOk_iff.1 (coreOk_iff.1 h).1).2.1
theorem coreOk_words {c : Core} (h : coreOk c = true) : ∀ w ∈ c.s.mem.words, wordOk w = true := (memoryOk_iff.1 (coreOk_mem h)).2.2
theorem valueC_ok {c : Core} (h : coreOk c = true) (i r : Int) : wordOk (valueC c i r).1 = true := by
  unfold valueC
  split
  · exact getD_ok (coreOk_regs h) _
  · rename_i q
    have := source_in c.rob i r
    split
    · exact (entryOk_iff.1 (getE_ok h (by omega))).2.2.1
    · exact zW_ok
theorem foundGo_ok {c : Core} (h : coreOk c = true) {y : Word} {n : Int} {got : Word} (hg : wordOk got = true) : ∀ k, k ≤ c.rob.length → wordOk (foundGo c.rob c.s.mem.gone y n got k) = true
  | 0, _ => hg
  | k + 1, hk => by
    unfold foundGo
    split
    · exact (filterW_fine (takenW_fine (entryOk_iff.1 (getE_ok h (show k < c.rob.length by omega))).2.2.2.2.1).1).1
    · exact foundGo_ok h hg k (by omega)
theorem foundC_ok {c : Core} (h : coreOk c = true) (i : Int) (y : Word) (n : Int) : wordOk (foundC c i y n).1 = true ∧ 0 ≤ (foundC c i y n).2 ∧ (foundC c i y n).2 ≤ 4 := by
  have hr := readM_in c.s.mem y n
  unfold foundC
  split
  · exact ⟨zW_ok, hr⟩
  · exact ⟨foundGo_ok h (readM_ok (coreOk_words h) _ _) _ (by omega), (by decide : (0 : Int) ≤ 0), (by decide : (0 : Int) ≤ 4)⟩
theorem memD_ok {c : Core} (h : coreOk c = true) (i : Int) (x : Inst) (a b : Word) : wordOk (memD c i x a b).1 = true ∧ 0 ≤ (memD c i x a b).2 ∧ (memD c i x a b).2 ≤ 4 := by
  unfold memD
  split
  · exact foundC_ok h _ _ _
  · split
    · exact ⟨zW_ok, writeC_in _ _ _ _⟩
    · exact ⟨zW_ok, (by decide : (0 : Int) ≤ 0), (by decide : (0 : Int) ≤ 4)⟩
theorem atE_ok {c : Core} (h : coreOk c = true) {i : Int} (h0 : 0 ≤ i) (h1 : i < c.rob.length) : entryOk (atE c i) = true := getE_ok h (by omega)
theorem doneE_ok {c : Core} (h : coreOk c = true) {i : Int} (h0 : 0 ≤ i) (h1 : i < c.rob.length) : EffOk (doneE c i) := by
  have he := entryOk_iff.1 (atE_ok h h0 h1)
  have hm := memD_ok h i (atE c i).x (argC c i (atE c i).x.a) (argC c i (atE c i).x.b)
  unfold doneE doneX
  split
  · exact trapE_ok ⟨hm.2.1, by have := hm.2.2; omega⟩ he.1
  · exact workE_ok he.1 (valueC_ok h _ _) (valueC_ok h _ _) hm.1 he.2.2.2.2.2.1
theorem putAt_ok {c : Core} (h : coreOk c = true) {i : Int} (h0 : 0 ≤ i) (h1 : i < c.rob.length) : ∀ e ∈ putAt c i, entryOk e = true := fun e he => by
  have hx := entryOk_iff.1 (atE_ok h h0 h1)
  have hd := doneE_ok h h0 h1
  rcases mem_set he with q | q
  · exact (coreOk_iff.1 h).2.2.1 e q
  · rw [q]
    exact entryOk_iff.2 ⟨hx.1, hx.2.1, hd.val, hd.next, hd.put, hx.2.2.2.2.2.1, hd.trap, hd.r, hd.drop⟩
theorem learnG_ok {g : List Int} (h : guessOk g = true) (pc nx : Word) : guessOk (learnG g pc nx) = true := by
  simp only [guessOk, Bool.and_eq_true, decide_eq_true_eq, List.all_eq_true] at h ⊢
  refine ⟨by rw [learnG_len]; exact h.1, fun x hx => ?_⟩
  unfold learnG at hx
  split at hx
  · rcases mem_set hx with q | q
    · exact h.2 x q
    · rw [q]; have := and65 nx.n; exact inR_t.2 ⟨by omega, by omega⟩
  · exact h.2 x hx
theorem guessW_ok (g : List Int) (pc : Word) : wordOk (guessW g pc) = true := by
  unfold guessW nextW
  split
  · exact (pointW_fine _ _).1
  · exact (pointW_fine _ _).1
theorem sweepM_ok {m : Mem} (h : memoryOk m = true) (n : Int) : memoryOk (sweepM m n) = true := by
  obtain ⟨h1, h2, h3⟩ := memoryOk_iff.1 h
  unfold sweepM
  rw [if_pos h]
  split
  · refine memoryOk_iff.2 ⟨by dsimp only; rw [List.length_set]; exact h1, h2, fun w hw => ?_⟩
    rcases mem_set hw with q | q
    · exact h3 w q
    · rw [q]; exact (filterW_fine (getD_ok h3 _)).1
  · exact h
theorem pullC_ok {l : List Inst} {c : Core} (h : coreOk c = true) : coreOk (pullC l c).1 = true := by
  obtain ⟨h1, h2, h3, h4, h5⟩ := coreOk_iff.1 h
  unfold pullC
  rw [if_neg (by rw [h]; decide)]
  split
  · exact h
  · rename_i q
    have hl : c.rob.length < 6 := Nat.lt_of_not_le fun e => q (.inr (.inl e))
    split
    · refine coreOk_iff.2 ⟨h1, by simp only [List.length_append, List.length_cons, List.length_nil]; omega, fun e he => ?_, h4, h5⟩
      rcases List.mem_append.1 he with he | he
      · exact h3 e he
      · rw [List.mem_singleton.1 he]
        have ht := trapE_ok (t := (fetchI l c.next).2) ⟨(fetchI_in4 l c.next).1, by have := (fetchI_in4 l c.next).2; omega⟩ h4
        exact entryOk_iff.2 ⟨h4, h4, ht.val, ht.next, ht.put, .inr rfl, ht.trap, ht.r, ht.drop⟩
    · rename_i q2
      have hf : (fetchI l c.next).2 = 0 := by omega
      refine coreOk_iff.2 ⟨h1, by simp only [List.length_append, List.length_cons, List.length_nil]; omega, fun e he => ?_, guessW_ok _ _, h5⟩
      rcases List.mem_append.1 he with he | he
      · exact h3 e he
      · rw [List.mem_singleton.1 he]
        exact entryOk_iff.2 ⟨h4, guessW_ok _ _, zW_ok, zW_ok, zW_ok, .inl (fetchI_ok hf), (by decide : (0 : Int) ≤ 0 ∧ (0 : Int) ≤ 5), (by decide : (-1 : Int) ≤ 0 ∧ (0 : Int) ≤ 7), (by decide : (0 : Int) ≤ 4096)⟩
theorem doC_ok {c : Core} {i : Int} (h : coreOk c = true) : coreOk (doC c i).1 = true := by
  obtain ⟨h1, h2, h3, h4, h5⟩ := coreOk_iff.1 h
  have hp := putAt_len c i
  unfold doC
  rw [if_neg (by rw [h]; decide)]
  split
  · exact h
  · rename_i q
    obtain ⟨_, i0, i1, _⟩ := readyC_in (c := c) (i := i) (by simpa using q)
    have ho := putAt_ok h i0 i1
    split
    · exact coreOk_iff.2 ⟨h1, by simp only [List.length_take]; omega, fun e he => ho e (List.mem_of_mem_take he), h4, h5⟩
    · split
      · exact coreOk_iff.2 ⟨h1, by simp only [List.length_take]; omega, fun e he => ho e (List.mem_of_mem_take he), (doneE_ok h i0 i1).next, h5⟩
      · exact coreOk_iff.2 ⟨h1, by dsimp only; omega, ho, h4, h5⟩
theorem commitC_ok {c : Core} (h : coreOk c = true) : coreOk (commitC c).1 = true := by
  obtain ⟨h1, h2, h3, h4, h5⟩ := coreOk_iff.1 h
  unfold commitC
  rw [if_neg (by rw [h]; decide)]
  split
  · exact h
  · rename_i q
    have hl : 0 < c.rob.length := Nat.pos_of_ne_zero fun e => q (.inl e)
    have he := entryOk_iff.1 (atE_ok h (i := 0) (by omega) (by omega))
    split
    · obtain ⟨r1, r2, r3, r4, r5⟩ := stateOk_iff.1 h1
      exact coreOk_iff.2 ⟨stateOk_iff.2 ⟨r1, r2, he.1, r4, he.2.2.2.2.2.2.1⟩, Nat.zero_le _, (fun e he => by cases he), h4, h5⟩
    · have hs := putE_ok (e := (atE c 0).e) h1 he.2.2.1 he.2.2.2.1 he.2.2.2.2.1
      split
      · exact coreOk_iff.2 ⟨hs, Nat.zero_le _, (fun e he => by cases he), he.2.2.2.1, learnG_ok h5 _ _⟩
      · exact coreOk_iff.2 ⟨hs, by simp only [List.length_drop]; omega, fun e hm => h3 e (List.mem_of_mem_drop hm), h4, learnG_ok h5 _ _⟩
theorem pickC_ok {l : List Inst} {c : Core} {p : Pick} (h : coreOk c = true) : coreOk (pickC l c p).1 = true := by
  obtain ⟨h1, h2, h3, h4, h5⟩ := coreOk_iff.1 h
  unfold pickC
  rw [if_neg (by rw [h]; decide)]
  split
  · exact pullC_ok h
  · split
    · exact doC_ok h
    · split
      · exact commitC_ok h
      · split
        · obtain ⟨r1, r2, r3, r4, r5⟩ := stateOk_iff.1 h1
          exact coreOk_iff.2 ⟨stateOk_iff.2 ⟨r1, r2, r3, sweepM_ok r4 _, r5⟩, h2, h3, h4, h5⟩
        · exact h
theorem coreNew_ok {s : State} (h : stateOk s = true) : coreOk (coreNew s) = true := by
  unfold coreNew
  rw [if_pos h]
  exact coreOk_iff.2 ⟨h, Nat.zero_le _, fun e he => (by cases he), (stateOk_iff.1 h).2.2.1, (by decide : guessOk guessNew = true)⟩
/-! what was begun -/
def dones (rob : List Entry) : Nat := (rob.filter (fun e => e.done)).length
theorem dones_le (rob : List Entry) : dones rob ≤ rob.length := List.length_filter_le _ _
theorem dones_app (a b : List Entry) : dones (a ++ b) = dones a + dones b := by unfold dones; rw [List.filter_append, List.length_append]
theorem dones_split (rob : List Entry) (k : Nat) : dones rob = dones (rob.take k) + dones (rob.drop k) := by rw [← dones_app, List.take_append_drop]
theorem dones_set {rob : List Entry} {k : Nat} (hk : k < rob.length) (h : (rob.getD k (FT.zero .entry)).done = false) {e : Entry} (he : e.done = true) : dones (rob.set k e) = dones rob + 1 := by
  have h1 : (rob.set k e) = rob.take k ++ e :: rob.drop (k + 1) := List.set_eq_take_append_cons_drop .. |>.trans (by rw [if_pos hk])
  have h2 : rob = rob.take k ++ rob.getD k (FT.zero .entry) :: rob.drop (k + 1) := by
    rw [List.getD_eq_getElem?_getD, List.getElem?_eq_getElem hk]
    show rob = rob.take k ++ rob[k] :: rob.drop (k + 1)
    rw [List.getElem_cons_drop, List.take_append_drop]
  have e1 : dones (e :: rob.drop (k + 1)) = dones (rob.drop (k + 1)) + 1 := by unfold dones; rw [List.filter_cons, if_pos he]; rfl
  have e2 : dones (rob.getD k (FT.zero .entry) :: rob.drop (k + 1)) = dones (rob.drop (k + 1)) := by unfold dones; rw [List.filter_cons, if_neg (by rw [h]; decide)]
  rw [h1, dones_app, e1]
  have := congrArg dones h2
  rw [dones_app, e2] at this
  omega
def orderGo (l : List Inst) : List Pick → Core → List Int
  | [], _ => []
  | p :: ps, c => (if (pickC l c p).2 = true ∧ p.kind = 3 then [-1] else if (pickC l c p).2 = true ∧ p.kind = 4 then [p.n] else []) ++ orderGo l ps (pickC l c p).1
structure Begun (k : Cost) (c : Core) (n : Nat) : Prop where
  ok : coreOk c = true
  all : k.pulled = k.kept + k.back + c.rob.length
  back : 0 ≤ k.back
  done : k.done ≤ k.kept + k.back + dones c.rob
  ord : k.kept + k.swept ≤ n
theorem doC_dones {c : Core} {i : Int} (h : coreOk c = true) (h2 : (doC c i).2 = true) : (dones c.rob : Int) + 1 ≤ dones (doC c i).1.rob + ((c.rob.length : Int) - (doC c i).1.rob.length) := by
  have hq : readyC c i = true := by
    cases hr : readyC c i with
    | true => rfl
    | false => rw [doC_nr h hr] at h2; cases h2
  obtain ⟨_, i0, i1, i2⟩ := readyC_in hq
  have hs := dones_set (rob := c.rob) (k := i.toNat) (by omega) i2 (e := ⟨(atE c i).pc, (atE c i).x, true, doneE c i, (atE c i).guess⟩) rfl
  have hs : dones (putAt c i) = dones c.rob + 1 := hs
  have hp := putAt_len c i
  have ht : (dones (putAt c i) : Int) ≤ dones ((putAt c i).take (i.toNat + 1)) + ((c.rob.length : Int) - ((putAt c i).take (i.toNat + 1)).length) := by
    have h3 := dones_split (putAt c i) (i.toNat + 1)
    have h4 := dones_le ((putAt c i).drop (i.toNat + 1))
    rw [List.length_drop] at h4
    rw [List.length_take]
    omega
  by_cases h3 : (doneE c i).trap = 0
  · by_cases h4 : (doneE c i).next = (atE c i).guess
    · rw [doC_0 h hq h3 h4]; dsimp only; omega
    · rw [doC_n h hq h3 h4]; dsimp only; omega
  · rw [doC_t h hq h3]; dsimp only; omega
theorem commitC_dones {c : Core} (h : coreOk c = true) (h2 : (commitC c).2 = true) :
    (dones c.rob : Int) ≤ dones (commitC c).1.rob + ((c.rob.length : Int) - (commitC c).1.rob.length) := by
  have hd := dones_le c.rob
  have h3 := dones_split c.rob 1
  have h4 := dones_le (c.rob.take 1)
  rw [List.length_take] at h4
  unfold commitC at h2 ⊢
  rw [if_neg (by rw [h]; decide)] at h2 ⊢
  split at h2
  · cases h2
  · rename_i q
    rw [if_neg q]
    have hl : 0 < c.rob.length := Nat.pos_of_ne_zero fun e => q (.inl e)
    split
    · simp only [List.length_nil, show dones [] = 0 from rfl]; omega
    · split
      · simp only [List.length_nil, show dones [] = 0 from rfl]; omega
      · simp only [List.length_drop]; omega
theorem begun_step {l : List Inst} {k : Cost} {c : Core} {n : Nat} (p : Pick) (h : Begun k c n) :
    Begun (costStep l c p k) (pickC l c p).1 (n + (if (pickC l c p).2 = true ∧ p.kind = 3 then [-1] else if (pickC l c p).2 = true ∧ p.kind = 4 then [p.n] else []).length) := by
  obtain ⟨h0, h1, h2, h3, h4⟩ := h
  have hok := pickC_ok (l := l) (p := p) h0
  cases hr : (pickC l c p).2 with
  | false =>
    rw [pickC_noop h0 hr] at hok ⊢
    rw [costStep_f hr]
    refine ⟨h0, h1, h2, h3, ?_⟩
    rw [if_neg (by simp), if_neg (by simp)]; simpa using h4
  | true =>
    obtain ⟨_, hk⟩ := pickC_yes hr
    rw [costStep_t hr]
    rcases hk with hk | hk | hk | hk
    · rw [pickC_1 h0 hk] at hr hok ⊢
      have hl : (pullC l c).1.rob.length = c.rob.length + 1 ∧ dones c.rob ≤ dones (pullC l c).1.rob := by
        unfold pullC at hr ⊢
        rw [if_neg (by rw [h0]; decide)] at hr ⊢
        split at hr
        · cases hr
        · rename_i q; rw [if_neg q]
          split
          · exact ⟨by simp, by rw [dones_app]; omega⟩
          · exact ⟨by simp, by rw [dones_app]; omega⟩
      rw [if_neg (by omega), if_neg (by omega)]
      unfold oneC; rw [if_pos hk]
      refine ⟨hok, ?_, ?_, ?_, ?_⟩ <;> (unfold addC; simp only [List.length_nil]; omega)
    · rw [pickC_2 h0 hk] at hr hok ⊢
      have hd := doC_dones h0 hr
      have hl := doC_less (i := p.n) h0
      rw [if_neg (by omega), if_neg (by omega)]
      unfold oneC; rw [if_neg (by omega), if_pos hk]
      refine ⟨hok, ?_, ?_, ?_, ?_⟩ <;> (unfold addC; simp only [List.length_nil]; omega)
    · rw [pickC_3 h0 hk] at hr hok ⊢
      have hd := commitC_dones h0 hr
      have hl := commitC_less h0 hr
      rw [if_pos ⟨rfl, hk⟩]
      unfold oneC; rw [if_neg (by omega), if_neg (by omega), if_pos hk]
      split <;> (refine ⟨hok, ?_, ?_, ?_, ?_⟩ <;> (unfold addC; simp only [List.length_singleton]; omega))
    · have hq : inR p.n 0 23 = true := by
        cases hq : inR p.n 0 23 with
        | true => rfl
        | false => rw [pickC_out h0 hk hq] at hr; cases hr
      rw [pickC_4 h0 hk hq] at hok ⊢
      rw [if_neg (by omega), if_pos ⟨rfl, hk⟩]
      unfold oneC; rw [if_neg (by omega), if_neg (by omega), if_neg (by omega)]
      refine ⟨hok, ?_, ?_, ?_, ?_⟩ <;> (unfold addC; simp only [List.length_singleton]; omega)
theorem begun_all {l : List Inst} : ∀ (ps : List Pick) {k : Cost} {c : Core} {n : Nat}, Begun k c n → Begun (costGo l ps c k) (coreGo l ps c) (n + (orderGo l ps c).length)
  | [], _, _, _, h => h
  | p :: ps, k, c, n, h => by
    have h2 := begun_all (l := l) ps (begun_step (l := l) p h)
    show Begun (costGo l ps (pickC l c p).1 (costStep l c p k)) (coreGo l ps (pickC l c p).1) (n + (_ ++ orderGo l ps (pickC l c p).1).length)
    rw [List.length_append, ← Nat.add_assoc]
    exact h2
theorem begun_new {s : State} (h : stateOk s = true) : Begun zC (coreNew s) 0 := by
  have hc : (coreNew s).rob = [] := by unfold coreNew; rw [if_pos h]
  refine ⟨coreNew_ok h, by rw [hc]; rfl, by decide, by rw [hc]; decide, by decide⟩

def notedC (p : Pick) : Int × Bool := if p.kind = 3 then (-1, true) else if p.kind = 4 then (p.n, true) else (0, false)
def coreRun (l : List Inst) (s : State) (ps : List Pick) : Core × List Int := if 600 < ps.length ∨ stateOk s = false then (zCore, []) else (coreGo l ps (coreNew s), orderGo l ps (coreNew s))
theorem coreRun_no {l : List Inst} {s : State} {ps : List Pick} (h : 600 < ps.length ∨ stateOk s = false) : coreRun l s ps = (zCore, []) := if_pos h
theorem coreRun_yes {l : List Inst} {s : State} {ps : List Pick} (h : ps.length ≤ 600) (h2 : stateOk s = true) : coreRun l s ps = (coreGo l ps (coreNew s), orderGo l ps (coreNew s)) := by
  unfold coreRun
  rw [if_neg]
  rintro (q | q)
  · omega
  · rw [h2] at q; cases q
theorem orderGo_len (l : List Inst) : ∀ (ps : List Pick) (c : Core), (orderGo l ps c).length ≤ ps.length
  | [], _ => Nat.le_refl _
  | p :: ps, c => by
    have := orderGo_len l ps (pickC l c p).1
    unfold orderGo
    rw [List.length_append, List.length_cons]
    split
    · simp only [List.length_singleton]; omega
    · split
      · simp only [List.length_singleton]; omega
      · simp only [List.length_nil]; omega
def oneO (l : List Inst) (c : Core) (p : Pick) : List Int := if (pickC l c p).2 = true ∧ (notedC p).2 = true then [(notedC p).1] else []
theorem orderGo_cons (l : List Inst) (p : Pick) (ps : List Pick) (c : Core) : orderGo l (p :: ps) c = oneO l c p ++ orderGo l ps (pickC l c p).1 := by
  show (if (pickC l c p).2 = true ∧ p.kind = 3 then [-1] else if (pickC l c p).2 = true ∧ p.kind = 4 then [p.n] else []) ++ _ = _
  congr 1
  unfold oneO notedC
  by_cases h3 : p.kind = 3
  · simp [h3]
  · by_cases h4 : p.kind = 4
    · simp [h4]
    · simp [h3, h4]
theorem order_drop {l : List Inst} {ps : List Pick} {i : Nat} {c : Core} (h : i < ps.length) : orderGo l (ps.drop i) c = oneO l c (ps.getD i (FT.zero .pick)) ++ orderGo l (ps.drop (i + 1)) (pickC l c (ps.getD i (FT.zero .pick))).1 ∧ coreGo l (ps.drop i) c = coreGo l (ps.drop (i + 1)) (pickC l c (ps.getD i (FT.zero .pick))).1 := by
  rw [List.drop_eq_getElem_cons h, List.getD_eq_getElem?_getD, List.getElem?_eq_getElem h]
  exact ⟨orderGo_cons _ _ _ _, rfl⟩

def pf_impl_noted : PF := ⟨[.t 2, .t 3], .seq (.reg [.s (.box 1 (.t 0)), .s (.mv 2 (.k (.v (.c (.int .i64 0))))), .s (.mv 3 (.k (.v (.c .ff))))]) (.seq (.seq (.reg [.s (.fa 4 (.t 1) 0), .s (.load 5 false 1 (.t 4))]) (.blk 0 (.seq (.reg [.s (.bin 7 .eql (.t 5) (.k (.v (.c (.int .i64 3))))), .s (.mv 6 (.t 7))]) (.cond (.t 6) (.seq (.reg [.s (.mv 2 (.k (.v (.c (.int .i64 (-1)))))), .s (.mv 3 (.k (.v (.c .tt))))]) (.ret)) (.seq (.reg [.s (.bin 9 .eql (.t 5) (.k (.v (.c (.int .i64 4))))), .s (.mv 8 (.t 9))]) (.cond (.t 8) (.seq (.reg [.s (.fa 10 (.t 1) 1), .s (.load 11 false 1 (.t 10)), .s (.mv 2 (.t 11)), .s (.mv 3 (.k (.v (.c .tt))))]) (.ret)) (.skip))))))) (.seq (.reg [.s (.mv 2 (.k (.v (.c (.int .i64 0))))), .s (.mv 3 (.k (.v (.c .ff))))]) (.ret)))⟩
def c_impl_noted : Fun := ⟨37, [], fun ts K => as1 ts fun t0 => arG pPickT t0 fun p => K (.tup [.c (.int .i64 (notedC p).1), .c (.bool (notedC p).2)]) []⟩
theorem run_impl_noted (p : Pick) : runK [] (0) [] pf_impl_noted [tG (p.tc [])] fun r o => r = .tup [.c (.int .i64 (notedC p).1), .c (.bool (notedC p).2)] ∧ o = [] := by
  conv => whnf
  repeat' (first | (refine sel_i (fun h => ?_) (fun h => ?_) <;> conv => whnf) | (refine chk_c ?_ ?_ <;> conv => whnf) | (refine And.intro ?_ rfl) | (refine And.intro ?_ ?_ <;> conv => whnf))
  all_goals (simp only [beq_iff_eq, beq_eq_false_iff_ne, ne_eq] at *)
  all_goals first
    | (unfold notedC; simp only [*, if_true, if_false, Int.reduceEq]; done)
    | trace_state
theorem ok_impl_noted : FunOk Tryz.prog c_impl_noted := funOk (E := []) (envOk_nil) mixd Tryz.func37 (pf := pf_impl_noted) (by kernel_rfl) fun ts K h => by
  obtain ⟨t0, e0, h⟩ := as1_out h
  subst e0
  obtain ⟨p, e1, hq⟩ := arG_out rd_pick h
  clear h
  subst e1
  have h := hq
  clear hq
  exact ⟨_, _, h, Nat.le_of_ble_eq_true (show Nat.ble 1 Tryz.f37.ntmps = true by kernel_rfl), _, run_impl_noted p⟩

def lb_impl_CoreRun_0 : PC := .seq (.reg [.s (.bin 31 .lss (.t 30) (.t 29))]) (.seq (.cond (.t 31) (.skip) (.exit 0)) (.seq (.blk 1 (.seq (.reg [.s (.ia 32 .pick (.t 28) (.t 30)), .s (.load 33 true 2 (.t 32)), .s (.alloc 11 [.int .i64 0, .int .i64 0]), .s (.store 2 (.t 11) (.t 33))]) (.seq (.reg [.s (.mv 35 (.t 0)), .s (.load 36 true 19 (.t 8)), .s (.load 37 true 2 (.t 11)), .s (.call (some 38) 26 [(.t 35), (.t 36), (.t 37)]), .s (.mv 34 (.t 38)), .s (.ext 39 (.t 34) 0), .s (.ext 40 (.t 34) 1), .s (.alloc 12 [.nils .word, .int .i64 0, .ff, .int .i64 0, .int .i64 0, .int .i64 0, .int .i64 0, .nils .word, .nils .bool, .int .i64 0, .nils .entry, .int .i64 0, .ff, .int .i64 0, .int .i64 0, .int .i64 0, .int .i64 0, .ff, .nils (.int .i64)]), .s (.store 19 (.t 12) (.t 39)), .s (.mv 13 (.t 40))]) (.seq (.reg [.s (.load 41 true 19 (.t 12)), .s (.store 19 (.t 8) (.t 41))]) (.seq (.reg [.s (.load 43 true 2 (.t 11)), .s (.call (some 44) 37 [(.t 43)]), .s (.mv 42 (.t 44)), .s (.ext 45 (.t 42) 0), .s (.ext 46 (.t 42) 1), .s (.mv 14 (.t 45)), .s (.mv 15 (.t 46))]) (.seq (.reg [.s (.mv 47 (.t 13)), .s (.mv 48 (.t 47)), .g 48 true (some 49) (.mv 49 (.t 15)), .s (.pick 50 (.t 48) (.t 49) (.k (.v (.c .ff))))]) (.cond (.t 50) (.reg [.s (.mv 51 (.t 9)), .s (.mv 52 (.t 14)), .s (.bs 53 (.int .i64) [(.t 52)]), .s (.app 54 (.int .i64) (.t 51) (.t 53)), .s (.mv 9 (.t 54))]) (.skip)))))))) (.reg [.s (.bin 55 .add (.t 30) (.k (.v (.c (.int .i64 1))))), .s (.mv 30 (.t 55))])))
def pf_impl_CoreRun : PF := ⟨[.c 6 true 19, .t 7], .seq (.reg [.s (.box 4 (.t 1)), .s (.alloc 6 [.nils .word, .int .i64 0, .ff, .int .i64 0, .int .i64 0, .int .i64 0, .int .i64 0, .nils .word, .nils .bool, .int .i64 0, .nils .entry, .int .i64 0, .ff, .int .i64 0, .int .i64 0, .int .i64 0, .int .i64 0, .ff, .nils (.int .i64)]), .s (.mv 7 (.k (.v (.c (.nils (.int .i64))))))]) (.seq (.seq (.reg [.s (.mv 16 (.t 2)), .s (.len 17 false (.t 16)), .s (.bin 18 .gtr (.t 17) (.k (.v (.c (.int .i64 600))))), .s (.mv 19 (.t 18)), .g 19 false (some 20) (.load 20 true 10 (.t 4)), .g 19 false (some 21) (.call (some 21) 36 [(.t 20)]), .g 19 false (some 22) (.bnot 22 (.t 21)), .s (.pick 23 (.t 19) (.k (.v (.c .tt))) (.t 22))]) (.cond (.t 23) (.seq (.reg [.s (.build 24 [.nils .word, .int .i64 0, .ff, .int .i64 0, .int .i64 0, .int .i64 0, .int .i64 0, .nils .word, .nils .bool, .int .i64 0, .nils .entry, .int .i64 0, .ff, .int .i64 0, .int .i64 0, .int .i64 0, .int .i64 0, .ff, .nils (.int .i64)] []), .s (.store 19 (.t 6) (.t 24)), .s (.mv 7 (.k (.v (.c (.nils (.int .i64))))))]) (.ret)) (.skip))) (.seq (.reg [.s (.load 25 true 10 (.t 4)), .s (.call (some 26) 25 [(.t 25)]), .s (.alloc 8 [.nils .word, .int .i64 0, .ff, .int .i64 0, .int .i64 0, .int .i64 0, .int .i64 0, .nils .word, .nils .bool, .int .i64 0, .nils .entry, .int .i64 0, .ff, .int .i64 0, .int .i64 0, .int .i64 0, .int .i64 0, .ff, .nils (.int .i64)]), .s (.store 19 (.t 8) (.t 26))]) (.seq (.reg [.s (.bs 27 (.int .i64) []), .s (.mv 9 (.t 27))]) (.seq (.seq (.reg [.s (.mv 28 (.t 2)), .s (.len 29 false (.t 28)), .s (.mv 30 (.k (.v (.c (.int .i64 0)))))]) (.blk 0 (.loop [0, 6, 8, 9, 28, 29, 30] lb_impl_CoreRun_0))) (.seq (.reg [.s (.load 56 true 19 (.t 8)), .s (.mv 57 (.t 9)), .s (.store 19 (.t 6) (.t 56)), .s (.mv 7 (.t 57))]) (.ret))))))⟩
def c_impl_CoreRun : Fun := ⟨15, [], fun ts K => as3 ts fun t0 t1 t2 => arC (pL .inst) t0 fun l => arG pStateT t1 fun s => arC (pL .pick) t2 fun ps => chk (l.length ≤ 2147483647 ∧ LState s 2147483647 ∧ ps.length ≤ 2147483647) (K (.tup [.g ((coreRun l s ps).1.tc true []), .c (tl true (.int .i64) (coreRun l s ps).2)]) [])⟩
theorem run_impl_CoreRun (l : List (FT.Ty .inst)) (s : State) (ps : List (FT.Ty .pick)) (hpre : l.length ≤ 2147483647 ∧ LState s 2147483647 ∧ ps.length ≤ 2147483647) : runK [c_impl_CoreNew, c_impl_CorePick, c_impl_StateOk, c_impl_noted] (ps.length + 1) [] pf_impl_CoreRun [tL false .inst l, tG (s.tc false []), tL false .pick ps] fun r o => r = .tup [.g ((coreRun l s ps).1.tc true []), .c (tl true (.int .i64) (coreRun l s ps).2)] ∧ o = [] := by
  obtain ⟨l0, l1, l2⟩ := hpre
  have hcl := coreNew_l l1
  conv => whnf
  repeat' (first | (refine sel_i (fun h => ?_) (fun h => ?_) <;> conv => whnf) | (refine chk_c ?_ ?_ <;> conv => whnf) | (refine And.intro ?_ rfl) | (refine And.intro ?_ ?_ <;> conv => whnf))
  all_goals (try simp only [etaKey, etaWord, etaMemory, etaState, Bool.not_eq_true', Bool.not_eq_false', decide_eq_true_eq, decide_eq_false_iff_not, gt_iff_lt] at *)
  all_goals first
    | (refine ⟨?_⟩; assumption)
    | (rw [coreRun_no (by first | exact Or.inr (by assumption) | exact Or.inl (by omega))]; rfl)
    | skip
  have hp600 : ps.length ≤ 600 := by omega
  rw [coreRun_yes hp600 (by assumption)]
  generalize coreNew s = c0 at *
  refine loop (α := Nat × Core × List Int) (fun ⟨i, c, o⟩ => ⟨[(0, .v (.c (.sl false .inst 0))), (6, .v (.c (.ptr 1 0))), (8, .v (.c (.ptr 2 0))), (9, .v (.c (.sl true (.int .i64) 8))), (28, .v (.c (.sl false .pick 9))), (29, .v (.c (.int .i64 (ps.length : Int)))), (30, .v (.c (.int .i64 (i : Int))))],
        [(9, some (.flat false .pick none ps)), (8, some (.flat true (.int .i64) none o)), (7, some (.flat true (.int .i64) none c.guesses)), (6, some (.flat true .entry none c.rob)), (5, some (.flat true .bool none c.s.mem.gone)), (4, some (.flat true .word none c.s.mem.words)), (3, some (.flat true .word none c.s.regs)), (2, some (.box true [.sl false .word 3, .int .i64 c.s.pc.n, .bool c.s.pc.is, .int .i64 c.s.pc.key.base, .int .i64 c.s.pc.key.top, .int .i64 c.s.pc.key.perms, .int .i64 c.s.pc.key.sealed, .sl false .word 4, .sl false .bool 5, .int .i64 c.s.trap, .sl false .entry 6, .int .i64 c.next.n, .bool c.next.is, .int .i64 c.next.key.base, .int .i64 c.next.key.top, .int .i64 c.next.key.perms, .int .i64 c.next.key.sealed, .bool c.stop, .sl false (.int .i64) 7])), (1, some (.box true [.nils .word, .int .i64 0, .ff, .int .i64 0, .int .i64 0, .int .i64 0, .int .i64 0, .nils .word, .nils .bool, .int .i64 0, .nils .entry, .int .i64 0, .ff, .int .i64 0, .int .i64 0, .int .i64 0, .int .i64 0, .ff, .nils (.int .i64)])), (0, some (.flat false .inst none l))], nums.tail.tail.tail.tail.tail.tail.tail.tail.tail.tail, [], false, []⟩)
    (fun q => q.1 ≤ ps.length ∧ LCore q.2.1 2147483647 ∧ q.2.2.length ≤ q.1 ∧ orderGo l ps c0 = q.2.2 ++ orderGo l (ps.drop q.1) q.2.1 ∧ coreGo l ps c0 = coreGo l (ps.drop q.1) q.2.1) (fun q => ps.length - q.1) (fun q R hI hR => ?_) (0, c0, []) _ ⟨by simp, hcl, by simp, rfl, rfl⟩ (by dsimp only; omega)
  obtain ⟨i, c, o⟩ := q
  obtain ⟨hi, hL, hO, hG, hG2⟩ := hI
  dsimp only at hi hL hO hG hG2 hR ⊢
  have w3 : IntKind.i64.wrap ((i : Int) + 1) = ((i + 1 : Nat) : Int) := by rw [wrap_id (by omega) (by omega)]; rfl
  conv => whnf
  repeat' (first | (refine sel_i (fun h => ?_) (fun h => ?_) <;> conv => whnf) | (refine chk_c ?_ ?_ <;> conv => whnf) | (refine And.intro ?_ rfl) | (refine And.intro ?_ ?_ <;> conv => whnf))
  all_goals (try simp only [etaKey, etaWord, etaInst, etaEff, etaEntry, etaMemory, etaState, etaCore, etaPick, w3, Int.toNat_natCast, decide_eq_true_eq, decide_eq_false_iff_not] at *)
  all_goals (have hd := fun h => order_drop (l := l) (ps := ps) (i := i) (c := c) h)
  all_goals generalize ps.getD i (FT.zero .pick) = p at *
  all_goals first
    | (refine ⟨?_⟩; first | omega | exact ⟨l0, hL⟩ | (simp only [List.length_cons, List.length_nil]; omega))
    | (rw [hG, hG2, List.drop_eq_nil_of_le (by omega)]; simp only [orderGo, List.append_nil]; rfl)
    | (obtain ⟨d1, d2⟩ := hd (by omega)
       rw [d1] at hG
       rw [d2] at hG2
       have e1 : oneO l c p = [(notedC p).1] := by unfold oneO; rw [if_pos ⟨by assumption, by assumption⟩]
       rw [e1] at hG
       refine hR (i + 1, (pickC l c p).1, o ++ [(notedC p).1]) ⟨by dsimp only; omega, pickC_l, by simp only [List.length_append, List.length_singleton]; omega, by rw [hG, List.append_assoc], hG2⟩ (by dsimp only; omega))
    | (obtain ⟨d1, d2⟩ := hd (by omega)
       rw [d1] at hG
       rw [d2] at hG2
       have e1 : oneO l c p = [] := by unfold oneO; rw [if_neg (fun q => by simp_all)]
       rw [e1] at hG
       refine hR (i + 1, (pickC l c p).1, o) ⟨by dsimp only; omega, pickC_l, by dsimp only; omega, by rw [hG, List.nil_append], hG2⟩ (by dsimp only; omega))
    | trace_state
theorem ok_impl_CoreRun : FunOk Tryz.prog c_impl_CoreRun := funOk (E := [c_impl_CoreNew, c_impl_CorePick, c_impl_StateOk, c_impl_noted]) (envOk_cons ok_impl_CoreNew (envOk_cons ok_impl_CorePick (envOk_cons ok_impl_StateOk (envOk_cons ok_impl_noted (envOk_nil))))) mixd Tryz.func15 (pf := pf_impl_CoreRun) (by kernel_rfl) fun ts K h => by
  obtain ⟨t0, t1, t2, e0, h⟩ := as3_out h
  subst e0
  obtain ⟨l, e1, hq⟩ := arC_out (rd_l .inst) h
  clear h
  subst e1
  have h := hq
  clear hq
  obtain ⟨s, e1, hq⟩ := arG_out rd_state h
  clear h
  subst e1
  have h := hq
  clear hq
  obtain ⟨ps, e1, hq⟩ := arC_out (rd_l .pick) h
  clear h
  subst e1
  have h := hq
  clear hq
  obtain ⟨hpre, h⟩ := chk_o h
  exact ⟨_, _, h, Nat.le_of_ble_eq_true (show Nat.ble 3 Tryz.f15.ntmps = true by kernel_rfl), _, run_impl_CoreRun l s ps hpre⟩

def pf_spec_l28Draw : PF := ⟨[.c 2 true 5], .seq (.reg [.s (.alloc 2 [.int .i64 0, .int .i64 0, .int .i64 0, .int .i64 0, .int .i64 0])]) (.seq (.reg [.s (.mv 5 (.t 0)), .s (.call (some 6) 66 [(.t 5), (.k (.v (.c (.int .i64 9))))]), .s (.mv 3 (.t 6))]) (.seq (.reg [.s (.mv 7 (.t 0)), .s (.call (some 8) 66 [(.t 7), (.k (.v (.c (.int .i64 9))))]), .s (.mv 4 (.t 8))]) (.seq (.reg [.s (.mv 9 (.t 3)), .s (.mv 10 (.t 4)), .s (.bin 11 .add (.t 9) (.t 10)), .s (.mv 12 (.t 3)), .s (.mv 13 (.t 4)), .s (.mv 14 (.t 0)), .s (.call (some 15) 66 [(.t 14), (.k (.v (.c (.int .i64 4))))]), .s (.mv 16 (.t 0)), .s (.call (some 17) 66 [(.t 16), (.k (.v (.c (.int .i64 3))))]), .s (.bin 18 .sub (.t 17) (.k (.v (.c (.int .i64 1))))), .s (.build 19 [.int .i64 0, .int .i64 0, .int .i64 0, .int .i64 0, .int .i64 0] [(0, 1, (.t 11)), (1, 1, (.t 12)), (2, 1, (.t 13)), (3, 1, (.t 15)), (4, 1, (.t 18))]), .s (.store 5 (.t 2) (.t 19))]) (.ret))))⟩
def c_spec_l28Draw : Fun := ⟨33, [true], fun ts K => as1 ts fun t0 => arQ pCurT t0 fun c => chk (CurOk c) (∀ (k : Cost) (d : Cur), (BndC k 100 ∧ CurOk d) → K (tG (k.tc [])) ([curOut d]))⟩
theorem run_spec_l28Draw (c : Cur) (hpre : CurOk c) {K : Tree → List Tree → Prop} (hK : ∀ (k : Cost) (d : Cur), (BndC k 100 ∧ CurOk d) → K (tG (k.tc [])) ([curOut d])) : runK [c_spec_l1Below] (0) [true] pf_spec_l28Draw [.v (.ptr true 0 (c.tc []))] K := by
  conv => whnf
  refine chk_i hpre ?_
  conv => whnf
  intro a d1 h1
  conv => whnf
  refine chk_i h1.2 ?_
  conv => whnf
  intro b d2 h2
  conv => whnf
  refine chk_i h2.2 ?_
  conv => whnf
  intro e d3 h3
  conv => whnf
  refine chk_i h3.2 ?_
  conv => whnf
  intro f d4 h4
  have q1 := h1.1
  have q2 := h2.1
  have q3 := h3.1
  have q4 := h4.1
  conv => whnf
  rw [wrap_id (n := a + b) (by omega) (by omega), wrap_id (n := f - 1) (by omega) (by omega)]
  exact hK ⟨a + b, a, b, e, f - 1⟩ d4 ⟨by unfold BndC; dsimp only; omega, h4.2⟩
theorem ok_spec_l28Draw : FunOk Tryz.prog c_spec_l28Draw := funOkR (E := [c_spec_l1Below]) (envOk_cons ok_spec_l1Below (envOk_nil)) mixd Tryz.func33 (pf := pf_spec_l28Draw) (by kernel_rfl) fun ts K h => by
  obtain ⟨t0, e0, h⟩ := as1_out h
  subst e0
  obtain ⟨c, e1, hq⟩ := arQ_out rd_cur h
  clear h
  subst e1
  have h := hq
  clear hq
  obtain ⟨hpre, h⟩ := chk_o h
  exact ⟨Nat.le_of_ble_eq_true (show Nat.ble 1 Tryz.f33.ntmps = true by kernel_rfl), _, run_spec_l28Draw c hpre h⟩

def pf_spec_DrawCostAdd : PF := ⟨[.c 2 true 5, .c 3 true 5], .seq (.reg [.s (.alloc 2 [.int .i64 0, .int .i64 0, .int .i64 0, .int .i64 0, .int .i64 0]), .s (.alloc 3 [.int .i64 0, .int .i64 0, .int .i64 0, .int .i64 0, .int .i64 0])]) (.seq (.reg [.s (.mv 6 (.t 0)), .s (.call (some 7) 32 [(.t 6)]), .s (.mv 4 (.t 7))]) (.seq (.reg [.s (.mv 8 (.t 4)), .s (.call (some 9) 33 [(.t 8)]), .s (.alloc 5 [.int .i64 0, .int .i64 0, .int .i64 0, .int .i64 0, .int .i64 0]), .s (.store 5 (.t 5) (.t 9))]) (.seq (.rgd [4] [.s (.load 10 true 5 (.t 5)), .s (.mv 11 (.t 4)), .s (.call (some 12) 33 [(.t 11)]), .s (.store 5 (.t 2) (.t 10)), .s (.store 5 (.t 3) (.t 12))] (.tk 0 (.tk 1 (.one 2 false (.one 3 true (.one 4 true (.done none))))))) (.ret))))⟩
def c_spec_DrawCostAdd : Fun := ⟨9, [], fun ts K => as1 ts fun t0 => arC (pL (.int .u8)) t0 fun code => chk (code.length ≤ 1048576) (∀ (a : Cost) (b : Cost), (BndC a 100 ∧ BndC b 100) → K (.tup [.g (a.tc []), .g (b.tc [])]) [])⟩
theorem run_spec_DrawCostAdd (code : List (FT.Ty (.int .u8))) (hpre : code.length ≤ 1048576) {K : Tree → List Tree → Prop} (hK : ∀ (a : Cost) (b : Cost), (BndC a 100 ∧ BndC b 100) → K (.tup [.g (a.tc []), .g (b.tc [])]) []) : runK [c_spec_l1New, c_spec_l28Draw] (0) [] pf_spec_DrawCostAdd [tL false (.int .u8) code] K := by
  conv => whnf
  repeat' (first | (refine sel_i (fun h => ?_) (fun h => ?_) <;> conv => whnf) | (refine chk_c ?_ ?_ <;> conv => whnf) | (refine And.intro ?_ rfl) | (refine And.intro ?_ ?_ <;> conv => whnf) | (intro x y z d hd; (try have g1 := And.left hd); (try have g2 := And.right hd); (try have g3 := And.left (And.right hd)); (try have g4 := And.right (And.right hd)); conv => whnf) | (intro x y d hd; (try have g1 := And.left hd); (try have g2 := And.right hd); (try have g3 := And.left (And.right hd)); (try have g4 := And.right (And.right hd)); conv => whnf) | (intro x d hd; (try have g1 := And.left hd); (try have g2 := And.right hd); (try have g3 := And.left (And.right hd)); (try have g4 := And.right (And.right hd)); conv => whnf) | (intro d hd; (try have g1 := And.left hd); (try have g2 := And.right hd); (try have g3 := And.left (And.right hd)); (try have g4 := And.right (And.right hd)); conv => whnf))
  all_goals first
    | (refine ⟨?_⟩; exact hpre)
    | (refine ⟨?_⟩; exact hd)
    | (refine ⟨?_⟩; exact hd.2)
    | (exact hK _ _ ⟨by assumption, hd.1⟩)
    | trace_state
theorem ok_spec_DrawCostAdd : FunOk Tryz.prog c_spec_DrawCostAdd := funOkR (E := [c_spec_l1New, c_spec_l28Draw]) (envOk_cons ok_spec_l1New (envOk_cons ok_spec_l28Draw (envOk_nil))) mixd Tryz.func9 (pf := pf_spec_DrawCostAdd) (by kernel_rfl) fun ts K h => by
  obtain ⟨t0, e0, h⟩ := as1_out h
  subst e0
  obtain ⟨code, e1, hq⟩ := arC_out (rd_l (.int .u8)) h
  clear h
  subst e1
  have h := hq
  clear hq
  obtain ⟨hpre, h⟩ := chk_o h
  exact ⟨Nat.le_of_ble_eq_true (show Nat.ble 1 Tryz.f9.ntmps = true by kernel_rfl), _, run_spec_DrawCostAdd code hpre h⟩

def pf_spec_DrawCostText : PF := ⟨[.c 2 true 5], .seq (.reg [.s (.alloc 2 [.int .i64 0, .int .i64 0, .int .i64 0, .int .i64 0, .int .i64 0])]) (.seq (.reg [.s (.mv 3 (.t 0)), .s (.call (some 4) 32 [(.t 3)]), .s (.call (some 5) 33 [(.t 4)]), .s (.store 5 (.t 2) (.t 5))]) (.ret))⟩
def c_spec_DrawCostText : Fun := ⟨10, [], fun ts K => as1 ts fun t0 => arC (pL (.int .u8)) t0 fun code => chk (code.length ≤ 1048576) (∀ (a : Cost), (BndC a 100) → K (tG (a.tc [])) [])⟩
theorem run_spec_DrawCostText (code : List (FT.Ty (.int .u8))) (hpre : code.length ≤ 1048576) {K : Tree → List Tree → Prop} (hK : ∀ (a : Cost), (BndC a 100) → K (tG (a.tc [])) []) : runK [c_spec_l1New, c_spec_l28Draw] (0) [] pf_spec_DrawCostText [tL false (.int .u8) code] K := by
  conv => whnf
  repeat' (first | (refine sel_i (fun h => ?_) (fun h => ?_) <;> conv => whnf) | (refine chk_c ?_ ?_ <;> conv => whnf) | (refine And.intro ?_ rfl) | (refine And.intro ?_ ?_ <;> conv => whnf) | (intro x y z d hd; (try have g1 := And.left hd); (try have g2 := And.right hd); (try have g3 := And.left (And.right hd)); (try have g4 := And.right (And.right hd)); conv => whnf) | (intro x y d hd; (try have g1 := And.left hd); (try have g2 := And.right hd); (try have g3 := And.left (And.right hd)); (try have g4 := And.right (And.right hd)); conv => whnf) | (intro x d hd; (try have g1 := And.left hd); (try have g2 := And.right hd); (try have g3 := And.left (And.right hd)); (try have g4 := And.right (And.right hd)); conv => whnf) | (intro d hd; (try have g1 := And.left hd); (try have g2 := And.right hd); (try have g3 := And.left (And.right hd)); (try have g4 := And.right (And.right hd)); conv => whnf))
  all_goals first
    | (refine ⟨?_⟩; exact hpre)
    | (refine ⟨?_⟩; exact hd)
    | (exact hK _ hd.1)
    | trace_state
theorem ok_spec_DrawCostText : FunOk Tryz.prog c_spec_DrawCostText := funOkR (E := [c_spec_l1New, c_spec_l28Draw]) (envOk_cons ok_spec_l1New (envOk_cons ok_spec_l28Draw (envOk_nil))) mixd Tryz.func10 (pf := pf_spec_DrawCostText) (by kernel_rfl) fun ts K h => by
  obtain ⟨t0, e0, h⟩ := as1_out h
  subst e0
  obtain ⟨code, e1, hq⟩ := arC_out (rd_l (.int .u8)) h
  clear h
  subst e1
  have h := hq
  clear hq
  obtain ⟨hpre, h⟩ := chk_o h
  exact ⟨Nat.le_of_ble_eq_true (show Nat.ble 1 Tryz.f10.ntmps = true by kernel_rfl), _, run_spec_DrawCostText code hpre h⟩

theorem BndC.inC {k : Cost} (h : BndC k 100) : InC k := by
  unfold BndC at h; unfold InC InI; omega
theorem costAdd_comm (a b : Cost) : costAdd a b = costAdd b a := by
  unfold costAdd
  rw [Int.add_comm a.pulled, Int.add_comm a.done, Int.add_comm a.kept, Int.add_comm a.back, Int.add_comm a.swept]
theorem coreRun_sz (l : List Inst) (s : State) (ps : List Pick) : (coreRun l s ps).2.length ≤ ps.length := by
  unfold coreRun
  split
  · exact Nat.zero_le _
  · exact orderGo_len _ _ _
theorem costs_law {l : List Inst} {s : State} {ps : List Pick} (h : (costOf l s ps).2 = true) : Begun (costOf l s ps).1 (coreRun l s ps).1 (coreRun l s ps).2.length := by
  have hq : stateOk s = true ∧ ps.length ≤ 600 := by
    unfold costOf at h
    split at h
    · assumption
    · cases h
  rw [costOf_yes hq.1 hq.2, coreRun_yes hq.2 hq.1]
  have := begun_all (l := l) ps (begun_new hq.1)
  rw [Nat.zero_add] at this
  exact this
theorem costs_no {l : List Inst} {s : State} {ps : List Pick} (h : (costOf l s ps).2 = false) : (costOf l s ps).1 = ⟨0, 0, 0, 0, 0⟩ := by
  unfold costOf at h ⊢
  split at h
  · cases h
  · rename_i q; rw [if_neg q]
theorem beqB (b : ByteArray) : (b == b) = true := by rw [beq_toListBytes]; simp
end Go.Pi
