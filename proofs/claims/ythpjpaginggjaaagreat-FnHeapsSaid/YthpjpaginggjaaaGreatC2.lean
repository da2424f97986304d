/- Contracts of functions, each out of its run by PI. No conditions. -/
import Derived.Test.YthpjpaginggjaaaGreatC1
namespace Go.Pi
open Go.Proofs
set_option linter.unusedVariables false
set_option linter.unusedSimpArgs false
set_option maxRecDepth 100000
attribute [local irreducible] iterN
def allR (f : Nat → Bool) (n : Nat) : Bool := (List.range n).all f
theorem allR_yes {f : Nat → Bool} {i : Nat} (h : allR f i = true) (h2 : f i = true) : allR f (i + 1) = true := by simp only [allR, List.range_succ, List.all_append, List.all_cons, List.all_nil, h2, Bool.and_true]; exact h
theorem allR_no {f : Nat → Bool} {i n : Nat} (h : i < n) (h2 : f i = false) : allR f n = false := by
  unfold allR
  rw [Bool.eq_false_iff]
  intro hh
  have := List.all_eq_true.1 hh i (by simpa using h)
  rw [h2] at this; cases this
theorem allR_iff {f : Nat → Bool} {n : Nat} : allR f n = true ↔ ∀ c, c < n → f c = true := by simp [allR]
def cnt (l : List Span) (c : Nat) : Nat := l.countP (fun s => inS s c)
def heapOk (h : Heap) : Bool := memoryOk h.mem && spansOk h.live && spansOk h.waits && allR (fun c => decide (cnt h.live c + cnt h.waits c ≤ 1) && (h.mem.gone.getD c false == decide (0 < cnt h.waits c))) 24
theorem markedGo_len (l : List Span) : ∀ (n i : Nat) (u : List Bool), (markedGo l n i u).2.length = u.length
  | 0, _, _ => rfl
  | n + 1, i, u => by
    unfold markedGo
    split
    · split
      · rw [markedGo_len l n (i + 1), markRun_len]
      · rw [markRun_len]
    · rfl
theorem bool_ext {a b : Bool} (h : a = true ↔ b = true) : a = b := by cases a <;> cases b <;> simp_all
theorem markRun_spec : ∀ (n a : Nat) (u : List Bool), u.length = 24 → a + n ≤ 24 →
    ((markRun n a u).1 = true ↔ ∀ c, a ≤ c → c < a + n → u.getD c false = false) ∧ ((markRun n a u).1 = true → ∀ c, c < 24 → (markRun n a u).2.getD c false = (u.getD c false || (decide (a ≤ c) && decide (c < a + n))))
  | 0, a, u, hu, _ => by
    refine ⟨⟨fun _ c h1 h2 => by omega, fun _ => rfl⟩, fun _ c hc => ?_⟩
    have : (decide (a ≤ c) && decide (c < a + 0)) = false := by
      rw [Bool.eq_false_iff]; intro h; simp only [Bool.and_eq_true, decide_eq_true_eq] at h; omega
    rw [this, Bool.or_false]; rfl
  | n + 1, a, u, hu, ha => by
    unfold markRun
    by_cases e : u.getD a false = true
    · rw [if_pos e]
      refine ⟨⟨fun h => (by cases h), fun h => ?_⟩, fun h => (by cases h)⟩
      rw [h a (Nat.le_refl _) (by omega)] at e; cases e
    · rw [if_neg e]
      obtain ⟨h1, h2⟩ := markRun_spec n (a + 1) (u.set a true) (by simpa using hu) (by omega)
      have hset : ∀ c, c < 24 → (u.set a true).getD c false = if a = c then true else u.getD c false := fun c hc => getD_set _ _ _ _ _ (by omega)
      refine ⟨⟨fun h c hc hc2 => ?_, fun h => h1.2 fun c hc hc2 => ?_⟩, fun h c hc => ?_⟩
      · by_cases e2 : a = c
        · subst e2; simpa using e
        · have := h1.1 h c (by omega) (by omega)
          rw [hset c (by omega), if_neg e2] at this
          exact this
      · rw [hset c (by omega), if_neg (by omega)]
        exact h c (by omega) (by omega)
      · rw [h2 h c hc, hset c hc]
        by_cases e2 : a = c
        · subst e2
          rw [if_pos rfl, decide_eq_true (Nat.le_refl a), decide_eq_true (show a < a + (n + 1) by omega)]; simp
        · rw [if_neg e2, decide_eq_decide.2 (show a + 1 ≤ c ↔ a ≤ c by omega), decide_eq_decide.2 (show c < a + 1 + n ↔ c < a + (n + 1) by omega)]
theorem inS_nat {s : Span} (h : spanOk s = true) (c : Nat) : inS s c = (decide (s.at_.toNat ≤ c) && decide (c < s.at_.toNat + s.len.toNat)) := by
  simp only [spanOk, Bool.and_eq_true, inR_t] at h
  unfold inS inR
  rw [decide_eq_decide.2 (show s.at_ ≤ (c : Int) ↔ s.at_.toNat ≤ c by omega), decide_eq_decide.2 (show (c : Int) ≤ s.at_ + s.len - 1 ↔ c < s.at_.toNat + s.len.toNat by omega)]
theorem spanChk_ok {l : List Span} {i : Nat} (h : spanChk l i = true) : spanOk (l.getD i (FT.zero .span)) = true := by
  simp only [spanChk, Bool.and_eq_true] at h; exact h.1
theorem drop_getD {α : Type} {l : List α} {i : Nat} (z : α) (h : i < l.length) : l.drop i = l.getD i z :: l.drop (i + 1) := by
  have e : l.getD i z = l[i] := by simp [List.getD_eq_getElem?_getD, h]
  rw [List.drop_eq_getElem_cons h, e]
theorem cnt_cons (s : Span) (l : List Span) (c : Nat) : cnt (s :: l) c = (if inS s c then 1 else 0) + cnt l c := by
  simp only [cnt, List.countP_cons]; omega
theorem markedGo_spec (l : List Span) : ∀ (n i : Nat) (u : List Bool), n = l.length - i → u.length = 24 →
    ((markedGo l n i u).1 = true ↔ (∀ j, i ≤ j → j < l.length → spanChk l j = true) ∧ ∀ c, c < 24 → (if u.getD c false then 1 else 0) + cnt (l.drop i) c ≤ 1) ∧
    ((markedGo l n i u).1 = true → ∀ c, c < 24 → (markedGo l n i u).2.getD c false = (u.getD c false || decide (0 < cnt (l.drop i) c)))
  | 0, i, u, hn, hu => by
    have hd : l.drop i = [] := List.drop_eq_nil_of_le (by omega)
    refine ⟨⟨fun _ => ⟨fun j h1 h2 => by omega, fun c _ => ?_⟩, fun _ => rfl⟩, fun _ c hc => ?_⟩
    · rw [hd]; simp only [cnt, List.countP_nil]; split <;> omega
    · rw [hd]; simp [cnt, markedGo]
  | n + 1, i, u, hn, hu => by
    have hlt : i < l.length := by omega
    have hd := drop_getD (FT.zero .span) hlt
    unfold markedGo
    by_cases hc : spanChk l i = true
    · rw [if_pos hc]
      have hok := spanChk_ok hc
      have hin := inS_nat hok
      have hb : (l.getD i (FT.zero .span)).at_.toNat + (l.getD i (FT.zero .span)).len.toNat ≤ 24 := by
        simp only [spanOk, Bool.and_eq_true, inR_t] at hok; omega
      rw [hd]
      generalize l.getD i (FT.zero .span) = s at *
      obtain ⟨m1, m2⟩ := markRun_spec s.len.toNat s.at_.toNat u hu hb
      have ml := markRun_len s.len.toNat s.at_.toNat u
      generalize markRun s.len.toNat s.at_.toNat u = r at *
      by_cases hr : r.1 = true
      · rw [if_pos hr]
        obtain ⟨g1, g2⟩ := markedGo_spec l n (i + 1) r.2 (by omega) (by omega)
        have hr2 := m2 hr
        have hfree := m1.1 hr
        have hsum : ∀ c, c < 24 → ((if r.2.getD c false then 1 else 0) + cnt (l.drop (i + 1)) c = (if u.getD c false then 1 else 0) + cnt (s :: l.drop (i + 1)) c) := fun c hc24 => by
          rw [cnt_cons, hr2 c hc24, hin c]
          by_cases e : s.at_.toNat ≤ c ∧ c < s.at_.toNat + s.len.toNat
          · rw [hfree c e.1 e.2, decide_eq_true e.1, decide_eq_true e.2]; simp
          · have : (decide (s.at_.toNat ≤ c) && decide (c < s.at_.toNat + s.len.toNat)) = false := by rw [Bool.eq_false_iff]; simp; omega
            rw [this]; simp
        refine ⟨⟨fun h => ?_, fun h => g1.2 ⟨fun j h1 h2 => h.1 j (by omega) h2, fun c hc24 => by rw [hsum c hc24]; exact h.2 c hc24⟩⟩, fun h c hc24 => ?_⟩
        · obtain ⟨a1, a2⟩ := g1.1 h
          refine ⟨fun j h1 h2 => ?_, fun c hc24 => by rw [← hsum c hc24]; exact a2 c hc24⟩
          by_cases e : j = i
          · rw [e]; exact hc
          · exact a1 j (by omega) h2
        · rw [g2 h c hc24, hr2 c hc24, cnt_cons, hin c]
          cases u.getD c false <;> cases (decide (s.at_.toNat ≤ c) && decide (c < s.at_.toNat + s.len.toNat)) <;> simp <;> omega
      · rw [if_neg hr]
        refine ⟨⟨fun h => absurd h hr, fun h => absurd (m1.2 fun c h1 h2 => ?_) hr⟩, fun h => absurd h hr⟩
        have := h.2 c (by omega)
        rw [cnt_cons, hin c, decide_eq_true h1, decide_eq_true h2] at this
        cases e : u.getD c false with
        | false => rfl
        | true => rw [e] at this; simp at this; omega
    · rw [if_neg hc]
      refine ⟨⟨fun h => (by cases h), fun h => absurd (h.1 i (Nat.le_refl _) hlt) hc⟩, fun h => (by cases h)⟩
theorem spansOk_iff {l : List Span} : spansOk l = true ↔ ∀ j, j < l.length → spanChk l j = true := by simp [spansOk, okTo]
theorem spansOk_mem {l : List Span} (h : spansOk l = true) : ∀ s ∈ l, spanOk s = true := fun s hs => by
  obtain ⟨i, hi, rfl⟩ := List.getElem_of_mem hs
  have := spanChk_ok (spansOk_iff.1 h i hi)
  rw [show l.getD i (FT.zero .span) = l[i] by simp [List.getD_eq_getElem?_getD, hi]] at this
  exact this
theorem markedF_spec (l : List Span) :
    ((markedF (List.replicate 24 false) l).1 = true ↔ spansOk l = true ∧ ∀ c, c < 24 → cnt l c ≤ 1) ∧
    ((markedF (List.replicate 24 false) l).1 = true → ∀ c, c < 24 → (markedF (List.replicate 24 false) l).2.getD c false = decide (0 < cnt l c)) := by
  obtain ⟨h1, h2⟩ := markedGo_spec l l.length 0 (List.replicate 24 false) (by simp) (by simp)
  refine ⟨⟨fun h => ?_, fun h => h1.2 ⟨fun j _ hj => spansOk_iff.1 h.1 j hj, fun c hc => ?_⟩⟩, fun h c hc => ?_⟩
  · obtain ⟨a1, a2⟩ := h1.1 h
    refine ⟨spansOk_iff.2 fun j hj => a1 j (Nat.zero_le _) hj, fun c hc => ?_⟩
    have := a2 c hc
    rw [rep_getD hc] at this
    simpa using this
  · rw [rep_getD hc]; simpa using h.2 c hc
  · have := h2 h c hc
    rw [rep_getD hc, Bool.false_or] at this
    exact this
theorem ownRun_spec (s : Span) (hs : spanOk s = true) : ∀ (n c : Nat) (u : List Int), n = 24 - c → u.length = 24 → s.at_ ≤ c →
    ∀ j, j < 24 → (ownRun s n c u).getD j 0 = if c ≤ j ∧ inS s j = true then IntKind.i64.wrap (u.getD j 0 + 1) else u.getD j 0
  | 0, c, u, hn, hu, hc => fun j hj => by
    rw [if_neg (by omega)]; rfl
  | n + 1, c, u, hn, hu, hc => fun j hj => by
    have hok := hs
    simp only [spanOk, Bool.and_eq_true, inR_t] at hok
    unfold ownRun
    rw [wrap_id (n := (c : Int) - s.at_) (by omega) (by omega)]
    have hin : inS s j = true ↔ s.at_ ≤ j ∧ (j : Int) ≤ s.at_ + s.len - 1 := by unfold inS; exact inR_t
    by_cases e : (c : Int) - s.at_ < s.len
    · rw [decide_eq_true e, if_pos rfl, ownRun_spec s hs n (c + 1) _ (by omega) (by simpa using hu) (by omega) j hj, getD_set _ _ _ _ _ (by omega)]
      by_cases e2 : c = j
      · subst e2
        rw [if_pos rfl, if_neg (by omega), if_pos ⟨Nat.le_refl _, hin.2 (by omega)⟩]
      · rw [if_neg e2]
        by_cases e3 : c + 1 ≤ j ∧ inS s j = true
        · rw [if_pos e3, if_pos ⟨by omega, e3.2⟩]
        · rw [if_neg e3, if_neg (fun h => e3 ⟨by omega, h.2⟩)]
    · rw [decide_eq_false e, if_neg (by decide), if_neg (fun h => by have := hin.1 h.2; omega)]
theorem ownOne_spec {s : Span} (hs : spanOk s = true) {u : List Int} (hu : u.length = 24) {j : Nat} (hj : j < 24) : (ownOne u s).getD j 0 = if inS s j = true then IntKind.i64.wrap (u.getD j 0 + 1) else u.getD j 0 := by
  have hok := hs
  simp only [spanOk, Bool.and_eq_true, inR_t] at hok
  unfold ownOne
  rw [ownRun_spec s hs _ _ u (by omega) hu (by omega) j hj]
  have hin : inS s j = true → s.at_ ≤ j := fun h => by unfold inS at h; exact (inR_t.1 h).1
  by_cases e : inS s j = true
  · rw [if_pos e, if_pos ⟨by have := hin e; omega, e⟩]
  · rw [if_neg e, if_neg (fun h => e h.2)]
theorem owners_go : ∀ (l : List Span) (u : List Int) (K : Nat), (∀ s ∈ l, spanOk s = true) → u.length = 24 → (∀ j, j < 24 → 0 ≤ u.getD j 0 ∧ u.getD j 0 ≤ K) → K + l.length ≤ 1000000000 →
    ∀ j, j < 24 → (l.foldl ownOne u).getD j 0 = u.getD j 0 + (cnt l j : Int)
  | [], u, K, _, _, _, _ => fun j hj => by simp [cnt]
  | s :: l, u, K, hl, hu, hk, hK => fun j hj => by
    have hs := hl s (by simp)
    have ho : ∀ j, j < 24 → (ownOne u s).getD j 0 = u.getD j 0 + (if inS s j then 1 else 0) := fun j hj => by
      rw [ownOne_spec hs hu hj]
      have := hk j hj
      split
      · simp only [List.length_cons] at hK; exact wrap_id (by omega) (by omega)
      · omega
    rw [List.foldl_cons, owners_go l (ownOne u s) (K + 1) (fun x hx => hl x (by simp [hx])) (by unfold ownOne; rw [ownRun_len]; exact hu) (fun j hj => by
      rw [ho j hj]; have := hk j hj; split <;> omega) (by simp only [List.length_cons] at hK; omega) j hj, ho j hj, cnt_cons]
    split <;> omega
theorem owners_spec {l : List Span} (h : ∀ s ∈ l, spanOk s = true) (hl : l.length ≤ 100000000) {j : Nat} (hj : j < 24) : (owners l).getD j 0 = (cnt l j : Int) := by
  unfold owners
  rw [owners_go l _ 0 h (by simp) (fun j hj => by rw [rep_getD hj]; omega) (by omega) j hj, rep_getD hj]
  omega
theorem owners_len (l : List Span) : (owners l).length = 24 := by
  have key : ∀ (l : List Span) (u : List Int), (l.foldl ownOne u).length = u.length := fun l => by
    induction l with
    | nil => intro u; rfl
    | cons s l ih => intro u; rw [List.foldl_cons, ih]; unfold ownOne; rw [ownRun_len]
  unfold owners; rw [key]; simp
theorem inRaw_eq {s : Span} (hs : spanOk s = true) (c : Nat) : inRaw s c = inS s c := by
  simp only [spanOk, Bool.and_eq_true, inR_t] at hs
  unfold inRaw inS
  rw [wrap_id (n := s.at_ + s.len) (by omega) (by omega), wrap_id (by omega) (by omega)]
theorem inL_eq {l : List Span} (h : ∀ s ∈ l, spanOk s = true) (c : Nat) : inL l c = decide (0 < cnt l c) := by
  unfold inL cnt
  rw [Bool.eq_iff_iff, List.any_eq_true, decide_eq_true_eq, List.countP_pos_iff]
  constructor
  · rintro ⟨s, hs, e⟩; exact ⟨s, hs, by rw [inRaw_eq (h s hs)] at e; exact e⟩
  · rintro ⟨s, hs, e⟩; exact ⟨s, hs, by rw [inRaw_eq (h s hs)]; exact e⟩
theorem cnt_app (a b : List Span) (c : Nat) : cnt (a ++ b) c = cnt a c + cnt b c := by simp [cnt]
def heapOkI (h : Heap) : Bool := memoryOk h.mem && (markedF (List.replicate 24 false) h.waits).1 && (markedF (List.replicate 24 false) h.live).1 &&
  allR (fun c => !((markedF (List.replicate 24 false) h.waits).2.getD c false && (markedF (List.replicate 24 false) h.live).2.getD c false) && ((markedF (List.replicate 24 false) h.waits).2.getD c false == h.mem.gone.getD c false)) 24
def heapOkS (h : Heap) : Bool := memoryOk h.mem && spansOk h.live && spansOk h.waits && allR (fun c => decide ((owners (h.live ++ h.waits)).getD c 0 ≤ 1) && (h.mem.gone.getD c false == inL h.waits c)) 24
theorem heapOkI_eq (h : Heap) : heapOkI h = heapOk h := by
  obtain ⟨w1, w2⟩ := markedF_spec h.waits
  obtain ⟨l1, l2⟩ := markedF_spec h.live
  apply bool_ext
  unfold heapOkI heapOk
  simp only [Bool.and_eq_true, allR_iff]
  constructor
  · rintro ⟨⟨⟨hm, hw⟩, hl⟩, hc⟩
    refine ⟨⟨⟨hm, (l1.1 hl).1⟩, (w1.1 hw).1⟩, fun c hc24 => ?_⟩
    have h1 := (hc c hc24).1
    have h2 := (hc c hc24).2
    rw [w2 hw c hc24] at h1 h2
    rw [l2 hl c hc24] at h1
    have := (l1.1 hl).2 c hc24
    have := (w1.1 hw).2 c hc24
    simp only [Bool.not_eq_true', Bool.and_eq_false_iff, decide_eq_false_iff_not, beq_iff_eq] at h1 h2
    exact ⟨decide_eq_true (by omega), by rw [h2]; simp⟩
  · rintro ⟨⟨⟨hm, hl⟩, hw⟩, hc⟩
    have hb : ∀ c, c < 24 → cnt h.live c + cnt h.waits c ≤ 1 := fun c hc24 => by simpa using (hc c hc24).1
    have hl1 := l1.2 ⟨hl, fun c hc24 => by have := hb c hc24; omega⟩
    have hw1 := w1.2 ⟨hw, fun c hc24 => by have := hb c hc24; omega⟩
    refine ⟨⟨⟨hm, hw1⟩, hl1⟩, fun c hc24 => ?_⟩
    rw [w2 hw1 c hc24, l2 hl1 c hc24]
    have h2 := (hc c hc24).2
    have := hb c hc24
    simp only [beq_iff_eq] at h2
    refine ⟨?_, by rw [h2]; simp⟩
    simp only [Bool.not_eq_true', Bool.and_eq_false_iff, decide_eq_false_iff_not]; omega
theorem heapOkS_eq {h : Heap} (hl : LHeap h 1048576) : heapOkS h = heapOk h := by
  apply bool_ext
  unfold heapOkS heapOk
  simp only [Bool.and_eq_true, allR_iff]
  have key : spansOk h.live = true → spansOk h.waits = true → ∀ c, c < 24 → (decide ((owners (h.live ++ h.waits)).getD c 0 ≤ 1) = decide (cnt h.live c + cnt h.waits c ≤ 1) ∧ inL h.waits c = decide (0 < cnt h.waits c)) := fun a b c hc => by
    refine ⟨?_, inL_eq (spansOk_mem b) c⟩
    rw [owners_spec (fun s hs => by rcases List.mem_append.1 hs with h | h; · exact spansOk_mem a s h
                                    · exact spansOk_mem b s h) (by rw [List.length_append]; have := hl.2.1; have := hl.2.2; omega) hc, cnt_app]
    exact decide_eq_decide.2 (by omega)
  constructor
  · rintro ⟨⟨⟨hm, a⟩, b⟩, hc⟩
    exact ⟨⟨⟨hm, a⟩, b⟩, fun c hc24 => by rw [← (key a b c hc24).1, ← (key a b c hc24).2]; exact hc c hc24⟩
  · rintro ⟨⟨⟨hm, a⟩, b⟩, hc⟩
    exact ⟨⟨⟨hm, a⟩, b⟩, fun c hc24 => by rw [(key a b c hc24).1, (key a b c hc24).2]; exact hc c hc24⟩

def lb_spec_HeapOk_0 : PC := .seq (.seq (.reg [.s (.mv 23 (.t 4)), .s (.bin 24 .lss (.t 23) (.k (.v (.c (.int .i64 24)))))]) (.cond (.t 24) (.skip) (.exit 0))) (.seq (.blk 1 (.seq (.rgd [] [.s (.mv 27 (.t 3)), .s (.mv 28 (.t 4)), .s (.ia 29 (.int .i64) (.t 27) (.t 28)), .s (.load 30 false 1 (.t 29)), .s (.bin 31 .gtr (.t 30) (.k (.v (.c (.int .i64 1))))), .s (.mv 32 (.t 31)), .g 32 false (some 33) (.fa 33 (.t 1) 0), .g 32 false (some 34) (.fa 34 (.t 33) 1), .g 32 false (some 35) (.load 35 false 1 (.t 34)), .g 32 false (some 36) (.mv 36 (.t 4)), .g 32 false (some 37) (.ia 37 .bool (.t 35) (.t 36)), .g 32 false (some 38) (.load 38 false 1 (.t 37)), .g 32 false (some 39) (.fa 39 (.t 1) 3), .g 32 false (some 40) (.load 40 false 1 (.t 39)), .g 32 false (some 41) (.mv 41 (.t 4)), .g 32 false (some 42) (.call (some 42) 47 [(.t 40), (.t 41)]), .g 32 false (some 43) (.eqs 43 false [.b] true (.t 38) (.t 42)), .s (.pick 44 (.t 32) (.k (.v (.c .tt))) (.t 43))] (.tk 0 (.tk 1 (.tk 2 (.tk 3 (.tk 4 (.tk 5 (.tk 6 (.tk 7 (.tk 8 (.tk 9 (.tk 10 (.tk 11 (.tk 12 (.tk 13 (.tk 14 (.one 15 false (.tk 16 (.tk 17 (.done none)))))))))))))))))))) (.cond (.t 44) (.seq (.reg [.s (.mv 2 (.k (.v (.c .ff))))]) (.ret)) (.skip)))) (.reg [.s (.mv 25 (.t 4)), .s (.bin 26 .add (.t 25) (.k (.v (.c (.int .i64 1))))), .s (.mv 4 (.t 26))]))
def pf_spec_HeapOk : PF := ⟨[.t 2], .seq (.reg [.s (.box 1 (.t 0)), .s (.mv 2 (.k (.v (.c .ff))))]) (.seq (.seq (.reg [.s (.fa 5 (.t 1) 0), .s (.load 6 true 2 (.t 5)), .s (.call (some 7) 53 [(.t 6)]), .s (.bnot 8 (.t 7)), .s (.mv 9 (.t 8)), .g 9 false (some 10) (.fa 10 (.t 1) 2), .g 9 false (some 11) (.load 11 false 1 (.t 10)), .g 9 false (some 12) (.call (some 12) 54 [(.t 11)]), .g 9 false (some 13) (.bnot 13 (.t 12)), .s (.pick 14 (.t 9) (.k (.v (.c .tt))) (.t 13)), .s (.mv 15 (.t 14)), .g 15 false (some 16) (.fa 16 (.t 1) 3), .g 15 false (some 17) (.load 17 false 1 (.t 16)), .g 15 false (some 18) (.call (some 18) 54 [(.t 17)]), .g 15 false (some 19) (.bnot 19 (.t 18)), .s (.pick 20 (.t 15) (.k (.v (.c .tt))) (.t 19))]) (.cond (.t 20) (.seq (.reg [.s (.mv 2 (.k (.v (.c .ff))))]) (.ret)) (.skip))) (.seq (.reg [.s (.load 21 true 4 (.t 1)), .s (.call (some 22) 35 [(.t 21)]), .s (.mv 3 (.t 22))]) (.seq (.seq (.reg [.s (.mv 4 (.k (.v (.c (.int .i64 0)))))]) (.blk 0 (.loop [1, 3, 4] lb_spec_HeapOk_0))) (.seq (.reg [.s (.mv 2 (.k (.v (.c .tt))))]) (.ret)))))⟩
def c_spec_HeapOk : Fun := ⟨19, [], fun ts K => as1 ts fun t0 => arG pHeapT t0 fun t => chk (LHeap t 1048576) (K (tB (heapOk t)) [])⟩
theorem run_spec_HeapOk (t : Heap) (hpre : LHeap t 1048576) : runK [c_spec_l23Owners, c_spec_l23In, c_spec_MemoryOk, c_spec_l23Spans] (30) [] pf_spec_HeapOk [tG (t.tc false [])] fun r o => r = tB (heapOk t) ∧ o = [] := by
  rw [← heapOkS_eq hpre]
  have l2 := hpre.2.1
  have l3 := hpre.2.2
  conv => whnf
  repeat' (first | (refine sel_i (fun h => ?_) (fun h => ?_) <;> conv => whnf) | (refine chk_c ?_ ?_ <;> conv => whnf) | (refine And.intro ?_ rfl) | (refine And.intro ?_ ?_ <;> conv => whnf))
  all_goals (try simp only [etaMemory, etaHeap, Bool.not_eq_true', Bool.not_eq_false'] at *)
  all_goals first
    | (refine ⟨?_⟩; assumption)
    | (refine ⟨?_⟩; omega)
    | (simp only [heapOkS, *, Bool.false_and, Bool.and_false]; done)
    | skip
  rename_i h1 h2
  have hm : memoryOk t.mem = true := by assumption
  obtain ⟨m1, m2, m3⟩ := memoryOk_n hm
  have hol := owners_len (t.live ++ t.waits)
  have hh : heapOkS t = allR (fun c => decide ((owners (t.live ++ t.waits)).getD c 0 ≤ 1) && (t.mem.gone.getD c false == inL t.waits c)) 24 := by
    simp only [heapOkS, *, Bool.true_and]
  rw [hh]
  clear hh
  generalize owners (t.live ++ t.waits) = ow at *
  refine loop (α := Nat) (fun c => ⟨[(1, .v (.c (.ptr 0 0))), (3, .v (.c (.sl false (.int .i64) 5))), (4, .v (.c (.int .i64 (c : Int))))],
        [(5, some (.flat true (.int .i64) none ow)), (4, some (.flat false .span none t.waits)), (3, some (.flat false .span none t.live)), (2, some (.flat false .bool none t.mem.gone)), (1, some (.flat false .word none t.mem.words)), (0, some (.box true [.sl false .word 1, .sl false .bool 2, .sl false .span 3, .sl false .span 4]))], nums.tail.tail.tail.tail.tail.tail, [], false, []⟩)
      (fun c => c ≤ 24 ∧ allR (fun c => decide (ow.getD c 0 ≤ 1) && (t.mem.gone.getD c false == inL t.waits c)) c = true) (fun c => 24 - c) (fun c R hI hR => ?_) 0 _ ⟨by simp, rfl⟩ (by omega)
  obtain ⟨hc, hx⟩ := hI
  conv => whnf
  repeat' (first | (refine sel_i (fun h => ?_) (fun h => ?_) <;> conv => whnf) | (refine chk_c ?_ ?_ <;> conv => whnf) | (refine And.intro ?_ rfl) | (refine And.intro ?_ ?_ <;> conv => whnf))
  all_goals (try simp only [etaMemory, etaHeap, Int.toNat_natCast, Bool.not_eq_true', Bool.not_eq_false', decide_eq_true_eq, decide_eq_false_iff_not] at *)
  all_goals first
    | (refine ⟨?_⟩; omega)
    | skip
  · have h' : ow.getD c 0 > 1 := h
    rw [allR_no (i := c) (by omega) (by rw [decide_eq_false (show ¬ ow.getD c 0 ≤ 1 by omega)]; rfl)]
  · have h' : (t.mem.gone.getD c false == inL t.waits c) = false := h
    rw [allR_no (i := c) (by omega) (by rw [h', Bool.and_false])]
  · rename_i g1 g2
    have h' : (t.mem.gone.getD c false == inL t.waits c) = true := h
    have g' : ¬ ow.getD c 0 > 1 := g2
    rw [wrap_id (n := (c : Int) + 1) (by omega) (by omega)]
    exact hR (c + 1) ⟨by omega, allR_yes hx (by rw [decide_eq_true (show ow.getD c 0 ≤ 1 by omega), h']; rfl)⟩ (by omega)
  · rw [show 24 = c by omega, hx]
theorem ok_spec_HeapOk : FunOk Tryz.prog c_spec_HeapOk := funOk (E := [c_spec_l23Owners, c_spec_l23In, c_spec_MemoryOk, c_spec_l23Spans]) (envOk_cons ok_spec_l23Owners (envOk_cons ok_spec_l23In (envOk_cons ok_spec_MemoryOk (envOk_cons ok_spec_l23Spans (envOk_nil))))) mixd Tryz.func19 (pf := pf_spec_HeapOk) (by kernel_rfl) fun ts K h => by
  obtain ⟨t0, e0, h⟩ := as1_out h
  subst e0
  obtain ⟨t, e1, hq⟩ := arG_out rd_heap h
  clear h
  subst e1
  have h := hq
  clear hq
  obtain ⟨hpre, h⟩ := chk_o h
  exact ⟨_, _, h, Nat.le_of_ble_eq_true (show Nat.ble 1 Tryz.f19.ntmps = true by kernel_rfl), _, run_spec_HeapOk t hpre⟩

def lb_impl_HeapOk_0 : PC := .seq (.reg [.s (.bin 30 .lss (.t 29) (.t 28))]) (.seq (.cond (.t 30) (.skip) (.exit 0)) (.seq (.blk 1 (.seq (.reg [.s (.mv 31 (.t 29)), .s (.ia 32 .bool (.t 27) (.t 29)), .s (.load 33 false 1 (.t 32)), .s (.mv 5 (.t 31)), .s (.mv 6 (.t 33))]) (.seq (.reg [.s (.mv 34 (.t 6)), .s (.mv 35 (.t 34)), .g 35 true (some 36) (.mv 36 (.t 4)), .g 35 true (some 37) (.mv 37 (.t 5)), .g 35 true (some 38) (.ia 38 .bool (.t 36) (.t 37)), .g 35 true (some 39) (.load 39 false 1 (.t 38)), .s (.pick 40 (.t 35) (.t 39) (.k (.v (.c .ff)))), .s (.mv 41 (.t 40)), .g 41 false (some 42) (.mv 42 (.t 6)), .g 41 false (some 43) (.fa 43 (.t 1) 0), .g 41 false (some 44) (.fa 44 (.t 43) 1), .g 41 false (some 45) (.load 45 false 1 (.t 44)), .g 41 false (some 46) (.mv 46 (.t 5)), .g 41 false (some 47) (.ia 47 .bool (.t 45) (.t 46)), .g 41 false (some 48) (.load 48 false 1 (.t 47)), .g 41 false (some 49) (.eqs 49 false [.b] true (.t 42) (.t 48)), .s (.pick 50 (.t 41) (.k (.v (.c .tt))) (.t 49))]) (.cond (.t 50) (.seq (.reg [.s (.mv 2 (.k (.v (.c .ff))))]) (.ret)) (.skip))))) (.reg [.s (.bin 51 .add (.t 29) (.k (.v (.c (.int .i64 1))))), .s (.mv 29 (.t 51))])))
def pf_impl_HeapOk : PF := ⟨[.t 2], .seq (.reg [.s (.box 1 (.t 0)), .s (.mv 2 (.k (.v (.c .ff))))]) (.seq (.rgd [] [.s (.mkS 7 .bool (.k (.v (.c (.int .i64 24))))), .s (.mkS 8 .bool (.k (.v (.c (.int .i64 24))))), .s (.mv 3 (.t 7)), .s (.mv 4 (.t 8))] (.alt 0 false (.tk 2 (.one 1 true (.tk 3 (.done (some [1, 3, 4]))))) (.alt 1 false (.one 0 true (.tk 2 (.tk 3 (.done (some [1, 3, 4]))))) (.nil)))) (.seq (.seq (.reg [.s (.fa 9 (.t 1) 0), .s (.load 10 true 2 (.t 9)), .s (.call (some 11) 51 [(.t 10)]), .s (.bnot 12 (.t 11)), .s (.mv 13 (.t 12)), .g 13 false (some 14) (.mv 14 (.t 3)), .g 13 false (some 15) (.fa 15 (.t 1) 3), .g 13 false (some 16) (.load 16 false 1 (.t 15)), .g 13 false (some 17) (.call (some 17) 52 [(.t 14), (.t 16)]), .g 13 false (some 18) (.bnot 18 (.t 17)), .s (.pick 19 (.t 13) (.k (.v (.c .tt))) (.t 18)), .s (.mv 20 (.t 19)), .g 20 false (some 21) (.mv 21 (.t 4)), .g 20 false (some 22) (.fa 22 (.t 1) 2), .g 20 false (some 23) (.load 23 false 1 (.t 22)), .g 20 false (some 24) (.call (some 24) 52 [(.t 21), (.t 23)]), .g 20 false (some 25) (.bnot 25 (.t 24)), .s (.pick 26 (.t 20) (.k (.v (.c .tt))) (.t 25))]) (.cond (.t 26) (.seq (.reg [.s (.mv 2 (.k (.v (.c .ff))))]) (.ret)) (.skip))) (.seq (.seq (.reg [.s (.mv 27 (.t 3)), .s (.len 28 false (.t 27)), .s (.mv 29 (.k (.v (.c (.int .i64 0)))))]) (.blk 0 (.loop [1, 4, 27, 28, 29] lb_impl_HeapOk_0))) (.seq (.reg [.s (.mv 2 (.k (.v (.c .tt))))]) (.ret)))))⟩
def c_impl_HeapOk : Fun := ⟨18, [], fun ts K => as1 ts fun t0 => arG pHeapT t0 fun t => chk (LHeap t 1048576) (K (tB (heapOk t)) [])⟩
theorem run_impl_HeapOk (t : Heap) (hpre : LHeap t 1048576) : runK [c_impl_MemoryOk, c_impl_marked] (30) [] pf_impl_HeapOk [tG (t.tc false [])] fun r o => r = tB (heapOk t) ∧ o = [] := by
  rw [← heapOkI_eq]
  have l2 := hpre.2.1
  have l3 := hpre.2.2
  have lm : LMem t.mem 2147483647 := (hpre.mono (by decide)).1
  have hwl : (markedF (List.replicate 24 false) t.waits).2.length = 24 := by unfold markedF; rw [markedGo_len]; simp
  have hll : (markedF (List.replicate 24 false) t.live).2.length = 24 := by unfold markedF; rw [markedGo_len]; simp
  have hmi : heapOkI t = (memoryOk t.mem && (markedF (List.replicate 24 false) t.waits).1 && (markedF (List.replicate 24 false) t.live).1 && allR (fun c => !((markedF (List.replicate 24 false) t.waits).2.getD c false && (markedF (List.replicate 24 false) t.live).2.getD c false) && ((markedF (List.replicate 24 false) t.waits).2.getD c false == t.mem.gone.getD c false)) 24) := rfl
  rw [hmi]
  clear hmi
  conv => whnf
  repeat' (first | (refine sel_i (fun h => ?_) (fun h => ?_) <;> conv => whnf) | (refine chk_c ?_ ?_ <;> conv => whnf) | (refine And.intro ?_ rfl) | (refine And.intro ?_ ?_ <;> conv => whnf))
  all_goals (try simp only [etaMemory, etaHeap, Bool.not_eq_true', Bool.not_eq_false', show Int.toNat 24 = 24 from rfl, show FT.zero .bool = false from rfl, List.length_replicate] at *)
  all_goals generalize markedF (List.replicate 24 false) t.waits = W at *
  all_goals generalize markedF (List.replicate 24 false) t.live = L at *
  all_goals first
    | (refine ⟨?_⟩; assumption)
    | (refine ⟨?_⟩; omega)
    | (refine ⟨?_⟩; exact ⟨trivial, trivial⟩)
    | (refine ⟨?_⟩; exact ⟨by omega, trivial⟩)
    | (simp only [*, Bool.false_and, Bool.and_false]; done)
    | skip
  have hm : memoryOk t.mem = true := by assumption
  obtain ⟨m1, m2, m3⟩ := memoryOk_n hm
  rename_i g1 g2
  rw [hm, g2, h, Bool.true_and, Bool.true_and, Bool.true_and]
  refine loop (α := Nat) (fun c => ⟨[(1, .v (.c (.ptr 0 0))), (4, .v (.c (.sl true .bool 5))), (27, .v (.c (.sl true .bool 6))), (28, .v (.c (.int .i64 (W.2.length : Int)))), (29, .v (.c (.int .i64 (c : Int))))],
        [(6, some (.flat true .bool none W.2)), (5, some (.flat true .bool none L.2)), (4, some (.flat false .span none t.waits)), (3, some (.flat false .span none t.live)), (2, some (.flat false .bool none t.mem.gone)), (1, some (.flat false .word none t.mem.words)), (0, some (.box true [.sl false .word 1, .sl false .bool 2, .sl false .span 3, .sl false .span 4]))], nums.tail.tail.tail.tail.tail.tail.tail, [], false, []⟩)
      (fun c => c ≤ 24 ∧ allR (fun c => !(W.2.getD c false && L.2.getD c false) && (W.2.getD c false == t.mem.gone.getD c false)) c = true) (fun c => 24 - c) (fun c R hI hR => ?_) 0 _ ⟨by simp, rfl⟩ (by omega)
  obtain ⟨hc, hx⟩ := hI
  conv => whnf
  repeat' (first | (refine sel_i (fun h => ?_) (fun h => ?_) <;> conv => whnf) | (refine chk_c ?_ ?_ <;> conv => whnf) | (refine And.intro ?_ rfl) | (refine And.intro ?_ ?_ <;> conv => whnf))
  all_goals (try simp only [etaMemory, etaHeap, show FT.zero .bool = false from rfl, Int.toNat_natCast, Bool.not_eq_true', Bool.not_eq_false', decide_eq_true_eq, decide_eq_false_iff_not] at *)
  all_goals first
    | (refine ⟨?_⟩; omega)
    | (rw [allR_no (i := c) (by omega) (by rw [h, Bool.and_false])]; done)
    | (rw [allR_no (i := c) (by omega) (by simp only [*]; rfl)]; done)
    | (rw [wrap_id (n := (c : Int) + 1) (by omega) (by omega)]
       exact hR (c + 1) ⟨by omega, allR_yes hx (by rw [h, Bool.and_true]; simp only [*]; rfl)⟩ (by omega))
    | (rw [show 24 = c by omega, hx]; done)
    | (rw [show 24 = c by omega]; rw [hx]; done)
    | (rw [show 24 = c by omega, hx]; done)
    | trace_state
theorem ok_impl_HeapOk : FunOk Tryz.prog c_impl_HeapOk := funOk (E := [c_impl_MemoryOk, c_impl_marked]) (envOk_cons ok_impl_MemoryOk (envOk_cons ok_impl_marked (envOk_nil))) mixd Tryz.func18 (pf := pf_impl_HeapOk) (by kernel_rfl) fun ts K h => by
  obtain ⟨t0, e0, h⟩ := as1_out h
  subst e0
  obtain ⟨t, e1, hq⟩ := arG_out rd_heap h
  clear h
  subst e1
  have h := hq
  clear hq
  obtain ⟨hpre, h⟩ := chk_o h
  exact ⟨_, _, h, Nat.le_of_ble_eq_true (show Nat.ble 1 Tryz.f18.ntmps = true by kernel_rfl), _, run_impl_HeapOk t hpre⟩

def plainW (n : Int) : Word := ⟨andI n 65535, false, ⟨0, 0, 0, 0⟩⟩
def gonB (g : List Bool) (w : Word) : Bool := w.is && inR w.key.base 0 (g.length - 1) && g.getD w.key.base.toNat false
def filterW (g : List Bool) (w : Word) : Word := if gonB g w then plainW w.n else w

def pf_spec_Plain : PF := ⟨[.c 2 true 6], .seq (.reg [.s (.alloc 2 [.int .i64 0, .ff, .int .i64 0, .int .i64 0, .int .i64 0, .int .i64 0])]) (.seq (.reg [.s (.mv 3 (.t 0)), .s (.bin 4 .and (.t 3) (.k (.v (.c (.int .i64 65535))))), .s (.build 5 [.int .i64 0, .ff, .int .i64 0, .int .i64 0, .int .i64 0, .int .i64 0] [(0, 1, (.t 4))]), .s (.store 6 (.t 2) (.t 5))]) (.ret))⟩
def c_spec_Plain : Fun := ⟨48, [], fun ts K => as1 ts fun t0 => arC (pI .i64) t0 fun n => K (tG ((plainW n).tc [])) []⟩
theorem run_spec_Plain (n : Int) : runK [] (0) [] pf_spec_Plain [tI .i64 n] fun r o => r = tG ((plainW n).tc []) ∧ o = [] := by
  conv => whnf
  repeat' (first
    | exact rfl
    | exact trivial
    | (refine sel_i (fun h => ?_) (fun h => ?_) <;> conv => whnf)
    | (refine chk_c ?_ ?_ <;> conv => whnf)
    | (refine And.intro ?_ ?_ <;> conv => whnf))
theorem ok_spec_Plain : FunOk Tryz.prog c_spec_Plain := funOk (E := []) (envOk_nil) mixd Tryz.func48 (pf := pf_spec_Plain) (by kernel_rfl) fun ts K h => by
  obtain ⟨t0, e0, h⟩ := as1_out h
  subst e0
  obtain ⟨n, e1, hq⟩ := arC_out (rd_int .i64) h
  clear h
  subst e1
  have h := hq
  clear hq
  exact ⟨_, _, h, Nat.le_of_ble_eq_true (show Nat.ble 1 Tryz.f48.ntmps = true by kernel_rfl), _, run_spec_Plain n⟩

def pf_impl_Plain : PF := ⟨[.c 2 true 6], .seq (.reg [.s (.alloc 2 [.int .i64 0, .ff, .int .i64 0, .int .i64 0, .int .i64 0, .int .i64 0])]) (.seq (.reg [.s (.mv 3 (.t 0)), .s (.bin 4 .and (.t 3) (.k (.v (.c (.int .i64 65535))))), .s (.build 5 [.int .i64 0, .ff, .int .i64 0, .int .i64 0, .int .i64 0, .int .i64 0] [(0, 1, (.t 4))]), .s (.store 6 (.t 2) (.t 5))]) (.ret))⟩
def c_impl_Plain : Fun := ⟨65, [], fun ts K => as1 ts fun t0 => arC (pI .i64) t0 fun n => K (tG ((plainW n).tc [])) []⟩
theorem run_impl_Plain (n : Int) : runK [] (0) [] pf_impl_Plain [tI .i64 n] fun r o => r = tG ((plainW n).tc []) ∧ o = [] := by
  conv => whnf
  repeat' (first
    | exact rfl
    | exact trivial
    | (refine sel_i (fun h => ?_) (fun h => ?_) <;> conv => whnf)
    | (refine chk_c ?_ ?_ <;> conv => whnf)
    | (refine And.intro ?_ ?_ <;> conv => whnf))
theorem ok_impl_Plain : FunOk Tryz.prog c_impl_Plain := funOk (E := []) (envOk_nil) mixd Tryz.func65 (pf := pf_impl_Plain) (by kernel_rfl) fun ts K h => by
  obtain ⟨t0, e0, h⟩ := as1_out h
  subst e0
  obtain ⟨n, e1, hq⟩ := arC_out (rd_int .i64) h
  clear h
  subst e1
  have h := hq
  clear hq
  exact ⟨_, _, h, Nat.le_of_ble_eq_true (show Nat.ble 1 Tryz.f65.ntmps = true by kernel_rfl), _, run_impl_Plain n⟩

def pf_spec_Bare : PF := ⟨[.c 2 true 6], .seq (.reg [.s (.box 1 (.t 0)), .s (.alloc 2 [.int .i64 0, .ff, .int .i64 0, .int .i64 0, .int .i64 0, .int .i64 0])]) (.seq (.reg [.s (.fa 3 (.t 1) 0), .s (.load 4 false 1 (.t 3)), .s (.call (some 5) 48 [(.t 4)]), .s (.store 6 (.t 2) (.t 5))]) (.ret))⟩
def c_spec_Bare : Fun := ⟨73, [], fun ts K => as1 ts fun t0 => arG pWordT t0 fun w => K (tG ((plainW w.n).tc [])) []⟩
theorem run_spec_Bare (w : Word) : runK [c_spec_Plain] (0) [] pf_spec_Bare [tG (w.tc [])] fun r o => r = tG ((plainW w.n).tc []) ∧ o = [] := by
  conv => whnf
  repeat' (first
    | exact rfl
    | exact trivial
    | (refine sel_i (fun h => ?_) (fun h => ?_) <;> conv => whnf)
    | (refine chk_c ?_ ?_ <;> conv => whnf)
    | (refine And.intro ?_ ?_ <;> conv => whnf))
theorem ok_spec_Bare : FunOk Tryz.prog c_spec_Bare := funOk (E := [c_spec_Plain]) (envOk_cons ok_spec_Plain (envOk_nil)) mixd Tryz.func73 (pf := pf_spec_Bare) (by kernel_rfl) fun ts K h => by
  obtain ⟨t0, e0, h⟩ := as1_out h
  subst e0
  obtain ⟨w, e1, hq⟩ := arG_out rd_word h
  clear h
  subst e1
  have h := hq
  clear hq
  exact ⟨_, _, h, Nat.le_of_ble_eq_true (show Nat.ble 1 Tryz.f73.ntmps = true by kernel_rfl), _, run_spec_Bare w⟩

def pf_impl_Bare : PF := ⟨[.c 2 true 6], .seq (.reg [.s (.box 1 (.t 0)), .s (.alloc 2 [.int .i64 0, .ff, .int .i64 0, .int .i64 0, .int .i64 0, .int .i64 0])]) (.seq (.reg [.s (.fa 3 (.t 1) 0), .s (.load 4 false 1 (.t 3)), .s (.call (some 5) 65 [(.t 4)]), .s (.store 6 (.t 2) (.t 5))]) (.ret))⟩
def c_impl_Bare : Fun := ⟨72, [], fun ts K => as1 ts fun t0 => arG pWordT t0 fun w => K (tG ((plainW w.n).tc [])) []⟩
theorem run_impl_Bare (w : Word) : runK [c_impl_Plain] (0) [] pf_impl_Bare [tG (w.tc [])] fun r o => r = tG ((plainW w.n).tc []) ∧ o = [] := by
  conv => whnf
  repeat' (first
    | exact rfl
    | exact trivial
    | (refine sel_i (fun h => ?_) (fun h => ?_) <;> conv => whnf)
    | (refine chk_c ?_ ?_ <;> conv => whnf)
    | (refine And.intro ?_ ?_ <;> conv => whnf))
theorem ok_impl_Bare : FunOk Tryz.prog c_impl_Bare := funOk (E := [c_impl_Plain]) (envOk_cons ok_impl_Plain (envOk_nil)) mixd Tryz.func72 (pf := pf_impl_Bare) (by kernel_rfl) fun ts K h => by
  obtain ⟨t0, e0, h⟩ := as1_out h
  subst e0
  obtain ⟨w, e1, hq⟩ := arG_out rd_word h
  clear h
  subst e1
  have h := hq
  clear hq
  exact ⟨_, _, h, Nat.le_of_ble_eq_true (show Nat.ble 1 Tryz.f72.ntmps = true by kernel_rfl), _, run_impl_Bare w⟩

def pf_spec_Filter : PF := ⟨[.c 4 true 6], .seq (.reg [.s (.box 2 (.t 0)), .s (.box 3 (.t 1)), .s (.alloc 4 [.int .i64 0, .ff, .int .i64 0, .int .i64 0, .int .i64 0, .int .i64 0])]) (.seq (.seq (.reg [.s (.fa 5 (.t 3) 1), .s (.load 6 false 1 (.t 5)), .s (.mv 7 (.t 6)), .g 7 true (some 8) (.fa 8 (.t 3) 2), .g 7 true (some 9) (.fa 9 (.t 8) 0), .g 7 true (some 10) (.load 10 false 1 (.t 9)), .g 7 true (some 11) (.fa 11 (.t 2) 1), .g 7 true (some 12) (.load 12 false 1 (.t 11)), .g 7 true (some 13) (.len 13 false (.t 12)), .g 7 true (some 14) (.bin 14 .sub (.t 13) (.k (.v (.c (.int .i64 1))))), .g 7 true (some 15) (.call (some 15) 34 [(.t 10), (.k (.v (.c (.int .i64 0)))), (.t 14)]), .s (.pick 16 (.t 7) (.t 15) (.k (.v (.c .ff)))), .s (.mv 17 (.t 16)), .g 17 true (some 18) (.fa 18 (.t 2) 1), .g 17 true (some 19) (.load 19 false 1 (.t 18)), .g 17 true (some 20) (.fa 20 (.t 3) 2), .g 17 true (some 21) (.fa 21 (.t 20) 0), .g 17 true (some 22) (.load 22 false 1 (.t 21)), .g 17 true (some 23) (.ia 23 .bool (.t 19) (.t 22)), .g 17 true (some 24) (.load 24 false 1 (.t 23)), .s (.pick 25 (.t 17) (.t 24) (.k (.v (.c .ff))))]) (.cond (.t 25) (.seq (.reg [.s (.load 26 true 6 (.t 3)), .s (.call (some 27) 73 [(.t 26)]), .s (.store 6 (.t 4) (.t 27))]) (.ret)) (.skip))) (.seq (.reg [.s (.load 28 true 6 (.t 3)), .s (.store 6 (.t 4) (.t 28))]) (.ret)))⟩
def c_spec_Filter : Fun := ⟨46, [], fun ts K => as2 ts fun t0 t1 => arG pMemT t0 fun m => arG pWordT t1 fun w => chk (LMem m 2147483647) (K (tG ((filterW m.gone w).tc [])) [])⟩
theorem run_spec_Filter (m : Mem) (w : Word) (hpre : LMem m 2147483647) : runK [c_spec_l1In, c_spec_Bare] (0) [] pf_spec_Filter [tG (m.tc false []), tG (w.tc [])] fun r o => r = tG ((filterW m.gone w).tc []) ∧ o = [] := by
  obtain ⟨l1, l2⟩ := hpre
  have w1 : IntKind.i64.wrap ((m.gone.length : Int) - 1) = (m.gone.length : Int) - 1 := wrap_id (by omega) (by omega)
  conv => whnf
  repeat' (first | (refine sel_i (fun h => ?_) (fun h => ?_) <;> conv => whnf) | (refine chk_c ?_ ?_ <;> conv => whnf) | (refine And.intro ?_ rfl) | (refine And.intro ?_ ?_ <;> conv => whnf))
  all_goals (try simp only [w1, show FT.zero .bool = false from rfl] at *)
  all_goals first
    | (refine ⟨?_⟩; rename_i g; have := inR_t.1 g; omega)
    | (refine ⟨?_⟩; have := inR_t.1 h; omega)
    | (rw [show filterW m.gone w = plainW w.n by simp only [filterW, gonB, *, Bool.and_self, if_true]]; rfl)
    | (rw [show filterW m.gone w = w by simp only [filterW, gonB, *, Bool.and_false, Bool.false_and, Bool.false_eq_true, if_false]]; rfl)
    | trace_state
theorem ok_spec_Filter : FunOk Tryz.prog c_spec_Filter := funOk (E := [c_spec_l1In, c_spec_Bare]) (envOk_cons ok_spec_l1In (envOk_cons ok_spec_Bare (envOk_nil))) mixd Tryz.func46 (pf := pf_spec_Filter) (by kernel_rfl) fun ts K h => by
  obtain ⟨t0, t1, e0, h⟩ := as2_out h
  subst e0
  obtain ⟨m, e1, hq⟩ := arG_out rd_mem h
  clear h
  subst e1
  have h := hq
  clear hq
  obtain ⟨w, e1, hq⟩ := arG_out rd_word h
  clear h
  subst e1
  have h := hq
  clear hq
  obtain ⟨hpre, h⟩ := chk_o h
  exact ⟨_, _, h, Nat.le_of_ble_eq_true (show Nat.ble 2 Tryz.f46.ntmps = true by kernel_rfl), _, run_spec_Filter m w hpre⟩

def pf_impl_Filter : PF := ⟨[.c 4 true 6], .seq (.reg [.s (.box 2 (.t 0)), .s (.box 3 (.t 1)), .s (.alloc 4 [.int .i64 0, .ff, .int .i64 0, .int .i64 0, .int .i64 0, .int .i64 0])]) (.seq (.seq (.reg [.s (.fa 5 (.t 3) 1), .s (.load 6 false 1 (.t 5)), .s (.mv 7 (.t 6)), .g 7 true (some 8) (.fa 8 (.t 3) 2), .g 7 true (some 9) (.fa 9 (.t 8) 0), .g 7 true (some 10) (.load 10 false 1 (.t 9)), .g 7 true (some 11) (.fa 11 (.t 2) 1), .g 7 true (some 12) (.load 12 false 1 (.t 11)), .g 7 true (some 13) (.len 13 false (.t 12)), .g 7 true (some 14) (.bin 14 .sub (.t 13) (.k (.v (.c (.int .i64 1))))), .g 7 true (some 15) (.call (some 15) 28 [(.t 10), (.k (.v (.c (.int .i64 0)))), (.t 14)]), .s (.pick 16 (.t 7) (.t 15) (.k (.v (.c .ff)))), .s (.mv 17 (.t 16)), .g 17 true (some 18) (.fa 18 (.t 2) 1), .g 17 true (some 19) (.load 19 false 1 (.t 18)), .g 17 true (some 20) (.fa 20 (.t 3) 2), .g 17 true (some 21) (.fa 21 (.t 20) 0), .g 17 true (some 22) (.load 22 false 1 (.t 21)), .g 17 true (some 23) (.ia 23 .bool (.t 19) (.t 22)), .g 17 true (some 24) (.load 24 false 1 (.t 23)), .s (.pick 25 (.t 17) (.t 24) (.k (.v (.c .ff))))]) (.cond (.t 25) (.seq (.reg [.s (.load 26 true 6 (.t 3)), .s (.call (some 27) 72 [(.t 26)]), .s (.store 6 (.t 4) (.t 27))]) (.ret)) (.skip))) (.seq (.reg [.s (.load 28 true 6 (.t 3)), .s (.store 6 (.t 4) (.t 28))]) (.ret)))⟩
def c_impl_Filter : Fun := ⟨45, [], fun ts K => as2 ts fun t0 t1 => arG pMemT t0 fun m => arG pWordT t1 fun w => chk (LMem m 2147483647) (K (tG ((filterW m.gone w).tc [])) [])⟩
theorem run_impl_Filter (m : Mem) (w : Word) (hpre : LMem m 2147483647) : runK [c_impl_in, c_impl_Bare] (0) [] pf_impl_Filter [tG (m.tc false []), tG (w.tc [])] fun r o => r = tG ((filterW m.gone w).tc []) ∧ o = [] := by
  obtain ⟨l1, l2⟩ := hpre
  have w1 : IntKind.i64.wrap ((m.gone.length : Int) - 1) = (m.gone.length : Int) - 1 := wrap_id (by omega) (by omega)
  conv => whnf
  repeat' (first | (refine sel_i (fun h => ?_) (fun h => ?_) <;> conv => whnf) | (refine chk_c ?_ ?_ <;> conv => whnf) | (refine And.intro ?_ rfl) | (refine And.intro ?_ ?_ <;> conv => whnf))
  all_goals (try simp only [w1, show FT.zero .bool = false from rfl] at *)
  all_goals first
    | (refine ⟨?_⟩; rename_i g; have := inR_t.1 g; omega)
    | (refine ⟨?_⟩; have := inR_t.1 h; omega)
    | (rw [show filterW m.gone w = plainW w.n by simp only [filterW, gonB, *, Bool.and_self, if_true]]; rfl)
    | (rw [show filterW m.gone w = w by simp only [filterW, gonB, *, Bool.and_false, Bool.false_and, Bool.false_eq_true, if_false]]; rfl)
    | trace_state
theorem ok_impl_Filter : FunOk Tryz.prog c_impl_Filter := funOk (E := [c_impl_in, c_impl_Bare]) (envOk_cons ok_impl_in (envOk_cons ok_impl_Bare (envOk_nil))) mixd Tryz.func45 (pf := pf_impl_Filter) (by kernel_rfl) fun ts K h => by
  obtain ⟨t0, t1, e0, h⟩ := as2_out h
  subst e0
  obtain ⟨m, e1, hq⟩ := arG_out rd_mem h
  clear h
  subst e1
  have h := hq
  clear hq
  obtain ⟨w, e1, hq⟩ := arG_out rd_word h
  clear h
  subst e1
  have h := hq
  clear hq
  obtain ⟨hpre, h⟩ := chk_o h
  exact ⟨_, _, h, Nat.le_of_ble_eq_true (show Nat.ble 2 Tryz.f45.ntmps = true by kernel_rfl), _, run_impl_Filter m w hpre⟩

def pf_impl_cloneHeap : PF := ⟨[.c 2 true 4], .seq (.reg [.s (.box 1 (.t 0)), .s (.alloc 2 [.nils .word, .nils .bool, .nils .span, .nils .span])]) (.seq (.rgd [] [.s (.fa 3 (.t 1) 0), .s (.load 4 true 2 (.t 3)), .s (.call (some 5) 59 [(.t 4)]), .s (.fa 6 (.t 1) 2), .s (.load 7 false 1 (.t 6)), .s (.call (some 8) 60 [(.t 7)]), .s (.fa 9 (.t 1) 3), .s (.load 10 false 1 (.t 9)), .s (.call (some 11) 60 [(.t 10)]), .s (.build 12 [.nils .word, .nils .bool, .nils .span, .nils .span] [(0, 2, (.t 5)), (2, 1, (.t 8)), (3, 1, (.t 11))]), .s (.store 4 (.t 2) (.t 12))] (.tk 0 (.tk 1 (.tk 3 (.tk 4 (.tk 6 (.tk 7 (.one 2 false (.one 5 false (.one 8 true (.tk 9 (.one 10 true (.done none))))))))))))) (.ret))⟩
def c_impl_cloneHeap : Fun := ⟨27, [], fun ts K => as1 ts fun t0 => arG pHeapT t0 fun t => chk (LHeap t 2147483647) (K (tG (t.tc true [])) [])⟩
theorem run_impl_cloneHeap (t : Heap) (hpre : LHeap t 2147483647) : runK [c_impl_cloneMemory, c_slices_Clone_Span] (0) [] pf_impl_cloneHeap [tG (t.tc false [])] fun r o => r = tG (t.tc true []) ∧ o = [] := by
  obtain ⟨⟨l1, l4⟩, l2, l3⟩ := hpre
  conv => whnf
  repeat' (first | (refine chk_c ?_ ?_ <;> conv => whnf) | (refine And.intro ?_ ?_ <;> conv => whnf))
  all_goals first
    | (refine ⟨?_⟩; omega)
    | (refine ⟨?_⟩; simp; done)
    | (refine ⟨?_⟩; simp [LMem, LTwo] at *; omega)
    | rfl
    | exact True.intro
    | exact ⟨rfl, rfl⟩
theorem ok_impl_cloneHeap : FunOk Tryz.prog c_impl_cloneHeap := funOk (E := [c_impl_cloneMemory, c_slices_Clone_Span]) (envOk_cons ok_impl_cloneMemory (envOk_cons ok_slices_Clone_Span (envOk_nil))) mixd Tryz.func27 (pf := pf_impl_cloneHeap) (by kernel_rfl) fun ts K h => by
  obtain ⟨t0, e0, h⟩ := as1_out h
  subst e0
  obtain ⟨t, e1, hq⟩ := arG_out rd_heap h
  clear h
  subst e1
  have h := hq
  clear hq
  obtain ⟨hpre, h⟩ := chk_o h
  exact ⟨_, _, h, Nat.le_of_ble_eq_true (show Nat.ble 1 Tryz.f27.ntmps = true by kernel_rfl), _, run_impl_cloneHeap t hpre⟩

def pf_spec_l23Copy : PF := ⟨[.c 2 true 4], .seq (.reg [.s (.box 1 (.t 0)), .s (.alloc 2 [.nils .word, .nils .bool, .nils .span, .nils .span])]) (.seq (.rgd [] [.s (.fa 3 (.t 1) 0), .s (.load 4 true 2 (.t 3)), .s (.call (some 5) 66 [(.t 4)]), .s (.bs 6 .span []), .s (.fa 7 (.t 1) 2), .s (.load 8 false 1 (.t 7)), .s (.app 9 .span (.t 6) (.t 8)), .s (.bs 10 .span []), .s (.fa 11 (.t 1) 3), .s (.load 12 false 1 (.t 11)), .s (.app 13 .span (.t 10) (.t 12)), .s (.build 14 [.nils .word, .nils .bool, .nils .span, .nils .span] [(0, 2, (.t 5)), (2, 1, (.t 9)), (3, 1, (.t 13))]), .s (.store 4 (.t 2) (.t 14))] (.tk 0 (.tk 1 (.tk 4 (.tk 5 (.tk 8 (.tk 9 (.alt 2 false (.alt 3 false (.alt 6 false (.one 7 false (.one 10 true (.tk 11 (.one 12 true (.done (some [2])))))) (.alt 7 false (.one 6 false (.one 10 true (.tk 11 (.one 12 true (.done (some [2])))))) (.nil))) (.alt 7 false (.one 3 false (.one 6 false (.one 10 true (.tk 11 (.one 12 true (.done (some [2]))))))) (.nil))) (.alt 3 false (.alt 2 false (.alt 6 false (.one 7 false (.one 10 true (.tk 11 (.one 12 true (.done (some [2])))))) (.alt 7 false (.one 6 false (.one 10 true (.tk 11 (.one 12 true (.done (some [2])))))) (.nil))) (.alt 7 false (.one 2 false (.one 6 false (.one 10 true (.tk 11 (.one 12 true (.done (some [2]))))))) (.nil))) (.alt 7 false (.alt 2 false (.one 3 false (.one 6 false (.one 10 true (.tk 11 (.one 12 true (.done (some [2]))))))) (.alt 3 false (.one 2 false (.one 6 false (.one 10 true (.tk 11 (.one 12 true (.done (some [2]))))))) (.nil))) (.nil))))))))))) (.ret))⟩
def c_spec_l23Copy : Fun := ⟨33, [], fun ts K => as1 ts fun t0 => arG pHeapT t0 fun t => chk (LHeap t 2147483647) (K (tG (t.tc true [])) [])⟩
theorem run_spec_l23Copy (t : Heap) (hpre : LHeap t 2147483647) : runK [c_spec_l8Copy] (0) [] pf_spec_l23Copy [tG (t.tc false [])] fun r o => r = tG (t.tc true []) ∧ o = [] := by
  obtain ⟨⟨l1, l4⟩, l2, l3⟩ := hpre
  conv => whnf
  repeat' (first | (refine chk_c ?_ ?_ <;> conv => whnf) | (refine And.intro ?_ ?_ <;> conv => whnf))
  all_goals first
    | (refine ⟨?_⟩; omega)
    | (refine ⟨?_⟩; simp; done)
    | (refine ⟨?_⟩; simp [LMem, LTwo] at *; omega)
    | rfl
    | exact True.intro
    | exact ⟨rfl, rfl⟩
theorem ok_spec_l23Copy : FunOk Tryz.prog c_spec_l23Copy := funOk (E := [c_spec_l8Copy]) (envOk_cons ok_spec_l8Copy (envOk_nil)) mixd Tryz.func33 (pf := pf_spec_l23Copy) (by kernel_rfl) fun ts K h => by
  obtain ⟨t0, e0, h⟩ := as1_out h
  subst e0
  obtain ⟨t, e1, hq⟩ := arG_out rd_heap h
  clear h
  subst e1
  have h := hq
  clear hq
  obtain ⟨hpre, h⟩ := chk_o h
  exact ⟨_, _, h, Nat.le_of_ble_eq_true (show Nat.ble 1 Tryz.f33.ntmps = true by kernel_rfl), _, run_spec_l23Copy t hpre⟩

theorem keep_mid {α : Type} {m a : List α} {i : Nat} (h : m.length = a.length) (hi : i < a.length) (hx : m[i]? = a[i]?) : m.take i ++ a.drop i = m.take (i + 1) ++ a.drop (i + 1) := by
  rw [List.drop_eq_getElem_cons hi, List.take_add_one, hx, List.getElem?_eq_getElem hi]
  simp
def cleanW (g : List Bool) (ws : List Word) : List Word := (List.range 24).map (fun c => if g.getD c false then ⟨0, false, ⟨0, 0, 0, 0⟩⟩ else filterW g (ws.getD c (FT.zero .word)))
theorem cleanW_len (g : List Bool) (ws : List Word) : (cleanW g ws).length = 24 := by simp [cleanW]
theorem cleanW_yes {g : List Bool} {ws : List Word} {c : Nat} (h : c < 24) (hg : g.getD c false = true) : (cleanW g ws)[c]? = some ⟨0, false, ⟨0, 0, 0, 0⟩⟩ := by
  unfold cleanW
  rw [List.getElem?_map, List.getElem?_range h, Option.map_some, if_pos hg]
theorem cleanW_no {g : List Bool} {ws : List Word} {c : Nat} (h : c < 24) (hg : g.getD c false = false) : (cleanW g ws)[c]? = some (filterW g (ws.getD c (FT.zero .word))) := by
  unfold cleanW
  rw [List.getElem?_map, List.getElem?_range h, Option.map_some, if_neg (by rw [hg]; decide)]
theorem map_getD {α β : Type} {f : α → β} {xs : List α} {i : Nat} (z : α) (h : i < xs.length) : (xs.map f)[i]? = some (f (xs.getD i z)) := by
  rw [List.getElem?_map, List.getElem?_eq_getElem h, Option.map_some, List.getD_eq_getElem?_getD, List.getElem?_eq_getElem h, Option.getD_some]
def clean (h : Heap) (rs : List Word) : Heap × List Word := if heapOk h then (⟨⟨cleanW h.mem.gone h.mem.words, List.replicate 24 false⟩, h.live, []⟩, rs.map (filterW h.mem.gone)) else (h, rs)
theorem clean_no {h : Heap} {rs : List Word} (k : heapOk h = false) : clean h rs = (h, rs) := by simp [clean, k]
theorem clean_yes {h : Heap} {rs : List Word} (k : heapOk h = true) : clean h rs = (⟨⟨cleanW h.mem.gone h.mem.words, List.replicate 24 false⟩, h.live, []⟩, rs.map (filterW h.mem.gone)) := by simp [clean, k]
theorem heapOk_mem {h : Heap} (k : heapOk h = true) : memoryOk h.mem = true := by
  simp only [heapOk, Bool.and_eq_true] at k; exact k.1.1.1
theorem plainW_0 : plainW 0 = ⟨0, false, ⟨0, 0, 0, 0⟩⟩ := by decide
theorem heapOk_gone {h : Heap} (k : heapOk h = true) {c : Nat} (hc : c < 24) : inL h.waits (c : Int) = h.mem.gone.getD c false := by
  simp only [heapOk, Bool.and_eq_true, allR_iff] at k
  have h1 := (k.2 c hc).2
  rw [inL_eq (spansOk_mem k.1.2)]
  simp only [beq_iff_eq] at h1
  exact h1.symm

def lb_impl_Clean_0 : PC := .seq (.reg [.s (.bin 28 .lss (.t 27) (.t 26))]) (.seq (.cond (.t 28) (.skip) (.exit 0)) (.seq (.blk 1 (.seq (.reg [.s (.mv 29 (.t 27)), .s (.ia 30 .word (.t 25) (.t 27)), .s (.load 31 true 6 (.t 30)), .s (.alloc 9 [.int .i64 0, .ff, .int .i64 0, .int .i64 0, .int .i64 0, .int .i64 0]), .s (.mv 8 (.t 29)), .s (.store 6 (.t 9) (.t 31))]) (.rgd [] [.s (.fa 32 (.t 6) 0), .s (.fa 33 (.t 32) 0), .s (.load 34 false 1 (.t 33)), .s (.mv 35 (.t 8)), .s (.fa 36 (.t 2) 0), .s (.load 37 true 2 (.t 36)), .s (.load 38 true 6 (.t 9)), .s (.call (some 39) 45 [(.t 37), (.t 38)]), .s (.ia 40 .word (.t 34) (.t 35)), .s (.store 6 (.t 40) (.t 39))] (.tk 0 (.tk 1 (.tk 2 (.tk 3 (.tk 4 (.tk 5 (.tk 6 (.one 7 false (.tk 8 (.one 9 true (.done none)))))))))))))) (.reg [.s (.bin 41 .add (.t 27) (.k (.v (.c (.int .i64 1))))), .s (.mv 27 (.t 41))])))
def lb_impl_Clean_1 : PC := .seq (.reg [.s (.bin 45 .lss (.t 44) (.t 43))]) (.seq (.cond (.t 45) (.skip) (.exit 2)) (.seq (.blk 3 (.seq (.reg [.s (.mv 46 (.t 44)), .s (.ia 47 .word (.t 42) (.t 44)), .s (.load 48 true 6 (.t 47)), .s (.alloc 11 [.int .i64 0, .ff, .int .i64 0, .int .i64 0, .int .i64 0, .int .i64 0]), .s (.mv 10 (.t 46)), .s (.store 6 (.t 11) (.t 48))]) (.reg [.s (.mv 49 (.t 7)), .s (.mv 50 (.t 10)), .s (.fa 51 (.t 2) 0), .s (.load 52 true 2 (.t 51)), .s (.load 53 true 6 (.t 11)), .s (.call (some 54) 45 [(.t 52), (.t 53)]), .s (.ia 55 .word (.t 49) (.t 50)), .s (.store 6 (.t 55) (.t 54))]))) (.reg [.s (.bin 56 .add (.t 44) (.k (.v (.c (.int .i64 1))))), .s (.mv 44 (.t 56))])))
def lb_impl_Clean_2 : PC := .seq (.reg [.s (.bin 62 .lss (.t 61) (.t 60))]) (.seq (.cond (.t 62) (.skip) (.exit 4)) (.seq (.blk 5 (.seq (.reg [.s (.mv 63 (.t 61)), .s (.ia 64 .bool (.t 59) (.t 61)), .s (.load 65 false 1 (.t 64)), .s (.mv 12 (.t 63)), .s (.mv 13 (.t 65))]) (.seq (.reg [.s (.mv 66 (.t 13))]) (.cond (.t 66) (.reg [.s (.fa 67 (.t 6) 0), .s (.fa 68 (.t 67) 0), .s (.load 69 false 1 (.t 68)), .s (.mv 70 (.t 12)), .s (.build 71 [.int .i64 0, .ff, .int .i64 0, .int .i64 0, .int .i64 0, .int .i64 0] []), .s (.ia 72 .word (.t 69) (.t 70)), .s (.store 6 (.t 72) (.t 71))]) (.skip))))) (.reg [.s (.bin 73 .add (.t 61) (.k (.v (.c (.int .i64 1))))), .s (.mv 61 (.t 73))])))
def pf_impl_Clean : PF := ⟨[.c 4 true 4, .t 5], .seq (.reg [.s (.box 2 (.t 0)), .s (.alloc 4 [.nils .word, .nils .bool, .nils .span, .nils .span]), .s (.mv 5 (.k (.v (.c (.nils .word)))))]) (.seq (.reg [.s (.load 14 true 4 (.t 2)), .s (.call (some 15) 27 [(.t 14)]), .s (.mv 16 (.t 1)), .s (.call (some 17) 44 [(.t 16)]), .s (.alloc 6 [.nils .word, .nils .bool, .nils .span, .nils .span]), .s (.store 4 (.t 6) (.t 15)), .s (.mv 7 (.t 17))]) (.seq (.seq (.reg [.s (.load 18 true 4 (.t 2)), .s (.call (some 19) 18 [(.t 18)]), .s (.bnot 20 (.t 19))]) (.cond (.t 20) (.seq (.reg [.s (.load 21 true 4 (.t 6)), .s (.mv 22 (.t 7)), .s (.store 4 (.t 4) (.t 21)), .s (.mv 5 (.t 22))]) (.ret)) (.skip))) (.seq (.seq (.reg [.s (.fa 23 (.t 2) 0), .s (.fa 24 (.t 23) 0), .s (.load 25 false 1 (.t 24)), .s (.len 26 false (.t 25)), .s (.mv 27 (.k (.v (.c (.int .i64 0)))))]) (.blk 0 (.loop [1, 2, 4, 6, 7, 25, 26, 27] lb_impl_Clean_0))) (.seq (.seq (.reg [.s (.mv 42 (.t 1)), .s (.len 43 false (.t 42)), .s (.mv 44 (.k (.v (.c (.int .i64 0)))))]) (.blk 2 (.loop [2, 4, 6, 7, 42, 43, 44] lb_impl_Clean_1))) (.seq (.seq (.reg [.s (.fa 57 (.t 2) 0), .s (.fa 58 (.t 57) 1), .s (.load 59 false 1 (.t 58)), .s (.len 60 false (.t 59)), .s (.mv 61 (.k (.v (.c (.int .i64 0)))))]) (.blk 4 (.loop [4, 6, 7, 59, 60, 61] lb_impl_Clean_2))) (.seq (.reg [.s (.fa 74 (.t 6) 3), .s (.store 1 (.t 74) (.k (.v (.c (.nils .span)))))]) (.seq (.reg [.s (.mkS 75 .bool (.k (.v (.c (.int .i64 24))))), .s (.fa 76 (.t 6) 0), .s (.fa 77 (.t 76) 1), .s (.store 1 (.t 77) (.t 75))]) (.seq (.reg [.s (.load 78 true 4 (.t 6)), .s (.mv 79 (.t 7)), .s (.store 4 (.t 4) (.t 78)), .s (.mv 5 (.t 79))]) (.ret)))))))))⟩
def c_impl_Clean : Fun := ⟨12, [], fun ts K => as2 ts fun t0 t1 => arG pHeapT t0 fun t => arC (pL .word) t1 fun rs => chk (LHeap t 1048576 ∧ rs.length ≤ 1048576) (K (.tup [.g ((clean t rs).1.tc true []), .c (tl true .word (clean t rs).2)]) [])⟩
theorem run_impl_Clean (t : Heap) (rs : List (FT.Ty .word)) (hpre : LHeap t 1048576 ∧ rs.length ≤ 1048576) : runK [c_impl_HeapOk, c_impl_cloneHeap, c_slices_Clone_Word, c_impl_Filter] (rs.length + 30) [] pf_impl_Clean [tG (t.tc false []), tL false .word rs] fun r o => r = .tup [.g ((clean t rs).1.tc true []), .c (tl true .word (clean t rs).2)] ∧ o = [] := by
  obtain ⟨hp, l0⟩ := hpre
  have hp2 : LHeap t 2147483647 := hp.mono (by decide)
  have hpm : LMem t.mem 2147483647 := hp2.1
  conv => whnf
  repeat' (first | (refine sel_i (fun h => ?_) (fun h => ?_) <;> conv => whnf) | (refine chk_c ?_ ?_ <;> conv => whnf) | (refine And.intro ?_ rfl) | (refine And.intro ?_ ?_ <;> conv => whnf))
  all_goals (try simp only [etaMemory, etaHeap, Bool.not_eq_true', Bool.not_eq_false'] at *)
  all_goals first
    | (refine ⟨?_⟩; assumption)
    | (refine ⟨?_⟩; omega)
    | (rw [clean_no h]; rfl)
    | skip
  obtain ⟨m1, m2, m3⟩ := memoryOk_n (heapOk_mem h)
  rw [clean_yes h]
  dsimp only
  have hml : (t.mem.words.map (filterW t.mem.gone)).length = t.mem.words.length := by simp
  refine loop (α := Nat × List Word) (fun q => ⟨[(1, .v (.c (.sl false .word 0))), (2, .v (.c (.ptr 1 0))), (4, .v (.c (.ptr 6 0))), (6, .v (.c (.ptr 7 0))), (7, .v (.c (.sl false .word 12))), (25, .v (.c (.sl false .word 2))), (26, .v (.c (.int .i64 (t.mem.words.length : Int)))), (27, .v (.c (.int .i64 (q.1 : Int))))],
        [(12, some (.flat true .word none rs)), (11, some (.flat true .span none t.waits)), (10, some (.flat true .span none t.live)), (9, some (.flat true .bool none t.mem.gone)), (8, some (.flat true .word none q.2)), (7, some (.box true [.sl false .word 8, .sl false .bool 9, .sl false .span 10, .sl false .span 11])), (6, some (.box true [.nils .word, .nils .bool, .nils .span, .nils .span])),
         (5, some (.flat false .span none t.waits)), (4, some (.flat false .span none t.live)), (3, some (.flat false .bool none t.mem.gone)), (2, some (.flat false .word none t.mem.words)), (1, some (.box true [.sl false .word 2, .sl false .bool 3, .sl false .span 4, .sl false .span 5])), (0, some (.flat false .word none rs))], nums.tail.tail.tail.tail.tail.tail.tail.tail.tail.tail.tail.tail.tail, [], false, []⟩)
      (fun q => q.1 ≤ 24 ∧ q.2 = (t.mem.words.map (filterW t.mem.gone)).take q.1 ++ t.mem.words.drop q.1) (fun q => 24 - q.1) (fun q R hI hR => ?_) (0, t.mem.words) _ ⟨by simp, by simp⟩ (by dsimp only; omega)
  obtain ⟨i, ws⟩ := q
  obtain ⟨hi, hx⟩ := hI
  dsimp only at hi hx
  dsimp only
  have hwl : ws.length = 24 := by rw [hx]; simp; omega
  conv => whnf
  repeat' (first | (refine sel_i (fun h => ?_) (fun h => ?_) <;> conv => whnf) | (refine chk_c ?_ ?_ <;> conv => whnf) | (refine And.intro ?_ rfl) | (refine And.intro ?_ ?_ <;> conv => whnf))
  all_goals (try simp only [etaMemory, etaWord, etaKey, Int.toNat_natCast, decide_eq_true_eq, decide_eq_false_iff_not] at *)
  all_goals try (refine ⟨?_⟩; first | assumption | omega)
  · rename_i g
    have hlt : i < 24 := by omega
    rw [wrap_id (n := (i : Int) + 1) (by omega) (by omega)]
    exact hR (i + 1, ws.set i (filterW t.mem.gone (t.mem.words.getD i (FT.zero .word)))) ⟨by dsimp only; omega, by rw [hx]; exact set_mid hml (by omega) (map_getD _ (by omega))⟩ (by dsimp only; omega)
  have hi24 : i = 24 := by omega
  clear h hR
  subst hi24
  rw [List.take_of_length_le (by omega), List.drop_eq_nil_of_le (by omega), List.append_nil] at hx
  have hrl : (rs.map (filterW t.mem.gone)).length = rs.length := by simp
  refine loop (α := Nat × List Word) (fun q => ⟨[(2, .v (.c (.ptr 0 0))), (4, .v (.c (.ptr 5 0))), (6, .v (.c (.ptr 6 0))), (7, .v (.c (.sl false .word 11))), (42, .v (.c (.sl false .word 12))), (43, .v (.c (.int .i64 (rs.length : Int)))), (44, .v (.c (.int .i64 (q.1 : Int))))],
        [(12, some (.flat false .word none rs)), (11, some (.flat true .word none q.2)), (10, some (.flat true .span none t.waits)), (9, some (.flat true .span none t.live)), (8, some (.flat true .bool none t.mem.gone)), (7, some (.flat true .word none ws)), (6, some (.box true [.sl false .word 7, .sl false .bool 8, .sl false .span 9, .sl false .span 10])), (5, some (.box true [.nils .word, .nils .bool, .nils .span, .nils .span])),
         (4, some (.flat false .span none t.waits)), (3, some (.flat false .span none t.live)), (2, some (.flat false .bool none t.mem.gone)), (1, some (.flat false .word none t.mem.words)), (0, some (.box true [.sl false .word 1, .sl false .bool 2, .sl false .span 3, .sl false .span 4]))], nums.tail.tail.tail.tail.tail.tail.tail.tail.tail.tail.tail.tail.tail, [], false, []⟩)
      (fun q => q.1 ≤ rs.length ∧ q.2 = (rs.map (filterW t.mem.gone)).take q.1 ++ rs.drop q.1) (fun q => rs.length - q.1) (fun q R hI hR => ?_) (0, rs) _ ⟨by simp, by simp⟩ (by dsimp only; omega)
  obtain ⟨i, zs⟩ := q
  obtain ⟨hi, hz⟩ := hI
  dsimp only at hi hz
  dsimp only
  have hzl : zs.length = rs.length := by rw [hz]; simp; omega
  conv => whnf
  repeat' (first | (refine sel_i (fun h => ?_) (fun h => ?_) <;> conv => whnf) | (refine chk_c ?_ ?_ <;> conv => whnf) | (refine And.intro ?_ rfl) | (refine And.intro ?_ ?_ <;> conv => whnf))
  all_goals (try simp only [etaMemory, etaWord, etaKey, Int.toNat_natCast, decide_eq_true_eq, decide_eq_false_iff_not] at *)
  all_goals try (refine ⟨?_⟩; first | assumption | omega)
  · rename_i g
    rw [wrap_id (n := (i : Int) + 1) (by omega) (by omega)]
    exact hR (i + 1, zs.set i (filterW t.mem.gone (rs.getD i (FT.zero .word)))) ⟨by dsimp only; omega, by rw [hz]; exact set_mid hrl (by omega) (map_getD _ (by omega))⟩ (by dsimp only; omega)
  have hirl : i = rs.length := by omega
  clear h hR
  subst hirl
  rw [List.take_of_length_le (by omega), List.drop_eq_nil_of_le (by omega), List.append_nil] at hz
  refine loop (α := Nat × List Word) (fun q => ⟨[(4, .v (.c (.ptr 0 0))), (6, .v (.c (.ptr 1 0))), (7, .v (.c (.sl false .word 6))), (59, .v (.c (.sl false .bool 7))), (60, .v (.c (.int .i64 (t.mem.gone.length : Int)))), (61, .v (.c (.int .i64 (q.1 : Int))))],
        [(7, some (.flat false .bool none t.mem.gone)), (6, some (.flat true .word none zs)), (5, some (.flat true .span none t.waits)), (4, some (.flat true .span none t.live)), (3, some (.flat true .bool none t.mem.gone)), (2, some (.flat true .word none q.2)), (1, some (.box true [.sl false .word 2, .sl false .bool 3, .sl false .span 4, .sl false .span 5])), (0, some (.box true [.nils .word, .nils .bool, .nils .span, .nils .span]))], nums.tail.tail.tail.tail.tail.tail.tail.tail, [], false, []⟩)
      (fun q => q.1 ≤ 24 ∧ q.2 = (cleanW t.mem.gone t.mem.words).take q.1 ++ ws.drop q.1) (fun q => 24 - q.1) (fun q R hI hR => ?_) (0, ws) _ ⟨by simp, by simp⟩ (by dsimp only; omega)
  obtain ⟨i, vs⟩ := q
  obtain ⟨hi, hv⟩ := hI
  dsimp only at hi hv
  dsimp only
  have hcl := cleanW_len t.mem.gone t.mem.words
  have hvl : vs.length = 24 := by rw [hv]; simp; omega
  conv => whnf
  repeat' (first | (refine sel_i (fun h => ?_) (fun h => ?_) <;> conv => whnf) | (refine chk_c ?_ ?_ <;> conv => whnf) | (refine And.intro ?_ rfl) | (refine And.intro ?_ ?_ <;> conv => whnf))
  all_goals (try simp only [etaMemory, etaWord, etaKey, Int.toNat_natCast, show FT.zero .bool = false from rfl, decide_eq_true_eq, decide_eq_false_iff_not] at *)
  all_goals try (refine ⟨?_⟩; first | assumption | omega)
  · rename_i g1 g2
    rw [wrap_id (n := (i : Int) + 1) (by omega) (by omega)]
    exact hR (i + 1, vs.set i ⟨0, false, ⟨0, 0, 0, 0⟩⟩) ⟨by dsimp only; omega, by rw [hv]; exact set_mid (by omega) (by omega) (cleanW_yes (by omega) h)⟩ (by dsimp only; omega)
  · rename_i g1 g2
    rw [wrap_id (n := (i : Int) + 1) (by omega) (by omega)]
    exact hR (i + 1, vs) ⟨by dsimp only; omega, by
      dsimp only
      rw [hv, keep_mid (by omega) (by omega) (by rw [cleanW_no (by omega) h, hx, map_getD _ (by omega)])]⟩ (by dsimp only; omega)
  · rename_i g1
    have e : i = 24 := by omega
    subst e
    rw [List.take_of_length_le (by omega), List.drop_eq_nil_of_le (by omega), List.append_nil] at hv
    rw [hv, hz]; rfl
theorem ok_impl_Clean : FunOk Tryz.prog c_impl_Clean := funOk (E := [c_impl_HeapOk, c_impl_cloneHeap, c_slices_Clone_Word, c_impl_Filter]) (envOk_cons ok_impl_HeapOk (envOk_cons ok_impl_cloneHeap (envOk_cons ok_slices_Clone_Word (envOk_cons ok_impl_Filter (envOk_nil))))) mixd Tryz.func12 (pf := pf_impl_Clean) (by kernel_rfl) fun ts K h => by
  obtain ⟨t0, t1, e0, h⟩ := as2_out h
  subst e0
  obtain ⟨t, e1, hq⟩ := arG_out rd_heap h
  clear h
  subst e1
  have h := hq
  clear hq
  obtain ⟨rs, e1, hq⟩ := arC_out (rd_l .word) h
  clear h
  subst e1
  have h := hq
  clear hq
  obtain ⟨hpre, h⟩ := chk_o h
  exact ⟨_, _, h, Nat.le_of_ble_eq_true (show Nat.ble 2 Tryz.f12.ntmps = true by kernel_rfl), _, run_impl_Clean t rs hpre⟩

def lb_spec_Clean_0 : PC := .seq (.seq (.reg [.s (.mv 20 (.t 8)), .s (.mv 21 (.t 7)), .s (.len 22 false (.t 21)), .s (.bin 23 .lss (.t 20) (.t 22))]) (.cond (.t 23) (.skip) (.exit 0))) (.seq (.blk 1 (.rgd [] [.s (.mv 26 (.t 7)), .s (.mv 27 (.t 8)), .s (.fa 28 (.t 2) 0), .s (.load 29 true 2 (.t 28)), .s (.mv 30 (.t 1)), .s (.mv 31 (.t 8)), .s (.ia 32 .word (.t 30) (.t 31)), .s (.load 33 true 6 (.t 32)), .s (.call (some 34) 46 [(.t 29), (.t 33)]), .s (.ia 35 .word (.t 26) (.t 27)), .s (.store 6 (.t 35) (.t 34))] (.tk 0 (.tk 1 (.tk 2 (.tk 3 (.tk 4 (.tk 5 (.tk 6 (.tk 7 (.one 8 true (.tk 9 (.one 10 true (.done none)))))))))))))) (.reg [.s (.mv 24 (.t 8)), .s (.bin 25 .add (.t 24) (.k (.v (.c (.int .i64 1))))), .s (.mv 8 (.t 25))]))
def lb_spec_Clean_1 : PC := .seq (.seq (.reg [.s (.mv 36 (.t 9)), .s (.bin 37 .lss (.t 36) (.k (.v (.c (.int .i64 24)))))]) (.cond (.t 37) (.skip) (.exit 2))) (.seq (.blk 3 (.seq (.rgd [] [.s (.fa 40 (.t 6) 0), .s (.fa 41 (.t 40) 0), .s (.load 42 false 1 (.t 41)), .s (.mv 43 (.t 9)), .s (.fa 44 (.t 2) 0), .s (.load 45 true 2 (.t 44)), .s (.fa 46 (.t 2) 0), .s (.fa 47 (.t 46) 0), .s (.load 48 false 1 (.t 47)), .s (.mv 49 (.t 9)), .s (.ia 50 .word (.t 48) (.t 49)), .s (.load 51 true 6 (.t 50)), .s (.call (some 52) 46 [(.t 45), (.t 51)]), .s (.ia 53 .word (.t 42) (.t 43)), .s (.store 6 (.t 53) (.t 52))] (.tk 0 (.tk 1 (.tk 2 (.tk 3 (.tk 4 (.tk 5 (.tk 6 (.tk 7 (.tk 8 (.tk 9 (.tk 10 (.tk 11 (.one 12 false (.tk 13 (.one 14 true (.done none))))))))))))))))) (.seq (.seq (.reg [.s (.fa 54 (.t 2) 3), .s (.load 55 false 1 (.t 54)), .s (.mv 56 (.t 9)), .s (.call (some 57) 47 [(.t 55), (.t 56)])]) (.cond (.t 57) (.rgd [] [.s (.fa 58 (.t 6) 0), .s (.fa 59 (.t 58) 0), .s (.load 60 false 1 (.t 59)), .s (.mv 61 (.t 9)), .s (.call (some 62) 48 [(.k (.v (.c (.int .i64 0))))]), .s (.ia 63 .word (.t 60) (.t 61)), .s (.store 6 (.t 63) (.t 62))] (.tk 0 (.tk 1 (.tk 2 (.tk 3 (.one 4 false (.tk 5 (.one 6 true (.done none))))))))) (.skip))) (.reg [.s (.fa 64 (.t 6) 0), .s (.fa 65 (.t 64) 1), .s (.load 66 false 1 (.t 65)), .s (.mv 67 (.t 9)), .s (.ia 68 .bool (.t 66) (.t 67)), .s (.store 1 (.t 68) (.k (.v (.c .ff))))])))) (.reg [.s (.mv 38 (.t 9)), .s (.bin 39 .add (.t 38) (.k (.v (.c (.int .i64 1))))), .s (.mv 9 (.t 39))]))
def pf_spec_Clean : PF := ⟨[.c 4 true 4, .t 5], .seq (.reg [.s (.box 2 (.t 0)), .s (.alloc 4 [.nils .word, .nils .bool, .nils .span, .nils .span]), .s (.mv 5 (.k (.v (.c (.nils .word)))))]) (.seq (.reg [.s (.load 10 true 4 (.t 2)), .s (.call (some 11) 33 [(.t 10)]), .s (.alloc 6 [.nils .word, .nils .bool, .nils .span, .nils .span]), .s (.store 4 (.t 6) (.t 11))]) (.seq (.reg [.s (.bs 12 .word []), .s (.mv 13 (.t 1)), .s (.app 14 .word (.t 12) (.t 13)), .s (.mv 7 (.t 14))]) (.seq (.seq (.reg [.s (.load 15 true 4 (.t 2)), .s (.call (some 16) 19 [(.t 15)]), .s (.bnot 17 (.t 16))]) (.cond (.t 17) (.seq (.reg [.s (.load 18 true 4 (.t 6)), .s (.mv 19 (.t 7)), .s (.store 4 (.t 4) (.t 18)), .s (.mv 5 (.t 19))]) (.ret)) (.skip))) (.seq (.seq (.reg [.s (.mv 8 (.k (.v (.c (.int .i64 0)))))]) (.blk 0 (.loop [1, 2, 4, 6, 7, 8] lb_spec_Clean_0))) (.seq (.seq (.reg [.s (.mv 9 (.k (.v (.c (.int .i64 0)))))]) (.blk 2 (.loop [2, 4, 6, 7, 9] lb_spec_Clean_1))) (.seq (.reg [.s (.fa 69 (.t 6) 3), .s (.store 1 (.t 69) (.k (.v (.c (.nils .span)))))]) (.seq (.reg [.s (.load 70 true 4 (.t 6)), .s (.mv 71 (.t 7)), .s (.store 4 (.t 4) (.t 70)), .s (.mv 5 (.t 71))]) (.ret))))))))⟩
def c_spec_Clean : Fun := ⟨13, [], fun ts K => as2 ts fun t0 t1 => arG pHeapT t0 fun t => arC (pL .word) t1 fun rs => chk (LHeap t 1048576 ∧ rs.length ≤ 1048576) (K (.tup [.g ((clean t rs).1.tc true []), .c (tl true .word (clean t rs).2)]) [])⟩
theorem run_spec_Clean (t : Heap) (rs : List (FT.Ty .word)) (hpre : LHeap t 1048576 ∧ rs.length ≤ 1048576) : runK [c_spec_HeapOk, c_spec_l23Copy, c_spec_Filter, c_spec_l23In, c_spec_Plain] (rs.length + 30) [] pf_spec_Clean [tG (t.tc false []), tL false .word rs] fun r o => r = .tup [.g ((clean t rs).1.tc true []), .c (tl true .word (clean t rs).2)] ∧ o = [] := by
  obtain ⟨hp, l0⟩ := hpre
  have hp2 : LHeap t 2147483647 := hp.mono (by decide)
  have hpm : LMem t.mem 2147483647 := hp2.1
  have ha : ([] ++ rs : List Word) = rs := rfl
  conv => whnf
  repeat' (first | (refine sel_i (fun h => ?_) (fun h => ?_) <;> conv => whnf) | (refine chk_c ?_ ?_ <;> conv => whnf) | (refine And.intro ?_ rfl) | (refine And.intro ?_ ?_ <;> conv => whnf))
  all_goals (try simp only [ha, etaMemory, etaHeap, Bool.not_eq_true', Bool.not_eq_false'] at *)
  all_goals first
    | (refine ⟨?_⟩; assumption)
    | (refine ⟨?_⟩; omega)
    | (refine ⟨?_⟩; simp; omega)
    | (rw [clean_no h]; rfl)
    | skip
  have hok := h
  obtain ⟨m1, m2, m3⟩ := memoryOk_n (heapOk_mem h)
  rw [clean_yes h]
  dsimp only
  have hrl : (rs.map (filterW t.mem.gone)).length = rs.length := by simp
  refine loop (α := Nat × List Word) (fun q => ⟨[(1, .v (.c (.sl false .word 0))), (2, .v (.c (.ptr 1 0))), (4, .v (.c (.ptr 6 0))), (6, .v (.c (.ptr 7 0))), (7, .v (.c (.sl true .word 12))), (8, .v (.c (.int .i64 (q.1 : Int))))],
        [(12, some (.flat true .word none q.2)), (11, some (.flat true .span none t.waits)), (10, some (.flat true .span none t.live)), (9, some (.flat true .bool none t.mem.gone)), (8, some (.flat true .word none t.mem.words)), (7, some (.box true [.sl false .word 8, .sl false .bool 9, .sl false .span 10, .sl false .span 11])), (6, some (.box true [.nils .word, .nils .bool, .nils .span, .nils .span])),
         (5, some (.flat false .span none t.waits)), (4, some (.flat false .span none t.live)), (3, some (.flat false .bool none t.mem.gone)), (2, some (.flat false .word none t.mem.words)), (1, some (.box true [.sl false .word 2, .sl false .bool 3, .sl false .span 4, .sl false .span 5])), (0, some (.flat false .word none rs))], nums.tail.tail.tail.tail.tail.tail.tail.tail.tail.tail.tail.tail.tail, [], false, []⟩)
      (fun q => q.1 ≤ rs.length ∧ q.2 = (rs.map (filterW t.mem.gone)).take q.1 ++ rs.drop q.1) (fun q => rs.length - q.1) (fun q R hI hR => ?_) (0, rs) _ ⟨by simp, by simp⟩ (by dsimp only; omega)
  obtain ⟨i, zs⟩ := q
  obtain ⟨hi, hz⟩ := hI
  dsimp only at hi hz
  dsimp only
  have hzl : zs.length = rs.length := by rw [hz]; simp; omega
  conv => whnf
  repeat' (first | (refine sel_i (fun h => ?_) (fun h => ?_) <;> conv => whnf) | (refine chk_c ?_ ?_ <;> conv => whnf) | (refine And.intro ?_ rfl) | (refine And.intro ?_ ?_ <;> conv => whnf))
  all_goals (try simp only [etaMemory, etaWord, etaKey, Int.toNat_natCast, decide_eq_true_eq, decide_eq_false_iff_not] at *)
  all_goals try (refine ⟨?_⟩; first | assumption | omega)
  · rename_i g
    rw [wrap_id (n := (i : Int) + 1) (by omega) (by omega)]
    exact hR (i + 1, zs.set i (filterW t.mem.gone (rs.getD i (FT.zero .word)))) ⟨by dsimp only; omega, by rw [hz]; exact set_mid hrl (by omega) (map_getD _ (by omega))⟩ (by dsimp only; omega)
  have hirl : i = rs.length := by omega
  clear h hR
  subst hirl
  rw [List.take_of_length_le (by omega), List.drop_eq_nil_of_le (by omega), List.append_nil] at hz
  refine loop (α := Nat × List Word × List Bool) (fun q => ⟨[(2, .v (.c (.ptr 0 0))), (4, .v (.c (.ptr 5 0))), (6, .v (.c (.ptr 6 0))), (7, .v (.c (.sl true .word 11))), (9, .v (.c (.int .i64 (q.1 : Int))))],
        [(11, some (.flat true .word none zs)), (10, some (.flat true .span none t.waits)), (9, some (.flat true .span none t.live)), (8, some (.flat true .bool none q.2.2)), (7, some (.flat true .word none q.2.1)), (6, some (.box true [.sl false .word 7, .sl false .bool 8, .sl false .span 9, .sl false .span 10])), (5, some (.box true [.nils .word, .nils .bool, .nils .span, .nils .span])),
         (4, some (.flat false .span none t.waits)), (3, some (.flat false .span none t.live)), (2, some (.flat false .bool none t.mem.gone)), (1, some (.flat false .word none t.mem.words)), (0, some (.box true [.sl false .word 1, .sl false .bool 2, .sl false .span 3, .sl false .span 4]))], nums.tail.tail.tail.tail.tail.tail.tail.tail.tail.tail.tail.tail, [], false, []⟩)
      (fun q => q.1 ≤ 24 ∧ q.2.1 = (cleanW t.mem.gone t.mem.words).take q.1 ++ t.mem.words.drop q.1 ∧ q.2.2 = (List.replicate 24 false).take q.1 ++ t.mem.gone.drop q.1) (fun q => 24 - q.1) (fun q R hI hR => ?_) (0, t.mem.words, t.mem.gone) _ ⟨by simp, by simp, by simp⟩ (by dsimp only; omega)
  obtain ⟨i, vs, gs⟩ := q
  obtain ⟨hi, hv, hg⟩ := hI
  dsimp only at hi hv hg
  dsimp only
  have hcl := cleanW_len t.mem.gone t.mem.words
  have hvl : vs.length = 24 := by rw [hv]; simp; omega
  have hgl : gs.length = 24 := by rw [hg]; simp; omega
  have hrl2 : (List.replicate 24 false).length = t.mem.gone.length := by simp [m2]
  have hw := hp2.2.2
  conv => whnf
  repeat' (first | (refine sel_i (fun h => ?_) (fun h => ?_) <;> conv => whnf) | (refine chk_c ?_ ?_ <;> conv => whnf) | (refine And.intro ?_ rfl) | (refine And.intro ?_ ?_ <;> conv => whnf))
  all_goals (try simp only [etaMemory, etaWord, etaKey, Int.toNat_natCast, show FT.zero .bool = false from rfl, decide_eq_true_eq, decide_eq_false_iff_not, List.length_set] at *)
  all_goals try (refine ⟨?_⟩; first | assumption | omega)
  · rename_i g1
    rw [heapOk_gone hok (by omega)] at g1
    rw [wrap_id (n := (i : Int) + 1) (by omega) (by omega), List.set_set, plainW_0]
    exact hR (i + 1, vs.set i ⟨0, false, ⟨0, 0, 0, 0⟩⟩, gs.set i false) ⟨by dsimp only; omega, by rw [hv]; exact set_mid (by omega) (by omega) (cleanW_yes (by omega) g1), by rw [hg]; exact set_mid hrl2 (by omega) (by rw [List.getElem?_replicate, if_pos (by omega)])⟩ (by dsimp only; omega)
  · rename_i g1
    rw [heapOk_gone hok (by omega)] at g1
    rw [wrap_id (n := (i : Int) + 1) (by omega) (by omega)]
    exact hR (i + 1, vs.set i (filterW t.mem.gone (t.mem.words.getD i (FT.zero .word))), gs.set i false) ⟨by dsimp only; omega, by rw [hv]; exact set_mid (by omega) (by omega) (cleanW_no (by omega) g1), by rw [hg]; exact set_mid hrl2 (by omega) (by rw [List.getElem?_replicate, if_pos (by omega)])⟩ (by dsimp only; omega)
  · have e : i = 24 := by omega
    subst e
    rw [List.take_of_length_le (by omega), List.drop_eq_nil_of_le (by omega), List.append_nil] at hv
    rw [List.take_of_length_le (by simp), List.drop_eq_nil_of_le (by omega), List.append_nil] at hg
    rw [hv, hz, hg]; rfl
theorem ok_spec_Clean : FunOk Tryz.prog c_spec_Clean := funOk (E := [c_spec_HeapOk, c_spec_l23Copy, c_spec_Filter, c_spec_l23In, c_spec_Plain]) (envOk_cons ok_spec_HeapOk (envOk_cons ok_spec_l23Copy (envOk_cons ok_spec_Filter (envOk_cons ok_spec_l23In (envOk_cons ok_spec_Plain (envOk_nil)))))) mixd Tryz.func13 (pf := pf_spec_Clean) (by kernel_rfl) fun ts K h => by
  obtain ⟨t0, t1, e0, h⟩ := as2_out h
  subst e0
  obtain ⟨t, e1, hq⟩ := arG_out rd_heap h
  clear h
  subst e1
  have h := hq
  clear hq
  obtain ⟨rs, e1, hq⟩ := arC_out (rd_l .word) h
  clear h
  subst e1
  have h := hq
  clear hq
  obtain ⟨hpre, h⟩ := chk_o h
  exact ⟨_, _, h, Nat.le_of_ble_eq_true (show Nat.ble 2 Tryz.f13.ntmps = true by kernel_rfl), _, run_spec_Clean t rs hpre⟩


def tryW (w : Word) (n p : Int) : Int := if w.is = false ∨ wordOk w = false then 1 else if w.key.sealed ≠ 0 then 2 else if andI w.key.perms p ≠ p then 3 else if n < w.key.base ∨ w.key.top ≤ n then 4 else 0
def takenW (y w : Word) : Word := if andI y.key.perms 8 = 0 then plainW w.n else w
def mayPut (y w : Word) : Bool := !w.is || andI y.key.perms 16 != 0
def openW (w : Word) : Bool := wordOk w && w.is && w.key.sealed == 0
def weakenW (w : Word) (m : Int) : Word := if openW w then { w with key := { w.key with perms := andI w.key.perms (andI m 63) } } else plainW w.n
def narrowW (w : Word) (n : Int) : Word :=
  if openW w && inR n 0 4096 && boundsOk w.n (IntKind.i64.wrap (w.n + n)) then
    (if (wide w.n (IntKind.i64.wrap (w.n + n))).1 < w.key.base ∨ w.key.top < (wide w.n (IntKind.i64.wrap (w.n + n))).2 then plainW w.n else { w with key := { w.key with base := (wide w.n (IntKind.i64.wrap (w.n + n))).1, top := (wide w.n (IntKind.i64.wrap (w.n + n))).2 } })
  else plainW w.n
def pointW (w : Word) (n : Int) : Word := if openW w then ⟨andI n 65535, true, w.key⟩ else plainW n
def sealsB (y : Word) : Bool := openW y && (andI y.key.perms 32 != 0) && decide (y.key.base ≤ y.n) && decide (y.n < y.key.top) && inR y.n 1 7
def sealBy (w y : Word) : Word := if openW w && sealsB y then { w with key := { w.key with sealed := y.n } } else plainW w.n
def openBy (w y : Word) : Word := if wordOk w && w.is && sealsB y && w.key.sealed == y.n then { w with key := { w.key with sealed := 0 } } else plainW w.n

def pf_spec_Try : PF := ⟨[.t 6], .seq (.reg [.s (.box 3 (.t 0)), .s (.mv 6 (.k (.v (.c (.int .i64 0)))))]) (.seq (.blk 0 (.seq (.reg [.s (.load 8 true 6 (.t 3)), .s (.call (some 9) 77 [(.t 8)]), .s (.bnot 10 (.t 9)), .s (.mv 11 (.t 10)), .g 11 false (some 12) (.fa 12 (.t 3) 1), .g 11 false (some 13) (.load 13 false 1 (.t 12)), .g 11 false (some 14) (.bnot 14 (.t 13)), .s (.pick 15 (.t 11) (.k (.v (.c .tt))) (.t 14)), .s (.mv 7 (.t 15))]) (.cond (.t 7) (.seq (.reg [.s (.mv 6 (.k (.v (.c (.int .i64 1)))))]) (.ret)) (.seq (.reg [.s (.fa 17 (.t 3) 2), .s (.fa 18 (.t 17) 3), .s (.load 19 false 1 (.t 18)), .s (.bin 20 .neq (.t 19) (.k (.v (.c (.int .i64 0))))), .s (.mv 16 (.t 20))]) (.cond (.t 16) (.seq (.reg [.s (.mv 6 (.k (.v (.c (.int .i64 2)))))]) (.ret)) (.seq (.reg [.s (.fa 22 (.t 3) 2), .s (.fa 23 (.t 22) 2), .s (.load 24 false 1 (.t 23)), .s (.mv 25 (.t 2)), .s (.bin 26 .and (.t 24) (.t 25)), .s (.mv 27 (.t 2)), .s (.bin 28 .neq (.t 26) (.t 27)), .s (.mv 21 (.t 28))]) (.cond (.t 21) (.seq (.reg [.s (.mv 6 (.k (.v (.c (.int .i64 3)))))]) (.ret)) (.seq (.reg [.s (.mv 30 (.t 1)), .s (.fa 31 (.t 3) 2), .s (.fa 32 (.t 31) 0), .s (.load 33 false 1 (.t 32)), .s (.bin 34 .lss (.t 30) (.t 33)), .s (.mv 35 (.t 34)), .g 35 false (some 36) (.mv 36 (.t 1)), .g 35 false (some 37) (.fa 37 (.t 3) 2), .g 35 false (some 38) (.fa 38 (.t 37) 1), .g 35 false (some 39) (.load 39 false 1 (.t 38)), .g 35 false (some 40) (.bin 40 .geq (.t 36) (.t 39)), .s (.pick 41 (.t 35) (.k (.v (.c .tt))) (.t 40)), .s (.mv 29 (.t 41))]) (.cond (.t 29) (.seq (.reg [.s (.mv 6 (.k (.v (.c (.int .i64 4)))))]) (.ret)) (.skip)))))))))) (.seq (.reg [.s (.mv 6 (.k (.v (.c (.int .i64 0)))))]) (.ret)))⟩
def c_spec_Try : Fun := ⟨102, [], fun ts K => as3 ts fun t0 t1 t2 => arG pWordT t0 fun w => arC (pI .i64) t1 fun n => arC (pI .i64) t2 fun p => K (tN (tryW w n p)) []⟩
theorem run_spec_Try (w : Word) (n : Int) (p : Int) : runK [c_spec_WordOk] (0) [] pf_spec_Try [tG (w.tc []), tI .i64 n, tI .i64 p] fun r o => r = tN (tryW w n p) ∧ o = [] := by
  conv => whnf
  repeat' (first | (refine sel_i (fun h => ?_) (fun h => ?_) <;> conv => whnf) | (refine chk_c ?_ ?_ <;> conv => whnf) | (refine And.intro ?_ rfl) | (refine And.intro ?_ ?_ <;> conv => whnf))
  all_goals (try simp only [etaKey, etaWord, andI_eq, Bool.not_eq_true', Bool.not_eq_false', decide_eq_true_eq, decide_eq_false_iff_not, bne_iff_ne, ne_eq, bne_eq_false_iff_eq, beq_iff_eq, beq_eq_false_iff_ne] at *)
  all_goals first | (simp_all [tryW]; done) | (simp_all [tryW]; omega) | trace_state
theorem ok_spec_Try : FunOk Tryz.prog c_spec_Try := funOk (E := [c_spec_WordOk]) (envOk_cons ok_spec_WordOk (envOk_nil)) mixd Tryz.func102 (pf := pf_spec_Try) (by kernel_rfl) fun ts K h => by
  obtain ⟨t0, t1, t2, e0, h⟩ := as3_out h
  subst e0
  obtain ⟨w, e1, hq⟩ := arG_out rd_word h
  clear h
  subst e1
  have h := hq
  clear hq
  obtain ⟨n, e1, hq⟩ := arC_out (rd_int .i64) h
  clear h
  subst e1
  have h := hq
  clear hq
  obtain ⟨p, e1, hq⟩ := arC_out (rd_int .i64) h
  clear h
  subst e1
  have h := hq
  clear hq
  exact ⟨_, _, h, Nat.le_of_ble_eq_true (show Nat.ble 3 Tryz.f102.ntmps = true by kernel_rfl), _, run_spec_Try w n p⟩

def pf_spec_MayPut : PF := ⟨[.t 4], .seq (.reg [.s (.box 2 (.t 0)), .s (.box 3 (.t 1)), .s (.mv 4 (.k (.v (.c .ff))))]) (.seq (.reg [.s (.fa 5 (.t 3) 1), .s (.load 6 false 1 (.t 5)), .s (.bnot 7 (.t 6)), .s (.mv 8 (.t 7)), .g 8 false (some 9) (.fa 9 (.t 2) 2), .g 8 false (some 10) (.fa 10 (.t 9) 2), .g 8 false (some 11) (.load 11 false 1 (.t 10)), .g 8 false (some 12) (.bin 12 .and (.t 11) (.k (.v (.c (.int .i64 16))))), .g 8 false (some 13) (.bin 13 .neq (.t 12) (.k (.v (.c (.int .i64 0))))), .s (.pick 14 (.t 8) (.k (.v (.c .tt))) (.t 13)), .s (.mv 4 (.t 14))]) (.ret))⟩
def c_spec_MayPut : Fun := ⟨103, [], fun ts K => as2 ts fun t0 t1 => arG pWordT t0 fun y => arG pWordT t1 fun w => K (tB (mayPut y w)) []⟩
theorem run_spec_MayPut (y : Word) (w : Word) : runK [] (0) [] pf_spec_MayPut [tG (y.tc []), tG (w.tc [])] fun r o => r = tB (mayPut y w) ∧ o = [] := by
  conv => whnf
  repeat' (first | (refine sel_i (fun h => ?_) (fun h => ?_) <;> conv => whnf) | (refine chk_c ?_ ?_ <;> conv => whnf) | (refine And.intro ?_ rfl) | (refine And.intro ?_ ?_ <;> conv => whnf))
  all_goals (try simp only [etaKey, etaWord, andI_eq, Bool.not_eq_true', Bool.not_eq_false', decide_eq_true_eq, decide_eq_false_iff_not, bne_iff_ne, ne_eq, bne_eq_false_iff_eq, beq_iff_eq, beq_eq_false_iff_ne] at *)
  all_goals first | (simp_all [mayPut]; done) | (simp_all [mayPut]; omega) | trace_state
theorem ok_spec_MayPut : FunOk Tryz.prog c_spec_MayPut := funOk (E := []) (envOk_nil) mixd Tryz.func103 (pf := pf_spec_MayPut) (by kernel_rfl) fun ts K h => by
  obtain ⟨t0, t1, e0, h⟩ := as2_out h
  subst e0
  obtain ⟨y, e1, hq⟩ := arG_out rd_word h
  clear h
  subst e1
  have h := hq
  clear hq
  obtain ⟨w, e1, hq⟩ := arG_out rd_word h
  clear h
  subst e1
  have h := hq
  clear hq
  exact ⟨_, _, h, Nat.le_of_ble_eq_true (show Nat.ble 2 Tryz.f103.ntmps = true by kernel_rfl), _, run_spec_MayPut y w⟩

def pf_spec_l4Open : PF := ⟨[.t 2], .seq (.reg [.s (.box 1 (.t 0)), .s (.mv 2 (.k (.v (.c .ff))))]) (.seq (.reg [.s (.load 3 true 6 (.t 1)), .s (.call (some 4) 77 [(.t 3)]), .s (.mv 5 (.t 4)), .g 5 true (some 6) (.fa 6 (.t 1) 1), .g 5 true (some 7) (.load 7 false 1 (.t 6)), .s (.pick 8 (.t 5) (.t 7) (.k (.v (.c .ff)))), .s (.mv 9 (.t 8)), .g 9 true (some 10) (.fa 10 (.t 1) 2), .g 9 true (some 11) (.fa 11 (.t 10) 3), .g 9 true (some 12) (.load 12 false 1 (.t 11)), .g 9 true (some 13) (.bin 13 .eql (.t 12) (.k (.v (.c (.int .i64 0))))), .s (.pick 14 (.t 9) (.t 13) (.k (.v (.c .ff)))), .s (.mv 2 (.t 14))]) (.ret))⟩
def c_spec_l4Open : Fun := ⟨94, [], fun ts K => as1 ts fun t0 => arG pWordT t0 fun w => K (tB (openW w)) []⟩
theorem run_spec_l4Open (w : Word) : runK [c_spec_WordOk] (0) [] pf_spec_l4Open [tG (w.tc [])] fun r o => r = tB (openW w) ∧ o = [] := by
  conv => whnf
  repeat' (first | (refine sel_i (fun h => ?_) (fun h => ?_) <;> conv => whnf) | (refine chk_c ?_ ?_ <;> conv => whnf) | (refine And.intro ?_ rfl) | (refine And.intro ?_ ?_ <;> conv => whnf))
  all_goals (try simp only [etaKey, etaWord, andI_eq, Bool.not_eq_true', Bool.not_eq_false', decide_eq_true_eq, decide_eq_false_iff_not, bne_iff_ne, ne_eq, bne_eq_false_iff_eq, beq_iff_eq, beq_eq_false_iff_ne] at *)
  all_goals first | (simp_all [openW]; done) | (simp_all [openW]; omega) | trace_state
theorem ok_spec_l4Open : FunOk Tryz.prog c_spec_l4Open := funOk (E := [c_spec_WordOk]) (envOk_cons ok_spec_WordOk (envOk_nil)) mixd Tryz.func94 (pf := pf_spec_l4Open) (by kernel_rfl) fun ts K h => by
  obtain ⟨t0, e0, h⟩ := as1_out h
  subst e0
  obtain ⟨w, e1, hq⟩ := arG_out rd_word h
  clear h
  subst e1
  have h := hq
  clear hq
  exact ⟨_, _, h, Nat.le_of_ble_eq_true (show Nat.ble 1 Tryz.f94.ntmps = true by kernel_rfl), _, run_spec_l4Open w⟩

theorem narrow_no {w : Word} {n : Int} (h : ¬ (openW w = true ∧ (0 ≤ n ∧ n ≤ 4096) ∧ boundsOk w.n (IntKind.i64.wrap (w.n + n)) = true)) : narrowW w n = plainW w.n := by
  unfold narrowW
  rw [if_neg]
  intro hh
  simp only [Bool.and_eq_true, inR_t] at hh
  exact h ⟨hh.1.1, hh.1.2, hh.2⟩
theorem narrow_yes {w : Word} {n : Int} (h : openW w = true ∧ (0 ≤ n ∧ n ≤ 4096) ∧ boundsOk w.n (IntKind.i64.wrap (w.n + n)) = true) : narrowW w n = if (wide w.n (IntKind.i64.wrap (w.n + n))).1 < w.key.base ∨ w.key.top < (wide w.n (IntKind.i64.wrap (w.n + n))).2 then plainW w.n else { w with key := { w.key with base := (wide w.n (IntKind.i64.wrap (w.n + n))).1, top := (wide w.n (IntKind.i64.wrap (w.n + n))).2 } } := by
  unfold narrowW
  rw [if_pos]
  simp only [Bool.and_eq_true, inR_t]
  exact ⟨⟨h.1, h.2.1⟩, h.2.2⟩

def pf_spec_Narrow : PF := ⟨[.c 4 true 6], .seq (.reg [.s (.box 2 (.t 0)), .s (.alloc 4 [.int .i64 0, .ff, .int .i64 0, .int .i64 0, .int .i64 0, .int .i64 0])]) (.seq (.seq (.reg [.s (.load 7 true 6 (.t 2)), .s (.call (some 8) 94 [(.t 7)]), .s (.bnot 9 (.t 8)), .s (.mv 10 (.t 9)), .g 10 false (some 11) (.mv 11 (.t 1)), .g 10 false (some 12) (.call (some 12) 34 [(.t 11), (.k (.v (.c (.int .i64 0)))), (.k (.v (.c (.int .i64 4096))))]), .g 10 false (some 13) (.bnot 13 (.t 12)), .s (.pick 14 (.t 10) (.k (.v (.c .tt))) (.t 13)), .s (.mv 15 (.t 14)), .g 15 false (some 16) (.fa 16 (.t 2) 0), .g 15 false (some 17) (.load 17 false 1 (.t 16)), .g 15 false (some 18) (.fa 18 (.t 2) 0), .g 15 false (some 19) (.load 19 false 1 (.t 18)), .g 15 false (some 20) (.mv 20 (.t 1)), .g 15 false (some 21) (.bin 21 .add (.t 19) (.t 20)), .g 15 false (some 22) (.call (some 22) 95 [(.t 17), (.t 21)]), .g 15 false (some 23) (.bnot 23 (.t 22)), .s (.pick 24 (.t 15) (.k (.v (.c .tt))) (.t 23))]) (.cond (.t 24) (.seq (.reg [.s (.load 25 true 6 (.t 2)), .s (.call (some 26) 73 [(.t 25)]), .s (.store 6 (.t 4) (.t 26))]) (.ret)) (.skip))) (.seq (.reg [.s (.fa 28 (.t 2) 0), .s (.load 29 false 1 (.t 28)), .s (.fa 30 (.t 2) 0), .s (.load 31 false 1 (.t 30)), .s (.mv 32 (.t 1)), .s (.bin 33 .add (.t 31) (.t 32)), .s (.call (some 34) 96 [(.t 29), (.t 33)]), .s (.mv 27 (.t 34)), .s (.ext 35 (.t 27) 0), .s (.ext 36 (.t 27) 1), .s (.mv 5 (.t 35)), .s (.mv 6 (.t 36))]) (.seq (.seq (.reg [.s (.mv 37 (.t 5)), .s (.fa 38 (.t 2) 2), .s (.fa 39 (.t 38) 0), .s (.load 40 false 1 (.t 39)), .s (.bin 41 .lss (.t 37) (.t 40)), .s (.mv 42 (.t 41)), .g 42 false (some 43) (.mv 43 (.t 6)), .g 42 false (some 44) (.fa 44 (.t 2) 2), .g 42 false (some 45) (.fa 45 (.t 44) 1), .g 42 false (some 46) (.load 46 false 1 (.t 45)), .g 42 false (some 47) (.bin 47 .gtr (.t 43) (.t 46)), .s (.pick 48 (.t 42) (.k (.v (.c .tt))) (.t 47))]) (.cond (.t 48) (.seq (.reg [.s (.load 49 true 6 (.t 2)), .s (.call (some 50) 73 [(.t 49)]), .s (.store 6 (.t 4) (.t 50))]) (.ret)) (.skip))) (.seq (.reg [.s (.mv 51 (.t 5)), .s (.fa 52 (.t 2) 2), .s (.fa 53 (.t 52) 0), .s (.store 1 (.t 53) (.t 51))]) (.seq (.reg [.s (.mv 54 (.t 6)), .s (.fa 55 (.t 2) 2), .s (.fa 56 (.t 55) 1), .s (.store 1 (.t 56) (.t 54))]) (.seq (.reg [.s (.load 57 true 6 (.t 2)), .s (.store 6 (.t 4) (.t 57))]) (.ret)))))))⟩
def c_spec_Narrow : Fun := ⟨81, [], fun ts K => as2 ts fun t0 t1 => arG pWordT t0 fun w => arC (pI .i64) t1 fun n => K (tG ((narrowW w n).tc [])) []⟩
theorem run_spec_Narrow (w : Word) (n : Int) : runK [c_spec_l1In, c_spec_Bare, c_spec_l4Open, c_spec_BoundsOk, c_spec_Wide] (0) [] pf_spec_Narrow [tG (w.tc []), tI .i64 n] fun r o => r = tG ((narrowW w n).tc []) ∧ o = [] := by
  by_cases hc : openW w = true ∧ (0 ≤ n ∧ n ≤ 4096) ∧ boundsOk w.n (IntKind.i64.wrap (w.n + n)) = true
  · rw [narrow_yes hc]
    obtain ⟨g1, g2, g3⟩ := hc
    conv => whnf
    repeat' (first | (refine sel_i (fun h => ?_) (fun h => ?_) <;> conv => whnf) | (refine chk_c ?_ ?_ <;> conv => whnf) | (refine And.intro ?_ rfl) | (refine And.intro ?_ ?_ <;> conv => whnf))
    all_goals (try simp only [etaKey, etaWord, inR_t, inR_f, g1, g3, Bool.not_eq_true', Bool.not_eq_false', Bool.true_eq_false, Bool.not_true, Bool.false_eq_true, decide_eq_true_eq, decide_eq_false_iff_not] at *)
    all_goals first
      | contradiction
      | (exfalso; omega)
      | (rw [if_pos (by omega)]; rfl)
      | (rw [if_neg (by omega)]; rfl)
      | trace_state
  · rw [narrow_no hc]
    conv => whnf
    repeat' (first | (refine sel_i (fun h => ?_) (fun h => ?_) <;> conv => whnf) | (refine chk_c ?_ ?_ <;> conv => whnf) | (refine And.intro ?_ rfl) | (refine And.intro ?_ ?_ <;> conv => whnf))
    all_goals (try simp only [etaKey, etaWord, inR_t, inR_f, Bool.not_eq_true', Bool.not_eq_false', decide_eq_true_eq, decide_eq_false_iff_not] at *)
    all_goals first
      | rfl
      | exact absurd ⟨by assumption, by omega, by assumption⟩ hc
      | trace_state
theorem ok_spec_Narrow : FunOk Tryz.prog c_spec_Narrow := funOk (E := [c_spec_l1In, c_spec_Bare, c_spec_l4Open, c_spec_BoundsOk, c_spec_Wide]) (envOk_cons ok_spec_l1In (envOk_cons ok_spec_Bare (envOk_cons ok_spec_l4Open (envOk_cons ok_spec_BoundsOk (envOk_cons ok_spec_Wide (envOk_nil)))))) mixd Tryz.func81 (pf := pf_spec_Narrow) (by kernel_rfl) fun ts K h => by
  obtain ⟨t0, t1, e0, h⟩ := as2_out h
  subst e0
  obtain ⟨w, e1, hq⟩ := arG_out rd_word h
  clear h
  subst e1
  have h := hq
  clear hq
  obtain ⟨n, e1, hq⟩ := arC_out (rd_int .i64) h
  clear h
  subst e1
  have h := hq
  clear hq
  exact ⟨_, _, h, Nat.le_of_ble_eq_true (show Nat.ble 2 Tryz.f81.ntmps = true by kernel_rfl), _, run_spec_Narrow w n⟩

def formS (op : Int) : ByteArray :=
  if op = 1 then ⟨#[82, 78]⟩ else if op = 2 ∨ op = 4 ∨ op = 5 ∨ op = 7 ∨ op = 8 then ⟨#[82, 65, 66]⟩ else if op = 3 ∨ op = 9 ∨ op = 12 then ⟨#[82, 65]⟩ else if op = 6 then ⟨#[82, 65, 66, 78]⟩ else
  if op = 10 then ⟨#[82, 65, 78]⟩ else if op = 11 then ⟨#[65, 66, 78]⟩ else if op = 13 then ⟨#[65, 78]⟩ else if op = 14 then ⟨#[65]⟩ else ⟨#[]⟩
def maskI (op : Int) : Int := if inR op 1 15 then ([0, 9, 7, 3, 7, 7, 15, 7, 7, 3, 11, 14, 3, 10, 2, 0] : List Int).getD op.toNat 0 else 0
def hasC (op c : Int) : Bool := (bytesI (formS op)).any (fun b => c == b)
def fld (v : Int) (b : Bool) : Bool := inR v 0 7 && (b || v == 0)
def insOk (x : Inst) : Bool := inR x.op 1 15 && fld x.r (andI (maskI x.op) 1 != 0) && fld x.a (andI (maskI x.op) 2 != 0) && fld x.b (andI (maskI x.op) 4 != 0) && inR x.n (-128) 127 && (andI (maskI x.op) 8 != 0 || x.n == 0)

abbrev zW : Word := ⟨0, false, ⟨0, 0, 0, 0⟩⟩
abbrev zI : Inst := ⟨0, 0, 0, 0, 0⟩
def readC (m : Mem) (y : Word) (n : Int) : Int := if tryW y n 1 ≠ 0 then tryW y n 1 else if inR n 0 (m.words.length - 1) then 0 else 4
def readM (m : Mem) (y : Word) (n : Int) : Word × Int := if readC m y n ≠ 0 then (zW, readC m y n) else (filterW m.gone (takenW y (m.words.getD n.toNat (FT.zero .word))), 0)
def writeC (m : Mem) (y : Word) (n : Int) (w : Word) : Int := if tryW y n 2 ≠ 0 then tryW y n 2 else if inR n 0 (m.words.length - 1) = false then 4 else if mayPut y w = false then 3 else 0
def fetchI (l : List Inst) (pc : Word) : Inst × Int := if tryW pc pc.n 4 ≠ 0 then (zI, tryW pc pc.n 4) else if inR pc.n 0 (l.length - 1) = false ∨ insOk (l.getD pc.n.toNat (FT.zero .inst)) = false then (zI, 4) else (l.getD pc.n.toNat (FT.zero .inst), 0)
def trapE (c : Int) (pc : Word) : Eff := ⟨c, -1, zW, pc, -1, zW, -1⟩
def madeW (x : Inst) (a b got : Word) : Word :=
  if x.op = 1 then plainW x.n else if x.op = 2 then plainW (IntKind.i64.wrap (a.n + b.n)) else if x.op = 3 then a else if x.op = 4 then weakenW a b.n else if x.op = 5 then narrowW a b.n else
  if x.op = 6 then pointW a (IntKind.i64.wrap (IntKind.i64.wrap (a.n + b.n) + x.n)) else if x.op = 7 then sealBy a b else if x.op = 8 then openBy a b else if x.op = 9 then (if a.is then plainW 1 else plainW 0) else got
def nextW (pc : Word) : Word := pointW pc (IntKind.i64.wrap (pc.n + 1))
def workE (x : Inst) (pc a b got : Word) : Eff :=
  if x.op = 11 then ⟨0, -1, zW, nextW pc, IntKind.i64.wrap (a.n + x.n), b, -1⟩ else
  if x.op = 12 then (if tryW a a.n 4 ≠ 0 then trapE (tryW a a.n 4) pc else ⟨0, x.r, nextW pc, a, -1, zW, -1⟩) else
  if x.op = 13 then ⟨0, -1, zW, if a.n = 0 then pointW pc (IntKind.i64.wrap (pc.n + x.n)) else nextW pc, -1, zW, -1⟩ else
  if x.op = 14 then (if tryW a a.n 32 ≠ 0 then trapE (tryW a a.n 32) pc else ⟨0, -1, zW, nextW pc, -1, zW, a.key.base⟩) else
  if x.op = 15 then trapE 5 pc else
  if hasC x.op 82 then ⟨0, x.r, if 0 ≤ x.r then madeW x a b got else zW, nextW pc, -1, zW, -1⟩ else ⟨0, -1, zW, nextW pc, -1, zW, -1⟩

theorem writeC_t {m : Mem} {y w : Word} {n : Int} (h : ¬ tryW y n 2 = 0) : writeC m y n w = tryW y n 2 := if_pos h
theorem writeC_b {m : Mem} {y w : Word} {n : Int} (h : tryW y n 2 = 0) (hb : n < 0 ∨ m.words.length - 1 < n) : writeC m y n w = 4 := by
  unfold writeC; rw [if_neg (fun q => q h), if_pos (by rw [inR_f]; omega)]
theorem writeC_p {m : Mem} {y w : Word} {n : Int} (h : tryW y n 2 = 0) (hb : 0 ≤ n ∧ n ≤ m.words.length - 1) (hp : mayPut y w = false) : writeC m y n w = 3 := by
  unfold writeC; rw [if_neg (fun q => q h), if_neg (by rw [inR_f]; omega), if_pos hp]
theorem writeC_0 {m : Mem} {y w : Word} {n : Int} (h : tryW y n 2 = 0) (hb : 0 ≤ n ∧ n ≤ m.words.length - 1) (hp : mayPut y w = true) : writeC m y n w = 0 := by
  unfold writeC; rw [if_neg (fun q => q h), if_neg (by rw [inR_f]; omega), if_neg (by rw [hp]; decide)]
def pf_spec_l8Write : PF := ⟨[.t 8], .seq (.reg [.s (.box 4 (.t 0)), .s (.box 5 (.t 1)), .s (.box 7 (.t 3)), .s (.mv 8 (.k (.v (.c (.int .i64 0)))))]) (.seq (.reg [.s (.load 10 true 6 (.t 5)), .s (.mv 11 (.t 2)), .s (.call (some 12) 102 [(.t 10), (.t 11), (.k (.v (.c (.int .i64 2))))]), .s (.mv 9 (.t 12))]) (.seq (.blk 0 (.seq (.reg [.s (.mv 14 (.t 9)), .s (.bin 15 .neq (.t 14) (.k (.v (.c (.int .i64 0))))), .s (.mv 13 (.t 15))]) (.cond (.t 13) (.seq (.reg [.s (.mv 16 (.t 9)), .s (.mv 8 (.t 16))]) (.ret)) (.seq (.reg [.s (.mv 18 (.t 2)), .s (.fa 19 (.t 4) 0), .s (.load 20 false 1 (.t 19)), .s (.len 21 false (.t 20)), .s (.bin 22 .sub (.t 21) (.k (.v (.c (.int .i64 1))))), .s (.call (some 23) 34 [(.t 18), (.k (.v (.c (.int .i64 0)))), (.t 22)]), .s (.bnot 24 (.t 23)), .s (.mv 17 (.t 24))]) (.cond (.t 17) (.seq (.reg [.s (.mv 8 (.k (.v (.c (.int .i64 4)))))]) (.ret)) (.seq (.reg [.s (.load 26 true 6 (.t 5)), .s (.load 27 true 6 (.t 7)), .s (.call (some 28) 103 [(.t 26), (.t 27)]), .s (.bnot 29 (.t 28)), .s (.mv 25 (.t 29))]) (.cond (.t 25) (.seq (.reg [.s (.mv 8 (.k (.v (.c (.int .i64 3)))))]) (.ret)) (.skip)))))))) (.seq (.reg [.s (.mv 8 (.k (.v (.c (.int .i64 0)))))]) (.ret))))⟩
def c_spec_l8Write : Fun := ⟨97, [], fun ts K => as4 ts fun t0 t1 t2 t3 => arG pMemT t0 fun m => arG pWordT t1 fun y => arC (pI .i64) t2 fun n => arG pWordT t3 fun w => chk (LMem m 2147483647) (K (tN (writeC m y n w)) [])⟩
theorem run_spec_l8Write (m : Mem) (y : Word) (n : Int) (w : Word) (hpre : LMem m 2147483647) : runK [c_spec_l1In, c_spec_Try, c_spec_MayPut] (0) [] pf_spec_l8Write [tG (m.tc false []), tG (y.tc []), tI .i64 n, tG (w.tc [])] fun r o => r = tN (writeC m y n w) ∧ o = [] := by
  have l2 := hpre.1
  have w1 : IntKind.i64.wrap ((m.words.length : Int) - 1) = (m.words.length : Int) - 1 := wrap_id (by omega) (by omega)
  conv => whnf
  repeat' (first | (refine sel_i (fun h => ?_) (fun h => ?_) <;> conv => whnf) | (refine chk_c ?_ ?_ <;> conv => whnf) | (refine And.intro ?_ rfl) | (refine And.intro ?_ ?_ <;> conv => whnf))
  all_goals (try simp only [etaKey, etaWord, etaInst, etaMemory, w1, bne_iff_ne, ne_eq, bne_eq_false_iff_eq, beq_iff_eq, beq_eq_false_iff_ne, Bool.not_eq_true', Bool.not_eq_false', inR_t, inR_f, decide_eq_true_eq, decide_eq_false_iff_not] at *)
  all_goals first
    | (exfalso; omega)
    | (refine ⟨?_⟩; first | assumption | omega | decide)
    | (rw [writeC_t (by assumption)]; done)
    | (rw [writeC_b (by assumption) (by omega)]; done)
    | (rw [writeC_p (by assumption) (by omega) (by assumption)]; done)
    | (rw [writeC_0 (by assumption) (by omega) (by assumption)]; done)
    | trace_state
theorem ok_spec_l8Write : FunOk Tryz.prog c_spec_l8Write := funOk (E := [c_spec_l1In, c_spec_Try, c_spec_MayPut]) (envOk_cons ok_spec_l1In (envOk_cons ok_spec_Try (envOk_cons ok_spec_MayPut (envOk_nil)))) mixd Tryz.func97 (pf := pf_spec_l8Write) (by kernel_rfl) fun ts K h => by
  obtain ⟨t0, t1, t2, t3, e0, h⟩ := as4_out h
  subst e0
  obtain ⟨m, e1, hq⟩ := arG_out rd_mem h
  clear h
  subst e1
  have h := hq
  clear hq
  obtain ⟨y, e1, hq⟩ := arG_out rd_word h
  clear h
  subst e1
  have h := hq
  clear hq
  obtain ⟨n, e1, hq⟩ := arC_out (rd_int .i64) h
  clear h
  subst e1
  have h := hq
  clear hq
  obtain ⟨w, e1, hq⟩ := arG_out rd_word h
  clear h
  subst e1
  have h := hq
  clear hq
  obtain ⟨hpre, h⟩ := chk_o h
  exact ⟨_, _, h, Nat.le_of_ble_eq_true (show Nat.ble 4 Tryz.f97.ntmps = true by kernel_rfl), _, run_spec_l8Write m y n w hpre⟩


def memE (m : Mem) (x : Inst) (a b : Word) : Word × Int :=
  if x.op = 10 then readM m a (IntKind.i64.wrap (a.n + x.n)) else if x.op = 11 then (zW, writeC m a (IntKind.i64.wrap (a.n + x.n)) b) else (zW, 0)
def effE (l : List Inst) (s : State) : Eff :=
  let x := (fetchI l s.pc).1
  let a := s.regs.getD x.a.toNat (FT.zero .word)
  let b := s.regs.getD x.b.toNat (FT.zero .word)
  if (fetchI l s.pc).2 ≠ 0 then trapE (fetchI l s.pc).2 s.pc else
  if (memE s.mem x a b).2 ≠ 0 then trapE (memE s.mem x a b).2 s.pc else workE x s.pc a b (memE s.mem x a b).1
def putE (s : State) (e : Eff) : State :=
  ⟨if inR e.r 0 7 then s.regs.set e.r.toNat e.val else s.regs, e.next,
   ⟨if inR e.addr 0 23 then s.mem.words.set e.addr.toNat e.put else s.mem.words, if inR e.drop 0 23 then s.mem.gone.set e.drop.toNat true else s.mem.gone⟩, s.trap⟩
abbrev zState : State := ⟨[], zW, ⟨[], []⟩, 0⟩
def stepS (l : List Inst) (s : State) : State :=
  if stateOk s = false then zState else if s.trap ≠ 0 then s else if (effE l s).trap ≠ 0 then ⟨s.regs, s.pc, s.mem, (effE l s).trap⟩ else putE s (effE l s)
def LenOk (s : State) : Prop := s.regs.length = 8 ∧ s.mem.words.length = 24 ∧ s.mem.gone.length = 24
theorem LenOk.l {s : State} (h : LenOk s) : LState s 2147483647 := by
  obtain ⟨h1, h2, h3⟩ := h; exact ⟨by omega, by omega, by omega⟩
theorem fetchI_ok {l : List Inst} {pc : Word} (h : (fetchI l pc).2 = 0) : insOk (fetchI l pc).1 = true := by
  unfold fetchI at h ⊢
  split at h
  · contradiction
  · rename_i h1
    rw [if_neg h1]
    split at h
    · cases h
    · rename_i h2
      rw [if_neg h2]
      cases e : insOk (l.getD pc.n.toNat (FT.zero .inst)) with
      | true => rfl
      | false => exact absurd (.inr e) h2
theorem memE_10 {m : Mem} {x : Inst} {a b : Word} (h : x.op = 10) : memE m x a b = readM m a (IntKind.i64.wrap (a.n + x.n)) := if_pos h
theorem memE_11 {m : Mem} {x : Inst} {a b : Word} (h0 : ¬ x.op = 10) (h : x.op = 11) : memE m x a b = (zW, writeC m a (IntKind.i64.wrap (a.n + x.n)) b) := by unfold memE; rw [if_neg h0, if_pos h]
theorem memE_x {m : Mem} {x : Inst} {a b : Word} (h0 : ¬ x.op = 10) (h : ¬ x.op = 11) : memE m x a b = (zW, 0) := by unfold memE; rw [if_neg h0, if_neg h]

theorem stepS_trap {l : List Inst} {s : State} (h : stateOk s = true) (h2 : ¬ s.trap = 0) : stepS l s = s := by
  unfold stepS; rw [if_neg (by rw [h]; decide), if_pos h2]
theorem stepS_e {l : List Inst} {s : State} (h : stateOk s = true) (h2 : s.trap = 0) (h3 : ¬ (effE l s).trap = 0) : stepS l s = ⟨s.regs, s.pc, s.mem, (effE l s).trap⟩ := by
  unfold stepS; rw [if_neg (by rw [h]; decide), if_neg (by simpa using h2), if_pos h3]
theorem stepS_0 {l : List Inst} {s : State} (h : stateOk s = true) (h2 : s.trap = 0) (h3 : (effE l s).trap = 0) : stepS l s = putE s (effE l s) := by
  unfold stepS; rw [if_neg (by rw [h]; decide), if_neg (by simpa using h2), if_neg (by simpa using h3)]

theorem LState.mono {t : State} {n m : Nat} (h : LState t n) (k : n ≤ m) : LState t m := ⟨Nat.le_trans h.1 k, Nat.le_trans h.2.1 k, Nat.le_trans h.2.2 k⟩










/-! words that are right, and what they are under -/
theorem wrap_bv (n : Int) : BitVec.ofInt IntKind.i64.bits (IntKind.i64.wrap n) = BitVec.ofInt IntKind.i64.bits n := by
  apply BitVec.eq_of_toNat_eq
  simp only [BitVec.toNat_ofInt, IntKind.wrap_i64]
  show (_ % (18446744073709551616 : Int)).toNat = (n % (18446744073709551616 : Int)).toNat
  omega
theorem andI_bv (a b : Int) : BitVec.ofInt IntKind.i64.bits (andI a b) = BitVec.ofInt IntKind.i64.bits a &&& BitVec.ofInt IntKind.i64.bits b := by
  unfold andI
  rw [wrap_bv, BitVec.ofInt_natCast, BitVec.ofNat_toNat, BitVec.setWidth_eq]
theorem andI_comm (a b : Int) : andI a b = andI b a := by unfold andI; rw [BitVec.and_comm]
theorem andI_assoc (a b c : Int) : andI (andI a b) c = andI a (andI b c) := by
  have h1 : andI (andI a b) c = IntKind.i64.wrap ((BitVec.ofInt IntKind.i64.bits a &&& BitVec.ofInt IntKind.i64.bits b) &&& BitVec.ofInt IntKind.i64.bits c).toNat := by rw [← andI_bv]; rfl
  have h2 : andI a (andI b c) = IntKind.i64.wrap (BitVec.ofInt IntKind.i64.bits a &&& (BitVec.ofInt IntKind.i64.bits b &&& BitVec.ofInt IntKind.i64.bits c)).toNat := by rw [← andI_bv]; rfl
  rw [h1, h2, BitVec.and_assoc]
theorem andI_zero (a : Int) : andI a 0 = 0 := by
  unfold andI
  rw [show BitVec.ofInt IntKind.i64.bits 0 = 0#_ from rfl, BitVec.and_zero]; rfl
theorem andI_nat {m n : Nat} (h : n < 9223372036854775808) : andI (m : Int) (n : Int) = ((m % 18446744073709551616 &&& n : Nat) : Int) := by
  unfold andI
  rw [BitVec.ofInt_natCast, BitVec.ofInt_natCast, BitVec.toNat_and, BitVec.toNat_ofNat, BitVec.toNat_ofNat]
  show IntKind.i64.wrap ((m % 18446744073709551616 &&& n % 18446744073709551616 : Nat) : Int) = _
  rw [Nat.mod_eq_of_lt (a := n) (by omega)]
  have : m % 18446744073709551616 &&& n ≤ n := Nat.and_le_right
  exact wrap_id (by omega) (by omega)
theorem andI_le (a : Int) {p : Int} (h : 0 ≤ p) (h2 : p < 9223372036854775808) : 0 ≤ andI a p ∧ andI a p ≤ p := by
  obtain ⟨n, rfl⟩ := Int.eq_ofNat_of_zero_le h
  unfold andI
  have h1 : (BitVec.ofInt IntKind.i64.bits a &&& BitVec.ofInt IntKind.i64.bits (n : Int)).toNat ≤ n := by
    rw [BitVec.toNat_and, BitVec.ofInt_natCast, BitVec.toNat_ofNat]
    refine Nat.le_trans Nat.and_le_right (Nat.mod_le _ _)
  rw [wrap_id (by omega) (by omega)]; omega
theorem andI_le' {p : Int} (a : Int) (h : 0 ≤ p) (h2 : p < 9223372036854775808) : 0 ≤ andI p a ∧ andI p a ≤ p := by rw [andI_comm]; exact andI_le a h h2
theorem andI_same (a b : Int) : andI a (andI a b) = andI a b := by
  rw [← andI_assoc]
  have h1 : andI (andI a a) b = IntKind.i64.wrap ((BitVec.ofInt IntKind.i64.bits a &&& BitVec.ofInt IntKind.i64.bits a) &&& BitVec.ofInt IntKind.i64.bits b).toNat := by rw [← andI_bv]; rfl
  rw [h1, BitVec.and_self]; rfl
theorem andI_self {a : Int} (h : 0 ≤ a) (h2 : a < 9223372036854775808) : andI a a = a := by
  obtain ⟨n, rfl⟩ := Int.eq_ofNat_of_zero_le h
  rw [andI_nat (by omega), Nat.mod_eq_of_lt (by omega), Nat.and_self]
theorem andI_bit {a b p : Int} (h : andI a b = b) (hp : ¬ andI b p = 0) : ¬ andI a p = 0 := fun h0 => hp (by
  rw [← h, andI_comm a b, andI_assoc, h0, andI_zero])

/-! ### bounds -/
theorem packGo_some {b t : Int} {p : Packed} : ∀ {n e0 : Nat}, packGo b t n e0 = some p → ∃ e : Nat, e0 ≤ e ∧ e < e0 + n ∧ p = ⟨e, packB b e, packL b t e⟩ ∧ packOk b t e = true
  | 0, e0, h => by cases h
  | n + 1, e0, h => by
    unfold packGo at h
    split at h
    · rename_i h1; cases h; exact ⟨e0, by omega, by omega, rfl, h1⟩
    · obtain ⟨e, h1, h2, h3, h4⟩ := packGo_some h; exact ⟨e, by omega, by omega, h3, h4⟩
theorem packGo_find {b t : Int} {e : Nat} (hp : packOk b t e = true) : ∀ {n e0 : Nat}, e0 ≤ e → e < e0 + n → ∃ f : Nat, e0 ≤ f ∧ f ≤ e ∧ packGo b t n e0 = some ⟨f, packB b f, packL b t f⟩ ∧ packOk b t f = true
  | 0, e0, h1, h2 => by omega
  | n + 1, e0, h1, h2 => by
    by_cases h : packOk b t e0 = true
    · exact ⟨e0, by omega, h1, packGo_t h, h⟩
    · have hne : e0 ≠ e := fun q => h (q ▸ hp)
      obtain ⟨f, g1, g2, g3, g4⟩ := packGo_find hp (n := n) (e0 := e0 + 1) (by omega) (by omega)
      exact ⟨f, by omega, g2, by rw [packGo_f (by simpa using h)]; exact g3, g4⟩
theorem packOk_n {b t : Int} {e : Nat} (h : packOk b t e = true) : packB b e ≤ 63 ∧ packL b t e ≤ 63 := by simpa [packOk] using h
theorem wide_e {b t : Int} (h : boundsOk b t = true) {e : Nat} (he : e ≤ 6) (hp : pack b t = some ⟨e, packB b e, packL b t e⟩) (ho : packOk b t e = true) :
    wide b t = (packB b e * 2 ^ e, min 4096 ((packB b e + packL b t e) * 2 ^ e)) := by
  obtain ⟨h0, h1, h2⟩ := bounds_n h
  obtain ⟨o1, o2⟩ := packOk_n ho
  have hu : unpackOk ⟨e, packB b e, packL b t e⟩ = true := by
    simp only [unpackOk, Bool.and_eq_true, inR_t]
    unfold packB packL at *
    rcases e_cases he with rfl | rfl | rfl | rfl | rfl | rfl | rfl <;> simp only [Int.reducePow, Int.pow_zero] at * <;> omega
  unfold wide
  rw [if_pos h, hp]
  simp only [Option.isSome_some, if_true, Option.getD_some]
  rw [unpack_yes hu]
  simp only [Int.toNat_natCast]
theorem wide_cases {b t : Int} (h : boundsOk b t = true) : wide b t = (0, 4096) ∨ ∃ e : Nat, e ≤ 6 ∧ packOk b t e = true ∧ wide b t = (packB b e * 2 ^ e, min 4096 ((packB b e + packL b t e) * 2 ^ e)) := by
  cases hp : pack b t with
  | none => left; unfold wide; rw [if_pos h, hp]; rfl
  | some p =>
    have hp2 := hp
    rw [pack_yes h] at hp2
    obtain ⟨e, h1, h2, rfl, h4⟩ := packGo_some hp2
    exact .inr ⟨e, by omega, h4, wide_e h (by omega) hp h4⟩
theorem wide_parts {e : Nat} (he : e ≤ 6) {lo hi B L : Int} (hB : 0 ≤ B ∧ B ≤ 63) (hL : 0 ≤ L ∧ L ≤ 63) (h1 : lo = B * 2 ^ e) (h2 : hi = min 4096 ((B + L) * 2 ^ e)) : boundsOk lo hi = true ∧ wide lo hi = (lo, hi) := by
  have hb : boundsOk lo hi = true := by
    simp only [boundsOk, Bool.and_eq_true, decide_eq_true_eq]
    rcases e_cases he with rfl | rfl | rfl | rfl | rfl | rfl | rfl <;> simp only [Int.reducePow, Int.pow_zero] at * <;> omega
  refine ⟨hb, ?_⟩
  have ho : packOk lo hi e = true := by
    simp only [packOk, Bool.and_eq_true, decide_eq_true_eq]
    unfold packB packL
    rcases e_cases he with rfl | rfl | rfl | rfl | rfl | rfl | rfl <;> simp only [Int.reducePow, Int.pow_zero] at * <;> omega
  obtain ⟨f, f1, f2, f3, f4⟩ := packGo_find ho (n := 7) (e0 := 0) (by omega) (by omega)
  rw [wide_e hb (e := f) (by omega) (by rw [pack_yes hb]; exact f3) f4]
  unfold packB packL
  rcases e_cases he with rfl | rfl | rfl | rfl | rfl | rfl | rfl <;> rcases e_cases (e := f) (by omega) with rfl | rfl | rfl | rfl | rfl | rfl | rfl <;>
    first
      | (exfalso; omega)
      | (simp only [Int.reducePow, Int.pow_zero, Prod.mk.injEq] at *; omega)
theorem wide_ok {b t : Int} (h : boundsOk b t = true) : 0 ≤ (wide b t).1 ∧ (wide b t).1 ≤ b ∧ t ≤ (wide b t).2 ∧ (wide b t).2 ≤ 4096 ∧ exact_ (wide b t).1 (wide b t).2 = true := by
  obtain ⟨h0, h1, h2⟩ := bounds_n h
  rcases wide_cases h with e | ⟨e, he, ho, hw⟩
  · rw [e]; exact ⟨by decide, by omega, by omega, by decide, by decide +kernel⟩
  · obtain ⟨o1, o2⟩ := packOk_n ho
    have hB : 0 ≤ packB b e ∧ packB b e ≤ 63 := ⟨by
      unfold packB
      rcases e_cases he with rfl | rfl | rfl | rfl | rfl | rfl | rfl <;> simp only [Int.reducePow, Int.pow_zero] <;> omega, o1⟩
    have hL : 0 ≤ packL b t e ∧ packL b t e ≤ 63 := ⟨by
      unfold packL
      rcases e_cases he with rfl | rfl | rfl | rfl | rfl | rfl | rfl <;> simp only [Int.reducePow, Int.pow_zero] <;> omega, o2⟩
    obtain ⟨g1, g2⟩ := wide_parts he hB hL rfl rfl
    rw [hw]
    refine ⟨?_, ?_, ?_, by dsimp only; omega, by simp only [exact_, g1, g2, decide_true, Bool.and_self]⟩
    all_goals
      dsimp only
      unfold packB packL at *
      rcases e_cases he with rfl | rfl | rfl | rfl | rfl | rfl | rfl <;> simp only [Int.reducePow, Int.pow_zero] at * <;> omega
/-! ### keys and words -/
theorem keyOk_n {k : Key} (h : keyOk k = true) : 0 ≤ k.base ∧ k.base ≤ k.top ∧ k.top ≤ 4096 ∧ 0 ≤ k.perms ∧ k.perms ≤ 63 ∧ 0 ≤ k.sealed ∧ k.sealed ≤ 7 := by
  simp only [keyOk, Bool.and_eq_true, exact_, inR_t] at h
  have := bounds_n h.1.1.1.1
  omega
theorem keyOk_mk {k : Key} (h : exact_ k.base k.top = true) (h1 : 0 ≤ k.perms ∧ k.perms ≤ 63) (h2 : 0 ≤ k.sealed ∧ k.sealed ≤ 7) : keyOk k = true := by
  simp only [keyOk, Bool.and_eq_true, inR_t]; exact ⟨⟨h, h1⟩, h2⟩
theorem keyOk_exact {k : Key} (h : keyOk k = true) : exact_ k.base k.top = true := by simp only [keyOk, Bool.and_eq_true] at h; exact h.1.1
theorem wordOk_is {w : Word} (h : wordOk w = true) (h2 : w.is = true) : keyOk w.key = true := by
  simp only [wordOk, h2, if_true, Bool.and_eq_true] at h; exact h.2
theorem wordOk_mk {n : Int} {k : Key} (h : 0 ≤ n ∧ n ≤ 65535) (h2 : keyOk k = true) : wordOk ⟨n, true, k⟩ = true := by
  simp only [wordOk, if_true, Bool.and_eq_true, inR_t]; exact ⟨h, h2⟩
theorem and65 (n : Int) : 0 ≤ andI n 65535 ∧ andI n 65535 ≤ 65535 := andI_le n (by decide) (by decide)
theorem plainW_ok (n : Int) : wordOk (plainW n) = true := by
  simp only [wordOk, plainW, Bool.and_eq_true, inR_t, Bool.false_eq_true, if_false, decide_true, and_true]
  exact and65 n
def coversK (a b : Key) : Bool := keyOk a && keyOk b && decide (a.base ≤ b.base) && decide (b.top ≤ a.top) && decide (andI a.perms b.perms = b.perms)
theorem coversK_iff {a b : Key} : coversK a b = true ↔ keyOk a = true ∧ keyOk b = true ∧ a.base ≤ b.base ∧ b.top ≤ a.top ∧ andI a.perms b.perms = b.perms := by
  simp only [coversK, Bool.and_eq_true, decide_eq_true_eq, and_assoc]
theorem coversK_refl {a : Key} (h : keyOk a = true) : coversK a a = true :=
  coversK_iff.2 ⟨h, h, Int.le_refl _, Int.le_refl _, andI_self (by have := keyOk_n h; omega) (by have := keyOk_n h; omega)⟩
theorem coversK_trans {a b c : Key} (h : coversK a b = true) (k : coversK b c = true) : coversK a c = true := by
  obtain ⟨h1, h2, h3, h4, h5⟩ := coversK_iff.1 h
  obtain ⟨k1, k2, k3, k4, k5⟩ := coversK_iff.1 k
  exact coversK_iff.2 ⟨h1, k2, by omega, by omega, by rw [← k5, ← andI_assoc, h5]⟩
def Und (C : List Word) (w : Word) : Prop := w.is = true → ∃ c ∈ C, c.is = true ∧ coversK c.key w.key = true
theorem und_bare (C : List Word) (n : Int) : Und C (plainW n) := fun h => by cases h
theorem und_zero (C : List Word) : Und C zW := fun h => by cases h
theorem und_of {C : List Word} {w v : Word} (h : Und C w) (hw : w.is = true) (hk : coversK w.key v.key = true) : Und C v := fun _ => by
  obtain ⟨c, h1, h2, h3⟩ := h hw
  exact ⟨c, h1, h2, coversK_trans h3 hk⟩
theorem openW_iff {w : Word} : openW w = true ↔ wordOk w = true ∧ w.is = true ∧ w.key.sealed = 0 := by
  simp only [openW, Bool.and_eq_true, beq_iff_eq, and_assoc]
theorem sealsB_n {y : Word} (h : sealsB y = true) : openW y = true ∧ ¬ andI y.key.perms 32 = 0 ∧ 1 ≤ y.n ∧ y.n ≤ 7 := by
  simp only [sealsB, Bool.and_eq_true, bne_iff_ne, inR_t] at h
  exact ⟨h.1.1.1.1, h.1.1.1.2, h.2.1, h.2.2⟩
def Fine (w v : Word) : Prop := wordOk v = true ∧ (v.is = true → w.is = true ∧ coversK w.key v.key = true)
theorem fine_bare (w : Word) (n : Int) : Fine w (plainW n) := ⟨plainW_ok n, fun h => by cases h⟩
theorem fine_self {w : Word} (h : wordOk w = true) : Fine w w := ⟨h, fun hi => ⟨hi, coversK_refl (wordOk_is h hi)⟩⟩
theorem Fine.und {C : List Word} {w v : Word} (h : Fine w v) (hu : Und C w) : Und C v := fun hi => by
  obtain ⟨h1, h2⟩ := h.2 hi
  exact und_of hu h1 h2 hi
theorem weakenW_fine (w : Word) (m : Int) : Fine w (weakenW w m) := by
  unfold weakenW
  split
  · rename_i h
    obtain ⟨h1, h2, h3⟩ := openW_iff.1 h
    have hk := wordOk_is h1 h2
    have hn := keyOk_n hk
    have hp := andI_le' (andI m 63) (p := w.key.perms) (by omega) (by omega)
    have hk' : keyOk { w.key with perms := andI w.key.perms (andI m 63) } = true := keyOk_mk (k := ⟨w.key.base, w.key.top, andI w.key.perms (andI m 63), w.key.sealed⟩) (keyOk_exact (k := w.key) hk) ⟨hp.1, by dsimp only; omega⟩ (by dsimp only; omega)
    refine ⟨?_, fun _ => ⟨h2, coversK_iff.2 ⟨hk, hk', Int.le_refl _, Int.le_refl _, andI_same _ _⟩⟩⟩
    have hw := wordOk_n h1
    simp only [wordOk, h2, if_true, Bool.and_eq_true, inR_t]
    exact ⟨hw, hk'⟩
  · exact fine_bare w _
theorem narrowW_fine (w : Word) (n : Int) : Fine w (narrowW w n) := by
  unfold narrowW
  split
  · rename_i h
    simp only [Bool.and_eq_true] at h
    obtain ⟨⟨h, _⟩, hb⟩ := h
    obtain ⟨h1, h2, h3⟩ := openW_iff.1 h
    have hk := wordOk_is h1 h2
    have hn := keyOk_n hk
    split
    · exact fine_bare w _
    · rename_i hr
      obtain ⟨w1, w2, w3, w4, w5⟩ := wide_ok hb
      have hk' : keyOk { w.key with base := (wide w.n (IntKind.i64.wrap (w.n + n))).1, top := (wide w.n (IntKind.i64.wrap (w.n + n))).2 } = true := keyOk_mk w5 (by dsimp only; omega) (by dsimp only; omega)
      refine ⟨?_, fun _ => ⟨h2, coversK_iff.2 ⟨hk, hk', by dsimp only; omega, by dsimp only; omega, andI_self (by omega) (by omega)⟩⟩⟩
      have hw := wordOk_n h1
      simp only [wordOk, h2, if_true, Bool.and_eq_true, inR_t]
      exact ⟨hw, hk'⟩
  · exact fine_bare w _
theorem pointW_fine (w : Word) (n : Int) : Fine w (pointW w n) := by
  unfold pointW
  split
  · rename_i h
    obtain ⟨h1, h2, h3⟩ := openW_iff.1 h
    exact ⟨wordOk_mk (and65 n) (wordOk_is h1 h2), fun _ => ⟨h2, coversK_refl (wordOk_is h1 h2)⟩⟩
  · exact fine_bare w _
theorem seal_fine {w : Word} (h1 : wordOk w = true) (h2 : w.is = true) {s : Int} (hs : 0 ≤ s ∧ s ≤ 7) : Fine w { w with key := { w.key with sealed := s } } := by
  have hk := wordOk_is h1 h2
  have hn := keyOk_n hk
  have hk' : keyOk { w.key with sealed := s } = true := keyOk_mk (k := ⟨w.key.base, w.key.top, w.key.perms, s⟩) (keyOk_exact (k := w.key) hk) (by dsimp only; omega) hs
  refine ⟨?_, fun _ => ⟨h2, coversK_iff.2 ⟨hk, hk', Int.le_refl _, Int.le_refl _, andI_self (by omega) (by omega)⟩⟩⟩
  have hw := wordOk_n h1
  simp only [wordOk, h2, if_true, Bool.and_eq_true, inR_t]
  exact ⟨hw, hk'⟩
theorem sealBy_fine (w y : Word) : Fine w (sealBy w y) := by
  unfold sealBy
  split
  · rename_i h
    simp only [Bool.and_eq_true] at h
    obtain ⟨h1, h2, h3⟩ := openW_iff.1 h.1
    exact seal_fine h1 h2 (by have := sealsB_n h.2; omega)
  · exact fine_bare w _
theorem openBy_fine (w y : Word) : Fine w (openBy w y) := by
  unfold openBy
  split
  · rename_i h
    simp only [Bool.and_eq_true] at h
    exact seal_fine h.1.1.1 h.1.1.2 (by decide)
  · exact fine_bare w _
theorem takenW_fine {y w : Word} (h : wordOk w = true) : Fine w (takenW y w) := by
  unfold takenW
  split
  · exact fine_bare w _
  · exact fine_self h
theorem filterW_fine {g : List Bool} {w : Word} (h : wordOk w = true) : Fine w (filterW g w) := by
  unfold filterW
  split
  · exact fine_bare w _
  · exact fine_self h
theorem zW_ok : wordOk zW = true := by decide
theorem tryW_0 {w : Word} {n p : Int} (h : tryW w n p = 0) : wordOk w = true ∧ w.is = true ∧ w.key.sealed = 0 ∧ andI w.key.perms p = p ∧ w.key.base ≤ n ∧ n < w.key.top := by
  unfold tryW at h
  split at h
  · cases h
  · rename_i h1
    split at h
    · cases h
    · rename_i h2
      split at h
      · cases h
      · rename_i h3
        split at h
        · cases h
        · rename_i h4
          exact ⟨by cases e : wordOk w with | true => rfl | false => exact absurd (.inr e) h1, by cases e : w.is with | true => rfl | false => exact absurd (.inl e) h1, by omega, by omega, by omega, by omega⟩
theorem tryW_in (w : Word) (n p : Int) : 0 ≤ tryW w n p ∧ tryW w n p ≤ 4 := by
  unfold tryW
  repeat' split
  all_goals omega
theorem getD_ok {ws : List Word} (h : ∀ w ∈ ws, wordOk w = true) (i : Nat) : wordOk (ws.getD i (FT.zero .word)) = true := by
  rw [List.getD_eq_getElem?_getD]
  cases e : ws[i]? with
  | none => exact zW_ok
  | some w => exact h w (List.mem_of_getElem? e)
theorem getD_und {C ws : List Word} (h : ∀ w ∈ ws, Und C w) (i : Nat) : Und C (ws.getD i (FT.zero .word)) := by
  rw [List.getD_eq_getElem?_getD]
  cases e : ws[i]? with
  | none => exact und_zero C
  | some w => exact h w (List.mem_of_getElem? e)
end Go.Pi
