/- Contracts of functions, each out of its run by PI. No conditions. -/
import Derived.Test.YthpjpaginggjaaaC2
namespace Go.Pi
open Go.Proofs
set_option linter.unusedVariables false
set_option linter.unusedSimpArgs false
set_option maxRecDepth 100000
attribute [local irreducible] iterN
def allR (f : Nat → Bool) (n : Nat) : Bool := (List.range n).all f
theorem allR_yes {f : Nat → Bool} {i : Nat} (h : allR f i = true) (h2 : f i = true) : allR f (i + 1) = true := by simp only [allR, List.range_succ, List.all_append, List.all_cons, List.all_nil, h2, Bool.and_true]; exact h
theorem allR_no {f : Nat → Bool} {i n : Nat} (h : i < n) (h2 : f i = false) : allR f n = false := by
  unfold allR
  rw [Bool.eq_false_iff]
  intro hh
  have := List.all_eq_true.1 hh i (by simpa using h)
  rw [h2] at this; cases this
theorem allR_iff {f : Nat → Bool} {n : Nat} : allR f n = true ↔ ∀ c, c < n → f c = true := by simp [allR]
def cnt (l : List Span) (c : Nat) : Nat := l.countP (fun s => inS s c)
def heapOk (h : Heap) : Bool := memoryOk h.mem && spansOk h.live && spansOk h.waits && allR (fun c => decide (cnt h.live c + cnt h.waits c ≤ 1) && (h.mem.gone.getD c false == decide (0 < cnt h.waits c))) 24
theorem markedGo_len (l : List Span) : ∀ (n i : Nat) (u : List Bool), (markedGo l n i u).2.length = u.length
  | 0, _, _ => rfl
  | n + 1, i, u => by
    unfold markedGo
    split
    · split
      · rw [markedGo_len l n (i + 1), markRun_len]
      · rw [markRun_len]
    · rfl
theorem bool_ext {a b : Bool} (h : a = true ↔ b = true) : a = b := by cases a <;> cases b <;> simp_all
theorem markRun_spec : ∀ (n a : Nat) (u : List Bool), u.length = 24 → a + n ≤ 24 →
    ((markRun n a u).1 = true ↔ ∀ c, a ≤ c → c < a + n → u.getD c false = false) ∧ ((markRun n a u).1 = true → ∀ c, c < 24 → (markRun n a u).2.getD c false = (u.getD c false || (decide (a ≤ c) && decide (c < a + n))))
  | 0, a, u, hu, _ => by
    refine ⟨⟨fun _ c h1 h2 => by omega, fun _ => rfl⟩, fun _ c hc => ?_⟩
    have : (decide (a ≤ c) && decide (c < a + 0)) = false := by
      rw [Bool.eq_false_iff]; intro h; simp only [Bool.and_eq_true, decide_eq_true_eq] at h; omega
    rw [this, Bool.or_false]; rfl
  | n + 1, a, u, hu, ha => by
    unfold markRun
    by_cases e : u.getD a false = true
    · rw [if_pos e]
      refine ⟨⟨fun h => (by cases h), fun h => ?_⟩, fun h => (by cases h)⟩
      rw [h a (Nat.le_refl _) (by omega)] at e; cases e
    · rw [if_neg e]
      obtain ⟨h1, h2⟩ := markRun_spec n (a + 1) (u.set a true) (by simpa using hu) (by omega)
      have hset : ∀ c, c < 24 → (u.set a true).getD c false = if a = c then true else u.getD c false := fun c hc => getD_set _ _ _ _ _ (by omega)
      refine ⟨⟨fun h c hc hc2 => ?_, fun h => h1.2 fun c hc hc2 => ?_⟩, fun h c hc => ?_⟩
      · by_cases e2 : a = c
        · subst e2; simpa using e
        · have := h1.1 h c (by omega) (by omega)
          rw [hset c (by omega), if_neg e2] at this
          exact this
      · rw [hset c (by omega), if_neg (by omega)]
        exact h c (by omega) (by omega)
      · rw [h2 h c hc, hset c hc]
        by_cases e2 : a = c
        · subst e2
          rw [if_pos rfl, decide_eq_true (Nat.le_refl a), decide_eq_true (show a < a + (n + 1) by omega)]; simp
        · rw [if_neg e2, decide_eq_decide.2 (show a + 1 ≤ c ↔ a ≤ c by omega), decide_eq_decide.2 (show c < a + 1 + n ↔ c < a + (n + 1) by omega)]
theorem inS_nat {s : Span} (h : spanOk s = true) (c : Nat) : inS s c = (decide (s.at_.toNat ≤ c) && decide (c < s.at_.toNat + s.len.toNat)) := by
  simp only [spanOk, Bool.and_eq_true, inR_t] at h
  unfold inS inR
  rw [decide_eq_decide.2 (show s.at_ ≤ (c : Int) ↔ s.at_.toNat ≤ c by omega), decide_eq_decide.2 (show (c : Int) ≤ s.at_ + s.len - 1 ↔ c < s.at_.toNat + s.len.toNat by omega)]
theorem spanChk_ok {l : List Span} {i : Nat} (h : spanChk l i = true) : spanOk (l.getD i (FT.zero .span)) = true := by
  simp only [spanChk, Bool.and_eq_true] at h; exact h.1
theorem drop_getD {α : Type} {l : List α} {i : Nat} (z : α) (h : i < l.length) : l.drop i = l.getD i z :: l.drop (i + 1) := by
  have e : l.getD i z = l[i] := by simp [List.getD_eq_getElem?_getD, h]
  rw [List.drop_eq_getElem_cons h, e]
theorem cnt_cons (s : Span) (l : List Span) (c : Nat) : cnt (s :: l) c = (if inS s c then 1 else 0) + cnt l c := by
  simp only [cnt, List.countP_cons]; omega
theorem markedGo_spec (l : List Span) : ∀ (n i : Nat) (u : List Bool), n = l.length - i → u.length = 24 →
    ((markedGo l n i u).1 = true ↔ (∀ j, i ≤ j → j < l.length → spanChk l j = true) ∧ ∀ c, c < 24 → (if u.getD c false then 1 else 0) + cnt (l.drop i) c ≤ 1) ∧
    ((markedGo l n i u).1 = true → ∀ c, c < 24 → (markedGo l n i u).2.getD c false = (u.getD c false || decide (0 < cnt (l.drop i) c)))
  | 0, i, u, hn, hu => by
    have hd : l.drop i = [] := List.drop_eq_nil_of_le (by omega)
    refine ⟨⟨fun _ => ⟨fun j h1 h2 => by omega, fun c _ => ?_⟩, fun _ => rfl⟩, fun _ c hc => ?_⟩
    · rw [hd]; simp only [cnt, List.countP_nil]; split <;> omega
    · rw [hd]; simp [cnt, markedGo]
  | n + 1, i, u, hn, hu => by
    have hlt : i < l.length := by omega
    have hd := drop_getD (FT.zero .span) hlt
    unfold markedGo
    by_cases hc : spanChk l i = true
    · rw [if_pos hc]
      have hok := spanChk_ok hc
      have hin := inS_nat hok
      have hb : (l.getD i (FT.zero .span)).at_.toNat + (l.getD i (FT.zero .span)).len.toNat ≤ 24 := by
        simp only [spanOk, Bool.and_eq_true, inR_t] at hok; omega
      rw [hd]
      generalize l.getD i (FT.zero .span) = s at *
      obtain ⟨m1, m2⟩ := markRun_spec s.len.toNat s.at_.toNat u hu hb
      have ml := markRun_len s.len.toNat s.at_.toNat u
      generalize markRun s.len.toNat s.at_.toNat u = r at *
      by_cases hr : r.1 = true
      · rw [if_pos hr]
        obtain ⟨g1, g2⟩ := markedGo_spec l n (i + 1) r.2 (by omega) (by omega)
        have hr2 := m2 hr
        have hfree := m1.1 hr
        have hsum : ∀ c, c < 24 → ((if r.2.getD c false then 1 else 0) + cnt (l.drop (i + 1)) c = (if u.getD c false then 1 else 0) + cnt (s :: l.drop (i + 1)) c) := fun c hc24 => by
          rw [cnt_cons, hr2 c hc24, hin c]
          by_cases e : s.at_.toNat ≤ c ∧ c < s.at_.toNat + s.len.toNat
          · rw [hfree c e.1 e.2, decide_eq_true e.1, decide_eq_true e.2]; simp
          · have : (decide (s.at_.toNat ≤ c) && decide (c < s.at_.toNat + s.len.toNat)) = false := by rw [Bool.eq_false_iff]; simp; omega
            rw [this]; simp
        refine ⟨⟨fun h => ?_, fun h => g1.2 ⟨fun j h1 h2 => h.1 j (by omega) h2, fun c hc24 => by rw [hsum c hc24]; exact h.2 c hc24⟩⟩, fun h c hc24 => ?_⟩
        · obtain ⟨a1, a2⟩ := g1.1 h
          refine ⟨fun j h1 h2 => ?_, fun c hc24 => by rw [← hsum c hc24]; exact a2 c hc24⟩
          by_cases e : j = i
          · rw [e]; exact hc
          · exact a1 j (by omega) h2
        · rw [g2 h c hc24, hr2 c hc24, cnt_cons, hin c]
          cases u.getD c false <;> cases (decide (s.at_.toNat ≤ c) && decide (c < s.at_.toNat + s.len.toNat)) <;> simp <;> omega
      · rw [if_neg hr]
        refine ⟨⟨fun h => absurd h hr, fun h => absurd (m1.2 fun c h1 h2 => ?_) hr⟩, fun h => absurd h hr⟩
        have := h.2 c (by omega)
        rw [cnt_cons, hin c, decide_eq_true h1, decide_eq_true h2] at this
        cases e : u.getD c false with
        | false => rfl
        | true => rw [e] at this; simp at this; omega
    · rw [if_neg hc]
      refine ⟨⟨fun h => (by cases h), fun h => absurd (h.1 i (Nat.le_refl _) hlt) hc⟩, fun h => (by cases h)⟩
theorem spansOk_iff {l : List Span} : spansOk l = true ↔ ∀ j, j < l.length → spanChk l j = true := by simp [spansOk, okTo]
theorem spansOk_mem {l : List Span} (h : spansOk l = true) : ∀ s ∈ l, spanOk s = true := fun s hs => by
  obtain ⟨i, hi, rfl⟩ := List.getElem_of_mem hs
  have := spanChk_ok (spansOk_iff.1 h i hi)
  rw [show l.getD i (FT.zero .span) = l[i] by simp [List.getD_eq_getElem?_getD, hi]] at this
  exact this
theorem markedF_spec (l : List Span) :
    ((markedF (List.replicate 24 false) l).1 = true ↔ spansOk l = true ∧ ∀ c, c < 24 → cnt l c ≤ 1) ∧
    ((markedF (List.replicate 24 false) l).1 = true → ∀ c, c < 24 → (markedF (List.replicate 24 false) l).2.getD c false = decide (0 < cnt l c)) := by
  obtain ⟨h1, h2⟩ := markedGo_spec l l.length 0 (List.replicate 24 false) (by simp) (by simp)
  refine ⟨⟨fun h => ?_, fun h => h1.2 ⟨fun j _ hj => spansOk_iff.1 h.1 j hj, fun c hc => ?_⟩⟩, fun h c hc => ?_⟩
  · obtain ⟨a1, a2⟩ := h1.1 h
    refine ⟨spansOk_iff.2 fun j hj => a1 j (Nat.zero_le _) hj, fun c hc => ?_⟩
    have := a2 c hc
    rw [rep_getD hc] at this
    simpa using this
  · rw [rep_getD hc]; simpa using h.2 c hc
  · have := h2 h c hc
    rw [rep_getD hc, Bool.false_or] at this
    exact this
theorem ownRun_spec (s : Span) (hs : spanOk s = true) : ∀ (n c : Nat) (u : List Int), n = 24 - c → u.length = 24 → s.at_ ≤ c →
    ∀ j, j < 24 → (ownRun s n c u).getD j 0 = if c ≤ j ∧ inS s j = true then IntKind.i64.wrap (u.getD j 0 + 1) else u.getD j 0
  | 0, c, u, hn, hu, hc => fun j hj => by
    rw [if_neg (by omega)]; rfl
  | n + 1, c, u, hn, hu, hc => fun j hj => by
    have hok := hs
    simp only [spanOk, Bool.and_eq_true, inR_t] at hok
    unfold ownRun
    rw [wrap_id (n := (c : Int) - s.at_) (by omega) (by omega)]
    have hin : inS s j = true ↔ s.at_ ≤ j ∧ (j : Int) ≤ s.at_ + s.len - 1 := by unfold inS; exact inR_t
    by_cases e : (c : Int) - s.at_ < s.len
    · rw [decide_eq_true e, if_pos rfl, ownRun_spec s hs n (c + 1) _ (by omega) (by simpa using hu) (by omega) j hj, getD_set _ _ _ _ _ (by omega)]
      by_cases e2 : c = j
      · subst e2
        rw [if_pos rfl, if_neg (by omega), if_pos ⟨Nat.le_refl _, hin.2 (by omega)⟩]
      · rw [if_neg e2]
        by_cases e3 : c + 1 ≤ j ∧ inS s j = true
        · rw [if_pos e3, if_pos ⟨by omega, e3.2⟩]
        · rw [if_neg e3, if_neg (fun h => e3 ⟨by omega, h.2⟩)]
    · rw [decide_eq_false e, if_neg (by decide), if_neg (fun h => by have := hin.1 h.2; omega)]
theorem ownOne_spec {s : Span} (hs : spanOk s = true) {u : List Int} (hu : u.length = 24) {j : Nat} (hj : j < 24) : (ownOne u s).getD j 0 = if inS s j = true then IntKind.i64.wrap (u.getD j 0 + 1) else u.getD j 0 := by
  have hok := hs
  simp only [spanOk, Bool.and_eq_true, inR_t] at hok
  unfold ownOne
  rw [ownRun_spec s hs _ _ u (by omega) hu (by omega) j hj]
  have hin : inS s j = true → s.at_ ≤ j := fun h => by unfold inS at h; exact (inR_t.1 h).1
  by_cases e : inS s j = true
  · rw [if_pos e, if_pos ⟨by have := hin e; omega, e⟩]
  · rw [if_neg e, if_neg (fun h => e h.2)]
theorem owners_go : ∀ (l : List Span) (u : List Int) (K : Nat), (∀ s ∈ l, spanOk s = true) → u.length = 24 → (∀ j, j < 24 → 0 ≤ u.getD j 0 ∧ u.getD j 0 ≤ K) → K + l.length ≤ 1000000000 →
    ∀ j, j < 24 → (l.foldl ownOne u).getD j 0 = u.getD j 0 + (cnt l j : Int)
  | [], u, K, _, _, _, _ => fun j hj => by simp [cnt]
  | s :: l, u, K, hl, hu, hk, hK => fun j hj => by
    have hs := hl s (by simp)
    have ho : ∀ j, j < 24 → (ownOne u s).getD j 0 = u.getD j 0 + (if inS s j then 1 else 0) := fun j hj => by
      rw [ownOne_spec hs hu hj]
      have := hk j hj
      split
      · simp only [List.length_cons] at hK; exact wrap_id (by omega) (by omega)
      · omega
    rw [List.foldl_cons, owners_go l (ownOne u s) (K + 1) (fun x hx => hl x (by simp [hx])) (by unfold ownOne; rw [ownRun_len]; exact hu) (fun j hj => by
      rw [ho j hj]; have := hk j hj; split <;> omega) (by simp only [List.length_cons] at hK; omega) j hj, ho j hj, cnt_cons]
    split <;> omega
theorem owners_spec {l : List Span} (h : ∀ s ∈ l, spanOk s = true) (hl : l.length ≤ 100000000) {j : Nat} (hj : j < 24) : (owners l).getD j 0 = (cnt l j : Int) := by
  unfold owners
  rw [owners_go l _ 0 h (by simp) (fun j hj => by rw [rep_getD hj]; omega) (by omega) j hj, rep_getD hj]
  omega
theorem owners_len (l : List Span) : (owners l).length = 24 := by
  have key : ∀ (l : List Span) (u : List Int), (l.foldl ownOne u).length = u.length := fun l => by
    induction l with
    | nil => intro u; rfl
    | cons s l ih => intro u; rw [List.foldl_cons, ih]; unfold ownOne; rw [ownRun_len]
  unfold owners; rw [key]; simp
theorem inRaw_eq {s : Span} (hs : spanOk s = true) (c : Nat) : inRaw s c = inS s c := by
  simp only [spanOk, Bool.and_eq_true, inR_t] at hs
  unfold inRaw inS
  rw [wrap_id (n := s.at_ + s.len) (by omega) (by omega), wrap_id (by omega) (by omega)]
theorem inL_eq {l : List Span} (h : ∀ s ∈ l, spanOk s = true) (c : Nat) : inL l c = decide (0 < cnt l c) := by
  unfold inL cnt
  rw [Bool.eq_iff_iff, List.any_eq_true, decide_eq_true_eq, List.countP_pos_iff]
  constructor
  · rintro ⟨s, hs, e⟩; exact ⟨s, hs, by rw [inRaw_eq (h s hs)] at e; exact e⟩
  · rintro ⟨s, hs, e⟩; exact ⟨s, hs, by rw [inRaw_eq (h s hs)]; exact e⟩
theorem cnt_app (a b : List Span) (c : Nat) : cnt (a ++ b) c = cnt a c + cnt b c := by simp [cnt]
def heapOkI (h : Heap) : Bool := memoryOk h.mem && (markedF (List.replicate 24 false) h.waits).1 && (markedF (List.replicate 24 false) h.live).1 &&
  allR (fun c => !((markedF (List.replicate 24 false) h.waits).2.getD c false && (markedF (List.replicate 24 false) h.live).2.getD c false) && ((markedF (List.replicate 24 false) h.waits).2.getD c false == h.mem.gone.getD c false)) 24
def heapOkS (h : Heap) : Bool := memoryOk h.mem && spansOk h.live && spansOk h.waits && allR (fun c => decide ((owners (h.live ++ h.waits)).getD c 0 ≤ 1) && (h.mem.gone.getD c false == inL h.waits c)) 24
theorem heapOkI_eq (h : Heap) : heapOkI h = heapOk h := by
  obtain ⟨w1, w2⟩ := markedF_spec h.waits
  obtain ⟨l1, l2⟩ := markedF_spec h.live
  apply bool_ext
  unfold heapOkI heapOk
  simp only [Bool.and_eq_true, allR_iff]
  constructor
  · rintro ⟨⟨⟨hm, hw⟩, hl⟩, hc⟩
    refine ⟨⟨⟨hm, (l1.1 hl).1⟩, (w1.1 hw).1⟩, fun c hc24 => ?_⟩
    have h1 := (hc c hc24).1
    have h2 := (hc c hc24).2
    rw [w2 hw c hc24] at h1 h2
    rw [l2 hl c hc24] at h1
    have := (l1.1 hl).2 c hc24
    have := (w1.1 hw).2 c hc24
    simp only [Bool.not_eq_true', Bool.and_eq_false_iff, decide_eq_false_iff_not, beq_iff_eq] at h1 h2
    exact ⟨decide_eq_true (by omega), by rw [h2]; simp⟩
  · rintro ⟨⟨⟨hm, hl⟩, hw⟩, hc⟩
    have hb : ∀ c, c < 24 → cnt h.live c + cnt h.waits c ≤ 1 := fun c hc24 => by simpa using (hc c hc24).1
    have hl1 := l1.2 ⟨hl, fun c hc24 => by have := hb c hc24; omega⟩
    have hw1 := w1.2 ⟨hw, fun c hc24 => by have := hb c hc24; omega⟩
    refine ⟨⟨⟨hm, hw1⟩, hl1⟩, fun c hc24 => ?_⟩
    rw [w2 hw1 c hc24, l2 hl1 c hc24]
    have h2 := (hc c hc24).2
    have := hb c hc24
    simp only [beq_iff_eq] at h2
    refine ⟨?_, by rw [h2]; simp⟩
    simp only [Bool.not_eq_true', Bool.and_eq_false_iff, decide_eq_false_iff_not]; omega
theorem heapOkS_eq {h : Heap} (hl : LHeap h 1048576) : heapOkS h = heapOk h := by
  apply bool_ext
  unfold heapOkS heapOk
  simp only [Bool.and_eq_true, allR_iff]
  have key : spansOk h.live = true → spansOk h.waits = true → ∀ c, c < 24 → (decide ((owners (h.live ++ h.waits)).getD c 0 ≤ 1) = decide (cnt h.live c + cnt h.waits c ≤ 1) ∧ inL h.waits c = decide (0 < cnt h.waits c)) := fun a b c hc => by
    refine ⟨?_, inL_eq (spansOk_mem b) c⟩
    rw [owners_spec (fun s hs => by rcases List.mem_append.1 hs with h | h; · exact spansOk_mem a s h
                                    · exact spansOk_mem b s h) (by rw [List.length_append]; have := hl.2.1; have := hl.2.2; omega) hc, cnt_app]
    exact decide_eq_decide.2 (by omega)
  constructor
  · rintro ⟨⟨⟨hm, a⟩, b⟩, hc⟩
    exact ⟨⟨⟨hm, a⟩, b⟩, fun c hc24 => by rw [← (key a b c hc24).1, ← (key a b c hc24).2]; exact hc c hc24⟩
  · rintro ⟨⟨⟨hm, a⟩, b⟩, hc⟩
    exact ⟨⟨⟨hm, a⟩, b⟩, fun c hc24 => by rw [(key a b c hc24).1, (key a b c hc24).2]; exact hc c hc24⟩

def lb_spec_HeapOk_0 : PC := .seq (.seq (.reg [.s (.mv 23 (.t 4)), .s (.bin 24 .lss (.t 23) (.k (.v (.c (.int .i64 24)))))]) (.cond (.t 24) (.skip) (.exit 0))) (.seq (.blk 1 (.seq (.rgd [] [.s (.mv 27 (.t 3)), .s (.mv 28 (.t 4)), .s (.ia 29 (.int .i64) (.t 27) (.t 28)), .s (.load 30 false 1 (.t 29)), .s (.bin 31 .gtr (.t 30) (.k (.v (.c (.int .i64 1))))), .s (.mv 32 (.t 31)), .g 32 false (some 33) (.fa 33 (.t 1) 0), .g 32 false (some 34) (.fa 34 (.t 33) 1), .g 32 false (some 35) (.load 35 false 1 (.t 34)), .g 32 false (some 36) (.mv 36 (.t 4)), .g 32 false (some 37) (.ia 37 .bool (.t 35) (.t 36)), .g 32 false (some 38) (.load 38 false 1 (.t 37)), .g 32 false (some 39) (.fa 39 (.t 1) 3), .g 32 false (some 40) (.load 40 false 1 (.t 39)), .g 32 false (some 41) (.mv 41 (.t 4)), .g 32 false (some 42) (.call (some 42) 182 [(.t 40), (.t 41)]), .g 32 false (some 43) (.eqs 43 false [.b] true (.t 38) (.t 42)), .s (.pick 44 (.t 32) (.k (.v (.c .tt))) (.t 43))] (.tk 0 (.tk 1 (.tk 2 (.tk 3 (.tk 4 (.tk 5 (.tk 6 (.tk 7 (.tk 8 (.tk 9 (.tk 10 (.tk 11 (.tk 12 (.tk 13 (.tk 14 (.one 15 false (.tk 16 (.tk 17 (.done none)))))))))))))))))))) (.cond (.t 44) (.seq (.reg [.s (.mv 2 (.k (.v (.c .ff))))]) (.ret)) (.skip)))) (.reg [.s (.mv 25 (.t 4)), .s (.bin 26 .add (.t 25) (.k (.v (.c (.int .i64 1))))), .s (.mv 4 (.t 26))]))
def pf_spec_HeapOk : PF := ⟨[.t 2], .seq (.reg [.s (.box 1 (.t 0)), .s (.mv 2 (.k (.v (.c .ff))))]) (.seq (.seq (.reg [.s (.fa 5 (.t 1) 0), .s (.load 6 true 2 (.t 5)), .s (.call (some 7) 89 [(.t 6)]), .s (.bnot 8 (.t 7)), .s (.mv 9 (.t 8)), .g 9 false (some 10) (.fa 10 (.t 1) 2), .g 9 false (some 11) (.load 11 false 1 (.t 10)), .g 9 false (some 12) (.call (some 12) 181 [(.t 11)]), .g 9 false (some 13) (.bnot 13 (.t 12)), .s (.pick 14 (.t 9) (.k (.v (.c .tt))) (.t 13)), .s (.mv 15 (.t 14)), .g 15 false (some 16) (.fa 16 (.t 1) 3), .g 15 false (some 17) (.load 17 false 1 (.t 16)), .g 15 false (some 18) (.call (some 18) 181 [(.t 17)]), .g 15 false (some 19) (.bnot 19 (.t 18)), .s (.pick 20 (.t 15) (.k (.v (.c .tt))) (.t 19))]) (.cond (.t 20) (.seq (.reg [.s (.mv 2 (.k (.v (.c .ff))))]) (.ret)) (.skip))) (.seq (.reg [.s (.load 21 true 4 (.t 1)), .s (.call (some 22) 131 [(.t 21)]), .s (.mv 3 (.t 22))]) (.seq (.seq (.reg [.s (.mv 4 (.k (.v (.c (.int .i64 0)))))]) (.blk 0 (.loop [1, 3, 4] lb_spec_HeapOk_0))) (.seq (.reg [.s (.mv 2 (.k (.v (.c .tt))))]) (.ret)))))⟩
def c_spec_HeapOk : Fun := ⟨132, [], fun ts K => as1 ts fun t0 => arG pHeapT t0 fun t => chk (LHeap t 1048576) (K (tB (heapOk t)) [])⟩
theorem run_spec_HeapOk (t : Heap) (hpre : LHeap t 1048576) : runK [c_spec_MemoryOk, c_spec_l23Owners, c_spec_l23Spans, c_spec_l23In] (30) [] pf_spec_HeapOk [tG (t.tc false [])] fun r o => r = tB (heapOk t) ∧ o = [] := by
  rw [← heapOkS_eq hpre]
  have l2 := hpre.2.1
  have l3 := hpre.2.2
  conv => whnf
  repeat' (first | (refine sel_i (fun h => ?_) (fun h => ?_) <;> conv => whnf) | (refine chk_c ?_ ?_ <;> conv => whnf) | (refine And.intro ?_ rfl) | (refine And.intro ?_ ?_ <;> conv => whnf))
  all_goals (try simp only [etaMemory, etaHeap, Bool.not_eq_true', Bool.not_eq_false'] at *)
  all_goals first
    | (refine ⟨?_⟩; assumption)
    | (refine ⟨?_⟩; omega)
    | (simp only [heapOkS, *, Bool.false_and, Bool.and_false]; done)
    | skip
  rename_i h1 h2
  have hm : memoryOk t.mem = true := by assumption
  obtain ⟨m1, m2, m3⟩ := memoryOk_n hm
  have hol := owners_len (t.live ++ t.waits)
  have hh : heapOkS t = allR (fun c => decide ((owners (t.live ++ t.waits)).getD c 0 ≤ 1) && (t.mem.gone.getD c false == inL t.waits c)) 24 := by
    simp only [heapOkS, *, Bool.true_and]
  rw [hh]
  clear hh
  generalize owners (t.live ++ t.waits) = ow at *
  refine loop (α := Nat) (fun c => ⟨[(1, .v (.c (.ptr 0 0))), (3, .v (.c (.sl false (.int .i64) 5))), (4, .v (.c (.int .i64 (c : Int))))],
        [(5, some (.flat true (.int .i64) none ow)), (4, some (.flat false .span none t.waits)), (3, some (.flat false .span none t.live)), (2, some (.flat false .bool none t.mem.gone)), (1, some (.flat false .word none t.mem.words)), (0, some (.box true [.sl false .word 1, .sl false .bool 2, .sl false .span 3, .sl false .span 4]))], nums.tail.tail.tail.tail.tail.tail, [], false, []⟩)
      (fun c => c ≤ 24 ∧ allR (fun c => decide (ow.getD c 0 ≤ 1) && (t.mem.gone.getD c false == inL t.waits c)) c = true) (fun c => 24 - c) (fun c R hI hR => ?_) 0 _ ⟨by simp, rfl⟩ (by omega)
  obtain ⟨hc, hx⟩ := hI
  conv => whnf
  repeat' (first | (refine sel_i (fun h => ?_) (fun h => ?_) <;> conv => whnf) | (refine chk_c ?_ ?_ <;> conv => whnf) | (refine And.intro ?_ rfl) | (refine And.intro ?_ ?_ <;> conv => whnf))
  all_goals (try simp only [etaMemory, etaHeap, Int.toNat_natCast, Bool.not_eq_true', Bool.not_eq_false', decide_eq_true_eq, decide_eq_false_iff_not] at *)
  all_goals first
    | (refine ⟨?_⟩; omega)
    | skip
  · have h' : ow.getD c 0 > 1 := h
    rw [allR_no (i := c) (by omega) (by rw [decide_eq_false (show ¬ ow.getD c 0 ≤ 1 by omega)]; rfl)]
  · have h' : (t.mem.gone.getD c false == inL t.waits c) = false := h
    rw [allR_no (i := c) (by omega) (by rw [h', Bool.and_false])]
  · rename_i g1 g2
    have h' : (t.mem.gone.getD c false == inL t.waits c) = true := h
    have g' : ¬ ow.getD c 0 > 1 := g2
    rw [wrap_id (n := (c : Int) + 1) (by omega) (by omega)]
    exact hR (c + 1) ⟨by omega, allR_yes hx (by rw [decide_eq_true (show ow.getD c 0 ≤ 1 by omega), h']; rfl)⟩ (by omega)
  · rw [show 24 = c by omega, hx]
theorem ok_spec_HeapOk : FunOk Try.prog c_spec_HeapOk := funOk (E := [c_spec_MemoryOk, c_spec_l23Owners, c_spec_l23Spans, c_spec_l23In]) (envOk_cons ok_spec_MemoryOk (envOk_cons ok_spec_l23Owners (envOk_cons ok_spec_l23Spans (envOk_cons ok_spec_l23In (envOk_nil))))) mixd Try.func132 (pf := pf_spec_HeapOk) (by kernel_rfl) fun ts K h => by
  obtain ⟨t0, e0, h⟩ := as1_out h
  subst e0
  obtain ⟨t, e1, hq⟩ := arG_out rd_heap h
  clear h
  subst e1
  have h := hq
  clear hq
  obtain ⟨hpre, h⟩ := chk_o h
  exact ⟨_, _, h, Nat.le_of_ble_eq_true (show Nat.ble 1 Try.f132.ntmps = true by kernel_rfl), _, run_spec_HeapOk t hpre⟩

def lb_impl_HeapOk_0 : PC := .seq (.reg [.s (.bin 30 .lss (.t 29) (.t 28))]) (.seq (.cond (.t 30) (.skip) (.exit 0)) (.seq (.blk 1 (.seq (.reg [.s (.mv 31 (.t 29)), .s (.ia 32 .bool (.t 27) (.t 29)), .s (.load 33 false 1 (.t 32)), .s (.mv 5 (.t 31)), .s (.mv 6 (.t 33))]) (.seq (.reg [.s (.mv 34 (.t 6)), .s (.mv 35 (.t 34)), .g 35 true (some 36) (.mv 36 (.t 4)), .g 35 true (some 37) (.mv 37 (.t 5)), .g 35 true (some 38) (.ia 38 .bool (.t 36) (.t 37)), .g 35 true (some 39) (.load 39 false 1 (.t 38)), .s (.pick 40 (.t 35) (.t 39) (.k (.v (.c .ff)))), .s (.mv 41 (.t 40)), .g 41 false (some 42) (.mv 42 (.t 6)), .g 41 false (some 43) (.fa 43 (.t 1) 0), .g 41 false (some 44) (.fa 44 (.t 43) 1), .g 41 false (some 45) (.load 45 false 1 (.t 44)), .g 41 false (some 46) (.mv 46 (.t 5)), .g 41 false (some 47) (.ia 47 .bool (.t 45) (.t 46)), .g 41 false (some 48) (.load 48 false 1 (.t 47)), .g 41 false (some 49) (.eqs 49 false [.b] true (.t 42) (.t 48)), .s (.pick 50 (.t 41) (.k (.v (.c .tt))) (.t 49))]) (.cond (.t 50) (.seq (.reg [.s (.mv 2 (.k (.v (.c .ff))))]) (.ret)) (.skip))))) (.reg [.s (.bin 51 .add (.t 29) (.k (.v (.c (.int .i64 1))))), .s (.mv 29 (.t 51))])))
def pf_impl_HeapOk : PF := ⟨[.t 2], .seq (.reg [.s (.box 1 (.t 0)), .s (.mv 2 (.k (.v (.c .ff))))]) (.seq (.rgd [] [.s (.mkS 7 .bool (.k (.v (.c (.int .i64 24))))), .s (.mkS 8 .bool (.k (.v (.c (.int .i64 24))))), .s (.mv 3 (.t 7)), .s (.mv 4 (.t 8))] (.alt 0 false (.tk 2 (.one 1 true (.tk 3 (.done (some [1, 3, 4]))))) (.alt 1 false (.one 0 true (.tk 2 (.tk 3 (.done (some [1, 3, 4]))))) (.nil)))) (.seq (.seq (.reg [.s (.fa 9 (.t 1) 0), .s (.load 10 true 2 (.t 9)), .s (.call (some 11) 27 [(.t 10)]), .s (.bnot 12 (.t 11)), .s (.mv 13 (.t 12)), .g 13 false (some 14) (.mv 14 (.t 3)), .g 13 false (some 15) (.fa 15 (.t 1) 3), .g 13 false (some 16) (.load 16 false 1 (.t 15)), .g 13 false (some 17) (.call (some 17) 154 [(.t 14), (.t 16)]), .g 13 false (some 18) (.bnot 18 (.t 17)), .s (.pick 19 (.t 13) (.k (.v (.c .tt))) (.t 18)), .s (.mv 20 (.t 19)), .g 20 false (some 21) (.mv 21 (.t 4)), .g 20 false (some 22) (.fa 22 (.t 1) 2), .g 20 false (some 23) (.load 23 false 1 (.t 22)), .g 20 false (some 24) (.call (some 24) 154 [(.t 21), (.t 23)]), .g 20 false (some 25) (.bnot 25 (.t 24)), .s (.pick 26 (.t 20) (.k (.v (.c .tt))) (.t 25))]) (.cond (.t 26) (.seq (.reg [.s (.mv 2 (.k (.v (.c .ff))))]) (.ret)) (.skip))) (.seq (.seq (.reg [.s (.mv 27 (.t 3)), .s (.len 28 false (.t 27)), .s (.mv 29 (.k (.v (.c (.int .i64 0)))))]) (.blk 0 (.loop [1, 4, 27, 28, 29] lb_impl_HeapOk_0))) (.seq (.reg [.s (.mv 2 (.k (.v (.c .tt))))]) (.ret)))))⟩
def c_impl_HeapOk : Fun := ⟨74, [], fun ts K => as1 ts fun t0 => arG pHeapT t0 fun t => chk (LHeap t 1048576) (K (tB (heapOk t)) [])⟩
theorem run_impl_HeapOk (t : Heap) (hpre : LHeap t 1048576) : runK [c_impl_MemoryOk, c_impl_marked] (30) [] pf_impl_HeapOk [tG (t.tc false [])] fun r o => r = tB (heapOk t) ∧ o = [] := by
  rw [← heapOkI_eq]
  have l2 := hpre.2.1
  have l3 := hpre.2.2
  have lm : LMem t.mem 2147483647 := (hpre.mono (by decide)).1
  have hwl : (markedF (List.replicate 24 false) t.waits).2.length = 24 := by unfold markedF; rw [markedGo_len]; simp
  have hll : (markedF (List.replicate 24 false) t.live).2.length = 24 := by unfold markedF; rw [markedGo_len]; simp
  have hmi : heapOkI t = (memoryOk t.mem && (markedF (List.replicate 24 false) t.waits).1 && (markedF (List.replicate 24 false) t.live).1 && allR (fun c => !((markedF (List.replicate 24 false) t.waits).2.getD c false && (markedF (List.replicate 24 false) t.live).2.getD c false) && ((markedF (List.replicate 24 false) t.waits).2.getD c false == t.mem.gone.getD c false)) 24) := rfl
  rw [hmi]
  clear hmi
  conv => whnf
  repeat' (first | (refine sel_i (fun h => ?_) (fun h => ?_) <;> conv => whnf) | (refine chk_c ?_ ?_ <;> conv => whnf) | (refine And.intro ?_ rfl) | (refine And.intro ?_ ?_ <;> conv => whnf))
  all_goals (try simp only [etaMemory, etaHeap, Bool.not_eq_true', Bool.not_eq_false', show Int.toNat 24 = 24 from rfl, show FT.zero .bool = false from rfl, List.length_replicate] at *)
  all_goals generalize markedF (List.replicate 24 false) t.waits = W at *
  all_goals generalize markedF (List.replicate 24 false) t.live = L at *
  all_goals first
    | (refine ⟨?_⟩; assumption)
    | (refine ⟨?_⟩; omega)
    | (refine ⟨?_⟩; exact ⟨trivial, trivial⟩)
    | (refine ⟨?_⟩; exact ⟨by omega, trivial⟩)
    | (simp only [*, Bool.false_and, Bool.and_false]; done)
    | skip
  have hm : memoryOk t.mem = true := by assumption
  obtain ⟨m1, m2, m3⟩ := memoryOk_n hm
  rename_i g1 g2
  rw [hm, g2, h, Bool.true_and, Bool.true_and, Bool.true_and]
  refine loop (α := Nat) (fun c => ⟨[(1, .v (.c (.ptr 0 0))), (4, .v (.c (.sl true .bool 5))), (27, .v (.c (.sl true .bool 6))), (28, .v (.c (.int .i64 (W.2.length : Int)))), (29, .v (.c (.int .i64 (c : Int))))],
        [(6, some (.flat true .bool none W.2)), (5, some (.flat true .bool none L.2)), (4, some (.flat false .span none t.waits)), (3, some (.flat false .span none t.live)), (2, some (.flat false .bool none t.mem.gone)), (1, some (.flat false .word none t.mem.words)), (0, some (.box true [.sl false .word 1, .sl false .bool 2, .sl false .span 3, .sl false .span 4]))], nums.tail.tail.tail.tail.tail.tail.tail, [], false, []⟩)
      (fun c => c ≤ 24 ∧ allR (fun c => !(W.2.getD c false && L.2.getD c false) && (W.2.getD c false == t.mem.gone.getD c false)) c = true) (fun c => 24 - c) (fun c R hI hR => ?_) 0 _ ⟨by simp, rfl⟩ (by omega)
  obtain ⟨hc, hx⟩ := hI
  conv => whnf
  repeat' (first | (refine sel_i (fun h => ?_) (fun h => ?_) <;> conv => whnf) | (refine chk_c ?_ ?_ <;> conv => whnf) | (refine And.intro ?_ rfl) | (refine And.intro ?_ ?_ <;> conv => whnf))
  all_goals (try simp only [etaMemory, etaHeap, show FT.zero .bool = false from rfl, Int.toNat_natCast, Bool.not_eq_true', Bool.not_eq_false', decide_eq_true_eq, decide_eq_false_iff_not] at *)
  all_goals first
    | (refine ⟨?_⟩; omega)
    | (rw [allR_no (i := c) (by omega) (by rw [h, Bool.and_false])]; done)
    | (rw [allR_no (i := c) (by omega) (by simp only [*]; rfl)]; done)
    | (rw [wrap_id (n := (c : Int) + 1) (by omega) (by omega)]
       exact hR (c + 1) ⟨by omega, allR_yes hx (by rw [h, Bool.and_true]; simp only [*]; rfl)⟩ (by omega))
    | (rw [show 24 = c by omega, hx]; done)
    | (rw [show 24 = c by omega]; rw [hx]; done)
    | (rw [show 24 = c by omega, hx]; done)
    | trace_state
theorem ok_impl_HeapOk : FunOk Try.prog c_impl_HeapOk := funOk (E := [c_impl_MemoryOk, c_impl_marked]) (envOk_cons ok_impl_MemoryOk (envOk_cons ok_impl_marked (envOk_nil))) mixd Try.func74 (pf := pf_impl_HeapOk) (by kernel_rfl) fun ts K h => by
  obtain ⟨t0, e0, h⟩ := as1_out h
  subst e0
  obtain ⟨t, e1, hq⟩ := arG_out rd_heap h
  clear h
  subst e1
  have h := hq
  clear hq
  obtain ⟨hpre, h⟩ := chk_o h
  exact ⟨_, _, h, Nat.le_of_ble_eq_true (show Nat.ble 1 Try.f74.ntmps = true by kernel_rfl), _, run_impl_HeapOk t hpre⟩

def plainW (n : Int) : Word := ⟨andI n 65535, false, ⟨0, 0, 0, 0⟩⟩
def gonB (g : List Bool) (w : Word) : Bool := w.is && inR w.key.base 0 (g.length - 1) && g.getD w.key.base.toNat false
def filterW (g : List Bool) (w : Word) : Word := if gonB g w then plainW w.n else w

def pf_spec_Plain : PF := ⟨[.c 2 true 6], .seq (.reg [.s (.alloc 2 [.int .i64 0, .ff, .int .i64 0, .int .i64 0, .int .i64 0, .int .i64 0])]) (.seq (.reg [.s (.mv 3 (.t 0)), .s (.bin 4 .and (.t 3) (.k (.v (.c (.int .i64 65535))))), .s (.build 5 [.int .i64 0, .ff, .int .i64 0, .int .i64 0, .int .i64 0, .int .i64 0] [(0, 1, (.t 4))]), .s (.store 6 (.t 2) (.t 5))]) (.ret))⟩
def c_spec_Plain : Fun := ⟨164, [], fun ts K => as1 ts fun t0 => arC (pI .i64) t0 fun n => K (tG ((plainW n).tc [])) []⟩
theorem run_spec_Plain (n : Int) : runK [] (0) [] pf_spec_Plain [tI .i64 n] fun r o => r = tG ((plainW n).tc []) ∧ o = [] := by
  conv => whnf
  repeat' (first
    | exact rfl
    | exact trivial
    | (refine sel_i (fun h => ?_) (fun h => ?_) <;> conv => whnf)
    | (refine chk_c ?_ ?_ <;> conv => whnf)
    | (refine And.intro ?_ ?_ <;> conv => whnf))
theorem ok_spec_Plain : FunOk Try.prog c_spec_Plain := funOk (E := []) (envOk_nil) mixd Try.func164 (pf := pf_spec_Plain) (by kernel_rfl) fun ts K h => by
  obtain ⟨t0, e0, h⟩ := as1_out h
  subst e0
  obtain ⟨n, e1, hq⟩ := arC_out (rd_int .i64) h
  clear h
  subst e1
  have h := hq
  clear hq
  exact ⟨_, _, h, Nat.le_of_ble_eq_true (show Nat.ble 1 Try.f164.ntmps = true by kernel_rfl), _, run_spec_Plain n⟩

def pf_impl_Plain : PF := ⟨[.c 2 true 6], .seq (.reg [.s (.alloc 2 [.int .i64 0, .ff, .int .i64 0, .int .i64 0, .int .i64 0, .int .i64 0])]) (.seq (.reg [.s (.mv 3 (.t 0)), .s (.bin 4 .and (.t 3) (.k (.v (.c (.int .i64 65535))))), .s (.build 5 [.int .i64 0, .ff, .int .i64 0, .int .i64 0, .int .i64 0, .int .i64 0] [(0, 1, (.t 4))]), .s (.store 6 (.t 2) (.t 5))]) (.ret))⟩
def c_impl_Plain : Fun := ⟨60, [], fun ts K => as1 ts fun t0 => arC (pI .i64) t0 fun n => K (tG ((plainW n).tc [])) []⟩
theorem run_impl_Plain (n : Int) : runK [] (0) [] pf_impl_Plain [tI .i64 n] fun r o => r = tG ((plainW n).tc []) ∧ o = [] := by
  conv => whnf
  repeat' (first
    | exact rfl
    | exact trivial
    | (refine sel_i (fun h => ?_) (fun h => ?_) <;> conv => whnf)
    | (refine chk_c ?_ ?_ <;> conv => whnf)
    | (refine And.intro ?_ ?_ <;> conv => whnf))
theorem ok_impl_Plain : FunOk Try.prog c_impl_Plain := funOk (E := []) (envOk_nil) mixd Try.func60 (pf := pf_impl_Plain) (by kernel_rfl) fun ts K h => by
  obtain ⟨t0, e0, h⟩ := as1_out h
  subst e0
  obtain ⟨n, e1, hq⟩ := arC_out (rd_int .i64) h
  clear h
  subst e1
  have h := hq
  clear hq
  exact ⟨_, _, h, Nat.le_of_ble_eq_true (show Nat.ble 1 Try.f60.ntmps = true by kernel_rfl), _, run_impl_Plain n⟩

def pf_impl_cloneHeap : PF := ⟨[.c 2 true 4], .seq (.reg [.s (.box 1 (.t 0)), .s (.alloc 2 [.nils .word, .nils .bool, .nils .span, .nils .span])]) (.seq (.rgd [] [.s (.fa 3 (.t 1) 0), .s (.load 4 true 2 (.t 3)), .s (.call (some 5) 175 [(.t 4)]), .s (.fa 6 (.t 1) 2), .s (.load 7 false 1 (.t 6)), .s (.call (some 8) 191 [(.t 7)]), .s (.fa 9 (.t 1) 3), .s (.load 10 false 1 (.t 9)), .s (.call (some 11) 191 [(.t 10)]), .s (.build 12 [.nils .word, .nils .bool, .nils .span, .nils .span] [(0, 2, (.t 5)), (2, 1, (.t 8)), (3, 1, (.t 11))]), .s (.store 4 (.t 2) (.t 12))] (.tk 0 (.tk 1 (.tk 3 (.tk 4 (.tk 6 (.tk 7 (.one 2 false (.one 5 false (.one 8 true (.tk 9 (.one 10 true (.done none))))))))))))) (.ret))⟩
def c_impl_cloneHeap : Fun := ⟨140, [], fun ts K => as1 ts fun t0 => arG pHeapT t0 fun t => chk (LHeap t 2147483647) (K (tG (t.tc true [])) [])⟩
theorem run_impl_cloneHeap (t : Heap) (hpre : LHeap t 2147483647) : runK [c_impl_cloneMemory, c_slices_Clone_Span] (0) [] pf_impl_cloneHeap [tG (t.tc false [])] fun r o => r = tG (t.tc true []) ∧ o = [] := by
  obtain ⟨⟨l1, l4⟩, l2, l3⟩ := hpre
  conv => whnf
  repeat' (first | (refine chk_c ?_ ?_ <;> conv => whnf) | (refine And.intro ?_ ?_ <;> conv => whnf))
  all_goals first
    | (refine ⟨?_⟩; omega)
    | (refine ⟨?_⟩; simp; done)
    | (refine ⟨?_⟩; simp [LMem, LTwo] at *; omega)
    | rfl
    | exact True.intro
    | exact ⟨rfl, rfl⟩
theorem ok_impl_cloneHeap : FunOk Try.prog c_impl_cloneHeap := funOk (E := [c_impl_cloneMemory, c_slices_Clone_Span]) (envOk_cons ok_impl_cloneMemory (envOk_cons ok_slices_Clone_Span (envOk_nil))) mixd Try.func140 (pf := pf_impl_cloneHeap) (by kernel_rfl) fun ts K h => by
  obtain ⟨t0, e0, h⟩ := as1_out h
  subst e0
  obtain ⟨t, e1, hq⟩ := arG_out rd_heap h
  clear h
  subst e1
  have h := hq
  clear hq
  obtain ⟨hpre, h⟩ := chk_o h
  exact ⟨_, _, h, Nat.le_of_ble_eq_true (show Nat.ble 1 Try.f140.ntmps = true by kernel_rfl), _, run_impl_cloneHeap t hpre⟩

def pf_spec_l23Copy : PF := ⟨[.c 2 true 4], .seq (.reg [.s (.box 1 (.t 0)), .s (.alloc 2 [.nils .word, .nils .bool, .nils .span, .nils .span])]) (.seq (.rgd [] [.s (.fa 3 (.t 1) 0), .s (.load 4 true 2 (.t 3)), .s (.call (some 5) 190 [(.t 4)]), .s (.bs 6 .span []), .s (.fa 7 (.t 1) 2), .s (.load 8 false 1 (.t 7)), .s (.app 9 .span (.t 6) (.t 8)), .s (.bs 10 .span []), .s (.fa 11 (.t 1) 3), .s (.load 12 false 1 (.t 11)), .s (.app 13 .span (.t 10) (.t 12)), .s (.build 14 [.nils .word, .nils .bool, .nils .span, .nils .span] [(0, 2, (.t 5)), (2, 1, (.t 9)), (3, 1, (.t 13))]), .s (.store 4 (.t 2) (.t 14))] (.tk 0 (.tk 1 (.tk 4 (.tk 5 (.tk 8 (.tk 9 (.alt 2 false (.alt 3 false (.alt 6 false (.one 7 false (.one 10 true (.tk 11 (.one 12 true (.done (some [2])))))) (.alt 7 false (.one 6 false (.one 10 true (.tk 11 (.one 12 true (.done (some [2])))))) (.nil))) (.alt 7 false (.one 3 false (.one 6 false (.one 10 true (.tk 11 (.one 12 true (.done (some [2]))))))) (.nil))) (.alt 3 false (.alt 2 false (.alt 6 false (.one 7 false (.one 10 true (.tk 11 (.one 12 true (.done (some [2])))))) (.alt 7 false (.one 6 false (.one 10 true (.tk 11 (.one 12 true (.done (some [2])))))) (.nil))) (.alt 7 false (.one 2 false (.one 6 false (.one 10 true (.tk 11 (.one 12 true (.done (some [2]))))))) (.nil))) (.alt 7 false (.alt 2 false (.one 3 false (.one 6 false (.one 10 true (.tk 11 (.one 12 true (.done (some [2]))))))) (.alt 3 false (.one 2 false (.one 6 false (.one 10 true (.tk 11 (.one 12 true (.done (some [2]))))))) (.nil))) (.nil))))))))))) (.ret))⟩
def c_spec_l23Copy : Fun := ⟨138, [], fun ts K => as1 ts fun t0 => arG pHeapT t0 fun t => chk (LHeap t 2147483647) (K (tG (t.tc true [])) [])⟩
theorem run_spec_l23Copy (t : Heap) (hpre : LHeap t 2147483647) : runK [c_spec_l8Copy] (0) [] pf_spec_l23Copy [tG (t.tc false [])] fun r o => r = tG (t.tc true []) ∧ o = [] := by
  obtain ⟨⟨l1, l4⟩, l2, l3⟩ := hpre
  conv => whnf
  repeat' (first | (refine chk_c ?_ ?_ <;> conv => whnf) | (refine And.intro ?_ ?_ <;> conv => whnf))
  all_goals first
    | (refine ⟨?_⟩; omega)
    | (refine ⟨?_⟩; simp; done)
    | (refine ⟨?_⟩; simp [LMem, LTwo] at *; omega)
    | rfl
    | exact True.intro
    | exact ⟨rfl, rfl⟩
theorem ok_spec_l23Copy : FunOk Try.prog c_spec_l23Copy := funOk (E := [c_spec_l8Copy]) (envOk_cons ok_spec_l8Copy (envOk_nil)) mixd Try.func138 (pf := pf_spec_l23Copy) (by kernel_rfl) fun ts K h => by
  obtain ⟨t0, e0, h⟩ := as1_out h
  subst e0
  obtain ⟨t, e1, hq⟩ := arG_out rd_heap h
  clear h
  subst e1
  have h := hq
  clear hq
  obtain ⟨hpre, h⟩ := chk_o h
  exact ⟨_, _, h, Nat.le_of_ble_eq_true (show Nat.ble 1 Try.f138.ntmps = true by kernel_rfl), _, run_spec_l23Copy t hpre⟩

theorem heapOk_mem {h : Heap} (k : heapOk h = true) : memoryOk h.mem = true := by
  simp only [heapOk, Bool.and_eq_true] at k; exact k.1.1.1
theorem szHeap_n2 {h : Heap} {k : Int} (h0 : k ≤ 1048576) (hh : 0 ≤ szHeapI h k) : LHeap h 1048576 ∧ szHeapI h k ≤ 1048576 := by
  obtain ⟨h1, h2, e1⟩ := szB_pos hh
  obtain ⟨h3, h4, e2⟩ := szB_pos h2
  have h5 := szMem_n h0 h1; have h6 := szr_n h3; have h7 := szr_n h4
  have e3 : szHeapI h k = szr (szr (szMem h.mem k) h.live.length) h.waits.length := e1.trans e2
  exact ⟨⟨h5.1, by omega, by omega⟩, by omega⟩

def tryW (w : Word) (n p : Int) : Int := if w.is = false ∨ wordOk w = false then 1 else if w.key.sealed ≠ 0 then 2 else if andI w.key.perms p ≠ p then 3 else if n < w.key.base ∨ w.key.top ≤ n then 4 else 0
def takenW (y w : Word) : Word := if andI y.key.perms 8 = 0 then plainW w.n else w
def mayPut (y w : Word) : Bool := !w.is || andI y.key.perms 16 != 0
def openW (w : Word) : Bool := wordOk w && w.is && w.key.sealed == 0
def weakenW (w : Word) (m : Int) : Word := if openW w then { w with key := { w.key with perms := andI w.key.perms (andI m 63) } } else plainW w.n
def narrowW (w : Word) (n : Int) : Word :=
  if openW w && inR n 0 4096 && boundsOk w.n (IntKind.i64.wrap (w.n + n)) then
    (if (wide w.n (IntKind.i64.wrap (w.n + n))).1 < w.key.base ∨ w.key.top < (wide w.n (IntKind.i64.wrap (w.n + n))).2 then plainW w.n else { w with key := { w.key with base := (wide w.n (IntKind.i64.wrap (w.n + n))).1, top := (wide w.n (IntKind.i64.wrap (w.n + n))).2 } })
  else plainW w.n
def pointW (w : Word) (n : Int) : Word := if openW w then ⟨andI n 65535, true, w.key⟩ else plainW n
def sealsB (y : Word) : Bool := openW y && (andI y.key.perms 32 != 0) && decide (y.key.base ≤ y.n) && decide (y.n < y.key.top) && inR y.n 1 7
def sealBy (w y : Word) : Word := if openW w && sealsB y then { w with key := { w.key with sealed := y.n } } else plainW w.n
def openBy (w y : Word) : Word := if wordOk w && w.is && sealsB y && w.key.sealed == y.n then { w with key := { w.key with sealed := 0 } } else plainW w.n


def formS (op : Int) : ByteArray :=
  if op = 1 then ⟨#[82, 78]⟩ else if op = 2 ∨ op = 4 ∨ op = 5 ∨ op = 7 ∨ op = 8 then ⟨#[82, 65, 66]⟩ else if op = 3 ∨ op = 9 ∨ op = 12 then ⟨#[82, 65]⟩ else if op = 6 then ⟨#[82, 65, 66, 78]⟩ else
  if op = 10 then ⟨#[82, 65, 78]⟩ else if op = 11 then ⟨#[65, 66, 78]⟩ else if op = 13 then ⟨#[65, 78]⟩ else if op = 14 then ⟨#[65]⟩ else ⟨#[]⟩
def maskI (op : Int) : Int := if inR op 1 15 then ([0, 9, 7, 3, 7, 7, 15, 7, 7, 3, 11, 14, 3, 10, 2, 0] : List Int).getD op.toNat 0 else 0
def hasC (op c : Int) : Bool := (bytesI (formS op)).any (fun b => c == b)
def fld (v : Int) (b : Bool) : Bool := inR v 0 7 && (b || v == 0)
def insOk (x : Inst) : Bool := inR x.op 1 15 && fld x.r (andI (maskI x.op) 1 != 0) && fld x.a (andI (maskI x.op) 2 != 0) && fld x.b (andI (maskI x.op) 4 != 0) && inR x.n (-128) 127 && (andI (maskI x.op) 8 != 0 || x.n == 0)

abbrev zW : Word := ⟨0, false, ⟨0, 0, 0, 0⟩⟩
abbrev zI : Inst := ⟨0, 0, 0, 0, 0⟩
def readC (m : Mem) (y : Word) (n : Int) : Int := if tryW y n 1 ≠ 0 then tryW y n 1 else if inR n 0 (m.words.length - 1) then 0 else 4
def readM (m : Mem) (y : Word) (n : Int) : Word × Int := if readC m y n ≠ 0 then (zW, readC m y n) else (filterW m.gone (takenW y (m.words.getD n.toNat (FT.zero .word))), 0)
def writeC (m : Mem) (y : Word) (n : Int) (w : Word) : Int := if tryW y n 2 ≠ 0 then tryW y n 2 else if inR n 0 (m.words.length - 1) = false then 4 else if mayPut y w = false then 3 else 0
def fetchI (l : List Inst) (pc : Word) : Inst × Int := if tryW pc pc.n 4 ≠ 0 then (zI, tryW pc pc.n 4) else if inR pc.n 0 (l.length - 1) = false ∨ insOk (l.getD pc.n.toNat (FT.zero .inst)) = false then (zI, 4) else (l.getD pc.n.toNat (FT.zero .inst), 0)
def trapE (c : Int) (pc : Word) : Eff := ⟨c, -1, zW, pc, -1, zW, -1⟩
def madeW (x : Inst) (a b got : Word) : Word :=
  if x.op = 1 then plainW x.n else if x.op = 2 then plainW (IntKind.i64.wrap (a.n + b.n)) else if x.op = 3 then a else if x.op = 4 then weakenW a b.n else if x.op = 5 then narrowW a b.n else
  if x.op = 6 then pointW a (IntKind.i64.wrap (IntKind.i64.wrap (a.n + b.n) + x.n)) else if x.op = 7 then sealBy a b else if x.op = 8 then openBy a b else if x.op = 9 then (if a.is then plainW 1 else plainW 0) else got
def nextW (pc : Word) : Word := pointW pc (IntKind.i64.wrap (pc.n + 1))
def workE (x : Inst) (pc a b got : Word) : Eff :=
  if x.op = 11 then ⟨0, -1, zW, nextW pc, IntKind.i64.wrap (a.n + x.n), b, -1⟩ else
  if x.op = 12 then (if tryW a a.n 4 ≠ 0 then trapE (tryW a a.n 4) pc else ⟨0, x.r, nextW pc, a, -1, zW, -1⟩) else
  if x.op = 13 then ⟨0, -1, zW, if a.n = 0 then pointW pc (IntKind.i64.wrap (pc.n + x.n)) else nextW pc, -1, zW, -1⟩ else
  if x.op = 14 then (if tryW a a.n 32 ≠ 0 then trapE (tryW a a.n 32) pc else ⟨0, -1, zW, nextW pc, -1, zW, a.key.base⟩) else
  if x.op = 15 then trapE 5 pc else
  if hasC x.op 82 then ⟨0, x.r, if 0 ≤ x.r then madeW x a b got else zW, nextW pc, -1, zW, -1⟩ else ⟨0, -1, zW, nextW pc, -1, zW, -1⟩



def memE (m : Mem) (x : Inst) (a b : Word) : Word × Int :=
  if x.op = 10 then readM m a (IntKind.i64.wrap (a.n + x.n)) else if x.op = 11 then (zW, writeC m a (IntKind.i64.wrap (a.n + x.n)) b) else (zW, 0)
def effE (l : List Inst) (s : State) : Eff :=
  let x := (fetchI l s.pc).1
  let a := s.regs.getD x.a.toNat (FT.zero .word)
  let b := s.regs.getD x.b.toNat (FT.zero .word)
  if (fetchI l s.pc).2 ≠ 0 then trapE (fetchI l s.pc).2 s.pc else
  if (memE s.mem x a b).2 ≠ 0 then trapE (memE s.mem x a b).2 s.pc else workE x s.pc a b (memE s.mem x a b).1
def putE (s : State) (e : Eff) : State :=
  ⟨if inR e.r 0 7 then s.regs.set e.r.toNat e.val else s.regs, e.next,
   ⟨if inR e.addr 0 23 then s.mem.words.set e.addr.toNat e.put else s.mem.words, if inR e.drop 0 23 then s.mem.gone.set e.drop.toNat true else s.mem.gone⟩, s.trap⟩
abbrev zState : State := ⟨[], zW, ⟨[], []⟩, 0⟩
def stepS (l : List Inst) (s : State) : State :=
  if stateOk s = false then zState else if s.trap ≠ 0 then s else if (effE l s).trap ≠ 0 then ⟨s.regs, s.pc, s.mem, (effE l s).trap⟩ else putE s (effE l s)
def LenOk (s : State) : Prop := s.regs.length = 8 ∧ s.mem.words.length = 24 ∧ s.mem.gone.length = 24
theorem LenOk.l {s : State} (h : LenOk s) : LState s 2147483647 := by
  obtain ⟨h1, h2, h3⟩ := h; exact ⟨by omega, by omega, by omega⟩
theorem fetchI_ok {l : List Inst} {pc : Word} (h : (fetchI l pc).2 = 0) : insOk (fetchI l pc).1 = true := by
  unfold fetchI at h ⊢
  split at h
  · contradiction
  · rename_i h1
    rw [if_neg h1]
    split at h
    · cases h
    · rename_i h2
      rw [if_neg h2]
      cases e : insOk (l.getD pc.n.toNat (FT.zero .inst)) with
      | true => rfl
      | false => exact absurd (.inr e) h2
theorem memE_10 {m : Mem} {x : Inst} {a b : Word} (h : x.op = 10) : memE m x a b = readM m a (IntKind.i64.wrap (a.n + x.n)) := if_pos h
theorem memE_11 {m : Mem} {x : Inst} {a b : Word} (h0 : ¬ x.op = 10) (h : x.op = 11) : memE m x a b = (zW, writeC m a (IntKind.i64.wrap (a.n + x.n)) b) := by unfold memE; rw [if_neg h0, if_pos h]
theorem memE_x {m : Mem} {x : Inst} {a b : Word} (h0 : ¬ x.op = 10) (h : ¬ x.op = 11) : memE m x a b = (zW, 0) := by unfold memE; rw [if_neg h0, if_neg h]

theorem stepS_trap {l : List Inst} {s : State} (h : stateOk s = true) (h2 : ¬ s.trap = 0) : stepS l s = s := by
  unfold stepS; rw [if_neg (by rw [h]; decide), if_pos h2]
theorem stepS_e {l : List Inst} {s : State} (h : stateOk s = true) (h2 : s.trap = 0) (h3 : ¬ (effE l s).trap = 0) : stepS l s = ⟨s.regs, s.pc, s.mem, (effE l s).trap⟩ := by
  unfold stepS; rw [if_neg (by rw [h]; decide), if_neg (by simpa using h2), if_pos h3]
theorem stepS_0 {l : List Inst} {s : State} (h : stateOk s = true) (h2 : s.trap = 0) (h3 : (effE l s).trap = 0) : stepS l s = putE s (effE l s) := by
  unfold stepS; rw [if_neg (by rw [h]; decide), if_neg (by simpa using h2), if_neg (by simpa using h3)]

theorem LState.mono {t : State} {n m : Nat} (h : LState t n) (k : n ≤ m) : LState t m := ⟨Nat.le_trans h.1 k, Nat.le_trans h.2.1 k, Nat.le_trans h.2.2 k⟩










/-! words that are right, and what they are under -/
theorem wrap_bv (n : Int) : BitVec.ofInt IntKind.i64.bits (IntKind.i64.wrap n) = BitVec.ofInt IntKind.i64.bits n := by
  apply BitVec.eq_of_toNat_eq
  simp only [BitVec.toNat_ofInt, IntKind.wrap_i64]
  show (_ % (18446744073709551616 : Int)).toNat = (n % (18446744073709551616 : Int)).toNat
  omega
theorem andI_bv (a b : Int) : BitVec.ofInt IntKind.i64.bits (andI a b) = BitVec.ofInt IntKind.i64.bits a &&& BitVec.ofInt IntKind.i64.bits b := by
  unfold andI
  rw [wrap_bv, BitVec.ofInt_natCast, BitVec.ofNat_toNat, BitVec.setWidth_eq]
theorem andI_comm (a b : Int) : andI a b = andI b a := by unfold andI; rw [BitVec.and_comm]
theorem andI_assoc (a b c : Int) : andI (andI a b) c = andI a (andI b c) := by
  have h1 : andI (andI a b) c = IntKind.i64.wrap ((BitVec.ofInt IntKind.i64.bits a &&& BitVec.ofInt IntKind.i64.bits b) &&& BitVec.ofInt IntKind.i64.bits c).toNat := by rw [← andI_bv]; rfl
  have h2 : andI a (andI b c) = IntKind.i64.wrap (BitVec.ofInt IntKind.i64.bits a &&& (BitVec.ofInt IntKind.i64.bits b &&& BitVec.ofInt IntKind.i64.bits c)).toNat := by rw [← andI_bv]; rfl
  rw [h1, h2, BitVec.and_assoc]
theorem andI_zero (a : Int) : andI a 0 = 0 := by
  unfold andI
  rw [show BitVec.ofInt IntKind.i64.bits 0 = 0#_ from rfl, BitVec.and_zero]; rfl
theorem andI_nat {m n : Nat} (h : n < 9223372036854775808) : andI (m : Int) (n : Int) = ((m % 18446744073709551616 &&& n : Nat) : Int) := by
  unfold andI
  rw [BitVec.ofInt_natCast, BitVec.ofInt_natCast, BitVec.toNat_and, BitVec.toNat_ofNat, BitVec.toNat_ofNat]
  show IntKind.i64.wrap ((m % 18446744073709551616 &&& n % 18446744073709551616 : Nat) : Int) = _
  rw [Nat.mod_eq_of_lt (a := n) (by omega)]
  have : m % 18446744073709551616 &&& n ≤ n := Nat.and_le_right
  exact wrap_id (by omega) (by omega)
theorem andI_le (a : Int) {p : Int} (h : 0 ≤ p) (h2 : p < 9223372036854775808) : 0 ≤ andI a p ∧ andI a p ≤ p := by
  obtain ⟨n, rfl⟩ := Int.eq_ofNat_of_zero_le h
  unfold andI
  have h1 : (BitVec.ofInt IntKind.i64.bits a &&& BitVec.ofInt IntKind.i64.bits (n : Int)).toNat ≤ n := by
    rw [BitVec.toNat_and, BitVec.ofInt_natCast, BitVec.toNat_ofNat]
    refine Nat.le_trans Nat.and_le_right (Nat.mod_le _ _)
  rw [wrap_id (by omega) (by omega)]; omega
theorem andI_le' {p : Int} (a : Int) (h : 0 ≤ p) (h2 : p < 9223372036854775808) : 0 ≤ andI p a ∧ andI p a ≤ p := by rw [andI_comm]; exact andI_le a h h2
theorem andI_same (a b : Int) : andI a (andI a b) = andI a b := by
  rw [← andI_assoc]
  have h1 : andI (andI a a) b = IntKind.i64.wrap ((BitVec.ofInt IntKind.i64.bits a &&& BitVec.ofInt IntKind.i64.bits a) &&& BitVec.ofInt IntKind.i64.bits b).toNat := by rw [← andI_bv]; rfl
  rw [h1, BitVec.and_self]; rfl
theorem andI_self {a : Int} (h : 0 ≤ a) (h2 : a < 9223372036854775808) : andI a a = a := by
  obtain ⟨n, rfl⟩ := Int.eq_ofNat_of_zero_le h
  rw [andI_nat (by omega), Nat.mod_eq_of_lt (by omega), Nat.and_self]
theorem andI_bit {a b p : Int} (h : andI a b = b) (hp : ¬ andI b p = 0) : ¬ andI a p = 0 := fun h0 => hp (by
  rw [← h, andI_comm a b, andI_assoc, h0, andI_zero])

/-! ### bounds -/
theorem packGo_some {b t : Int} {p : Packed} : ∀ {n e0 : Nat}, packGo b t n e0 = some p → ∃ e : Nat, e0 ≤ e ∧ e < e0 + n ∧ p = ⟨e, packB b e, packL b t e⟩ ∧ packOk b t e = true
  | 0, e0, h => by cases h
  | n + 1, e0, h => by
    unfold packGo at h
    split at h
    · rename_i h1; cases h; exact ⟨e0, by omega, by omega, rfl, h1⟩
    · obtain ⟨e, h1, h2, h3, h4⟩ := packGo_some h; exact ⟨e, by omega, by omega, h3, h4⟩
theorem packGo_find {b t : Int} {e : Nat} (hp : packOk b t e = true) : ∀ {n e0 : Nat}, e0 ≤ e → e < e0 + n → ∃ f : Nat, e0 ≤ f ∧ f ≤ e ∧ packGo b t n e0 = some ⟨f, packB b f, packL b t f⟩ ∧ packOk b t f = true
  | 0, e0, h1, h2 => by omega
  | n + 1, e0, h1, h2 => by
    by_cases h : packOk b t e0 = true
    · exact ⟨e0, by omega, h1, packGo_t h, h⟩
    · have hne : e0 ≠ e := fun q => h (q ▸ hp)
      obtain ⟨f, g1, g2, g3, g4⟩ := packGo_find hp (n := n) (e0 := e0 + 1) (by omega) (by omega)
      exact ⟨f, by omega, g2, by rw [packGo_f (by simpa using h)]; exact g3, g4⟩
theorem packOk_n {b t : Int} {e : Nat} (h : packOk b t e = true) : packB b e ≤ 63 ∧ packL b t e ≤ 63 := by simpa [packOk] using h
theorem wide_e {b t : Int} (h : boundsOk b t = true) {e : Nat} (he : e ≤ 6) (hp : pack b t = some ⟨e, packB b e, packL b t e⟩) (ho : packOk b t e = true) :
    wide b t = (packB b e * 2 ^ e, min 4096 ((packB b e + packL b t e) * 2 ^ e)) := by
  obtain ⟨h0, h1, h2⟩ := bounds_n h
  obtain ⟨o1, o2⟩ := packOk_n ho
  have hu : unpackOk ⟨e, packB b e, packL b t e⟩ = true := by
    simp only [unpackOk, Bool.and_eq_true, inR_t]
    unfold packB packL at *
    rcases e_cases he with rfl | rfl | rfl | rfl | rfl | rfl | rfl <;> simp only [Int.reducePow, Int.pow_zero] at * <;> omega
  unfold wide
  rw [if_pos h, hp]
  simp only [Option.isSome_some, if_true, Option.getD_some]
  rw [unpack_yes hu]
  simp only [Int.toNat_natCast]
theorem wide_cases {b t : Int} (h : boundsOk b t = true) : wide b t = (0, 4096) ∨ ∃ e : Nat, e ≤ 6 ∧ packOk b t e = true ∧ wide b t = (packB b e * 2 ^ e, min 4096 ((packB b e + packL b t e) * 2 ^ e)) := by
  cases hp : pack b t with
  | none => left; unfold wide; rw [if_pos h, hp]; rfl
  | some p =>
    have hp2 := hp
    rw [pack_yes h] at hp2
    obtain ⟨e, h1, h2, rfl, h4⟩ := packGo_some hp2
    exact .inr ⟨e, by omega, h4, wide_e h (by omega) hp h4⟩
theorem wide_parts {e : Nat} (he : e ≤ 6) {lo hi B L : Int} (hB : 0 ≤ B ∧ B ≤ 63) (hL : 0 ≤ L ∧ L ≤ 63) (h1 : lo = B * 2 ^ e) (h2 : hi = min 4096 ((B + L) * 2 ^ e)) : boundsOk lo hi = true ∧ wide lo hi = (lo, hi) := by
  have hb : boundsOk lo hi = true := by
    simp only [boundsOk, Bool.and_eq_true, decide_eq_true_eq]
    rcases e_cases he with rfl | rfl | rfl | rfl | rfl | rfl | rfl <;> simp only [Int.reducePow, Int.pow_zero] at * <;> omega
  refine ⟨hb, ?_⟩
  have ho : packOk lo hi e = true := by
    simp only [packOk, Bool.and_eq_true, decide_eq_true_eq]
    unfold packB packL
    rcases e_cases he with rfl | rfl | rfl | rfl | rfl | rfl | rfl <;> simp only [Int.reducePow, Int.pow_zero] at * <;> omega
  obtain ⟨f, f1, f2, f3, f4⟩ := packGo_find ho (n := 7) (e0 := 0) (by omega) (by omega)
  rw [wide_e hb (e := f) (by omega) (by rw [pack_yes hb]; exact f3) f4]
  unfold packB packL
  rcases e_cases he with rfl | rfl | rfl | rfl | rfl | rfl | rfl <;> rcases e_cases (e := f) (by omega) with rfl | rfl | rfl | rfl | rfl | rfl | rfl <;>
    first
      | (exfalso; omega)
      | (simp only [Int.reducePow, Int.pow_zero, Prod.mk.injEq] at *; omega)
theorem wide_ok {b t : Int} (h : boundsOk b t = true) : 0 ≤ (wide b t).1 ∧ (wide b t).1 ≤ b ∧ t ≤ (wide b t).2 ∧ (wide b t).2 ≤ 4096 ∧ exact_ (wide b t).1 (wide b t).2 = true := by
  obtain ⟨h0, h1, h2⟩ := bounds_n h
  rcases wide_cases h with e | ⟨e, he, ho, hw⟩
  · rw [e]; exact ⟨by decide, by omega, by omega, by decide, by decide +kernel⟩
  · obtain ⟨o1, o2⟩ := packOk_n ho
    have hB : 0 ≤ packB b e ∧ packB b e ≤ 63 := ⟨by
      unfold packB
      rcases e_cases he with rfl | rfl | rfl | rfl | rfl | rfl | rfl <;> simp only [Int.reducePow, Int.pow_zero] <;> omega, o1⟩
    have hL : 0 ≤ packL b t e ∧ packL b t e ≤ 63 := ⟨by
      unfold packL
      rcases e_cases he with rfl | rfl | rfl | rfl | rfl | rfl | rfl <;> simp only [Int.reducePow, Int.pow_zero] <;> omega, o2⟩
    obtain ⟨g1, g2⟩ := wide_parts he hB hL rfl rfl
    rw [hw]
    refine ⟨?_, ?_, ?_, by dsimp only; omega, by simp only [exact_, g1, g2, decide_true, Bool.and_self]⟩
    all_goals
      dsimp only
      unfold packB packL at *
      rcases e_cases he with rfl | rfl | rfl | rfl | rfl | rfl | rfl <;> simp only [Int.reducePow, Int.pow_zero] at * <;> omega
/-! ### keys and words -/
theorem keyOk_n {k : Key} (h : keyOk k = true) : 0 ≤ k.base ∧ k.base ≤ k.top ∧ k.top ≤ 4096 ∧ 0 ≤ k.perms ∧ k.perms ≤ 63 ∧ 0 ≤ k.sealed ∧ k.sealed ≤ 7 := by
  simp only [keyOk, Bool.and_eq_true, exact_, inR_t] at h
  have := bounds_n h.1.1.1.1
  omega
theorem keyOk_mk {k : Key} (h : exact_ k.base k.top = true) (h1 : 0 ≤ k.perms ∧ k.perms ≤ 63) (h2 : 0 ≤ k.sealed ∧ k.sealed ≤ 7) : keyOk k = true := by
  simp only [keyOk, Bool.and_eq_true, inR_t]; exact ⟨⟨h, h1⟩, h2⟩
theorem keyOk_exact {k : Key} (h : keyOk k = true) : exact_ k.base k.top = true := by simp only [keyOk, Bool.and_eq_true] at h; exact h.1.1
theorem wordOk_is {w : Word} (h : wordOk w = true) (h2 : w.is = true) : keyOk w.key = true := by
  simp only [wordOk, h2, if_true, Bool.and_eq_true] at h; exact h.2
theorem wordOk_mk {n : Int} {k : Key} (h : 0 ≤ n ∧ n ≤ 65535) (h2 : keyOk k = true) : wordOk ⟨n, true, k⟩ = true := by
  simp only [wordOk, if_true, Bool.and_eq_true, inR_t]; exact ⟨h, h2⟩
theorem and65 (n : Int) : 0 ≤ andI n 65535 ∧ andI n 65535 ≤ 65535 := andI_le n (by decide) (by decide)
theorem plainW_ok (n : Int) : wordOk (plainW n) = true := by
  simp only [wordOk, plainW, Bool.and_eq_true, inR_t, Bool.false_eq_true, if_false, decide_true, and_true]
  exact and65 n
def coversK (a b : Key) : Bool := keyOk a && keyOk b && decide (a.base ≤ b.base) && decide (b.top ≤ a.top) && decide (andI a.perms b.perms = b.perms)
theorem coversK_iff {a b : Key} : coversK a b = true ↔ keyOk a = true ∧ keyOk b = true ∧ a.base ≤ b.base ∧ b.top ≤ a.top ∧ andI a.perms b.perms = b.perms := by
  simp only [coversK, Bool.and_eq_true, decide_eq_true_eq, and_assoc]
theorem coversK_refl {a : Key} (h : keyOk a = true) : coversK a a = true :=
  coversK_iff.2 ⟨h, h, Int.le_refl _, Int.le_refl _, andI_self (by have := keyOk_n h; omega) (by have := keyOk_n h; omega)⟩
theorem coversK_trans {a b c : Key} (h : coversK a b = true) (k : coversK b c = true) : coversK a c = true := by
  obtain ⟨h1, h2, h3, h4, h5⟩ := coversK_iff.1 h
  obtain ⟨k1, k2, k3, k4, k5⟩ := coversK_iff.1 k
  exact coversK_iff.2 ⟨h1, k2, by omega, by omega, by rw [← k5, ← andI_assoc, h5]⟩
def Und (C : List Word) (w : Word) : Prop := w.is = true → ∃ c ∈ C, c.is = true ∧ coversK c.key w.key = true
theorem und_bare (C : List Word) (n : Int) : Und C (plainW n) := fun h => by cases h
theorem und_zero (C : List Word) : Und C zW := fun h => by cases h
theorem und_of {C : List Word} {w v : Word} (h : Und C w) (hw : w.is = true) (hk : coversK w.key v.key = true) : Und C v := fun _ => by
  obtain ⟨c, h1, h2, h3⟩ := h hw
  exact ⟨c, h1, h2, coversK_trans h3 hk⟩
theorem openW_iff {w : Word} : openW w = true ↔ wordOk w = true ∧ w.is = true ∧ w.key.sealed = 0 := by
  simp only [openW, Bool.and_eq_true, beq_iff_eq, and_assoc]
theorem sealsB_n {y : Word} (h : sealsB y = true) : openW y = true ∧ ¬ andI y.key.perms 32 = 0 ∧ 1 ≤ y.n ∧ y.n ≤ 7 := by
  simp only [sealsB, Bool.and_eq_true, bne_iff_ne, inR_t] at h
  exact ⟨h.1.1.1.1, h.1.1.1.2, h.2.1, h.2.2⟩
def Fine (w v : Word) : Prop := wordOk v = true ∧ (v.is = true → w.is = true ∧ coversK w.key v.key = true)
theorem fine_bare (w : Word) (n : Int) : Fine w (plainW n) := ⟨plainW_ok n, fun h => by cases h⟩
theorem fine_self {w : Word} (h : wordOk w = true) : Fine w w := ⟨h, fun hi => ⟨hi, coversK_refl (wordOk_is h hi)⟩⟩
theorem Fine.und {C : List Word} {w v : Word} (h : Fine w v) (hu : Und C w) : Und C v := fun hi => by
  obtain ⟨h1, h2⟩ := h.2 hi
  exact und_of hu h1 h2 hi
theorem weakenW_fine (w : Word) (m : Int) : Fine w (weakenW w m) := by
  unfold weakenW
  split
  · rename_i h
    obtain ⟨h1, h2, h3⟩ := openW_iff.1 h
    have hk := wordOk_is h1 h2
    have hn := keyOk_n hk
    have hp := andI_le' (andI m 63) (p := w.key.perms) (by omega) (by omega)
    have hk' : keyOk { w.key with perms := andI w.key.perms (andI m 63) } = true := keyOk_mk (k := ⟨w.key.base, w.key.top, andI w.key.perms (andI m 63), w.key.sealed⟩) (keyOk_exact (k := w.key) hk) ⟨hp.1, by dsimp only; omega⟩ (by dsimp only; omega)
    refine ⟨?_, fun _ => ⟨h2, coversK_iff.2 ⟨hk, hk', Int.le_refl _, Int.le_refl _, andI_same _ _⟩⟩⟩
    have hw := wordOk_n h1
    simp only [wordOk, h2, if_true, Bool.and_eq_true, inR_t]
    exact ⟨hw, hk'⟩
  · exact fine_bare w _
theorem narrowW_fine (w : Word) (n : Int) : Fine w (narrowW w n) := by
  unfold narrowW
  split
  · rename_i h
    simp only [Bool.and_eq_true] at h
    obtain ⟨⟨h, _⟩, hb⟩ := h
    obtain ⟨h1, h2, h3⟩ := openW_iff.1 h
    have hk := wordOk_is h1 h2
    have hn := keyOk_n hk
    split
    · exact fine_bare w _
    · rename_i hr
      obtain ⟨w1, w2, w3, w4, w5⟩ := wide_ok hb
      have hk' : keyOk { w.key with base := (wide w.n (IntKind.i64.wrap (w.n + n))).1, top := (wide w.n (IntKind.i64.wrap (w.n + n))).2 } = true := keyOk_mk w5 (by dsimp only; omega) (by dsimp only; omega)
      refine ⟨?_, fun _ => ⟨h2, coversK_iff.2 ⟨hk, hk', by dsimp only; omega, by dsimp only; omega, andI_self (by omega) (by omega)⟩⟩⟩
      have hw := wordOk_n h1
      simp only [wordOk, h2, if_true, Bool.and_eq_true, inR_t]
      exact ⟨hw, hk'⟩
  · exact fine_bare w _
theorem pointW_fine (w : Word) (n : Int) : Fine w (pointW w n) := by
  unfold pointW
  split
  · rename_i h
    obtain ⟨h1, h2, h3⟩ := openW_iff.1 h
    exact ⟨wordOk_mk (and65 n) (wordOk_is h1 h2), fun _ => ⟨h2, coversK_refl (wordOk_is h1 h2)⟩⟩
  · exact fine_bare w _
theorem seal_fine {w : Word} (h1 : wordOk w = true) (h2 : w.is = true) {s : Int} (hs : 0 ≤ s ∧ s ≤ 7) : Fine w { w with key := { w.key with sealed := s } } := by
  have hk := wordOk_is h1 h2
  have hn := keyOk_n hk
  have hk' : keyOk { w.key with sealed := s } = true := keyOk_mk (k := ⟨w.key.base, w.key.top, w.key.perms, s⟩) (keyOk_exact (k := w.key) hk) (by dsimp only; omega) hs
  refine ⟨?_, fun _ => ⟨h2, coversK_iff.2 ⟨hk, hk', Int.le_refl _, Int.le_refl _, andI_self (by omega) (by omega)⟩⟩⟩
  have hw := wordOk_n h1
  simp only [wordOk, h2, if_true, Bool.and_eq_true, inR_t]
  exact ⟨hw, hk'⟩
theorem sealBy_fine (w y : Word) : Fine w (sealBy w y) := by
  unfold sealBy
  split
  · rename_i h
    simp only [Bool.and_eq_true] at h
    obtain ⟨h1, h2, h3⟩ := openW_iff.1 h.1
    exact seal_fine h1 h2 (by have := sealsB_n h.2; omega)
  · exact fine_bare w _
theorem openBy_fine (w y : Word) : Fine w (openBy w y) := by
  unfold openBy
  split
  · rename_i h
    simp only [Bool.and_eq_true] at h
    exact seal_fine h.1.1.1 h.1.1.2 (by decide)
  · exact fine_bare w _
theorem takenW_fine {y w : Word} (h : wordOk w = true) : Fine w (takenW y w) := by
  unfold takenW
  split
  · exact fine_bare w _
  · exact fine_self h
theorem filterW_fine {g : List Bool} {w : Word} (h : wordOk w = true) : Fine w (filterW g w) := by
  unfold filterW
  split
  · exact fine_bare w _
  · exact fine_self h
theorem zW_ok : wordOk zW = true := by decide
theorem tryW_0 {w : Word} {n p : Int} (h : tryW w n p = 0) : wordOk w = true ∧ w.is = true ∧ w.key.sealed = 0 ∧ andI w.key.perms p = p ∧ w.key.base ≤ n ∧ n < w.key.top := by
  unfold tryW at h
  split at h
  · cases h
  · rename_i h1
    split at h
    · cases h
    · rename_i h2
      split at h
      · cases h
      · rename_i h3
        split at h
        · cases h
        · rename_i h4
          exact ⟨by cases e : wordOk w with | true => rfl | false => exact absurd (.inr e) h1, by cases e : w.is with | true => rfl | false => exact absurd (.inl e) h1, by omega, by omega, by omega, by omega⟩
theorem tryW_in (w : Word) (n p : Int) : 0 ≤ tryW w n p ∧ tryW w n p ≤ 4 := by
  unfold tryW
  repeat' split
  all_goals omega
theorem getD_ok {ws : List Word} (h : ∀ w ∈ ws, wordOk w = true) (i : Nat) : wordOk (ws.getD i (FT.zero .word)) = true := by
  rw [List.getD_eq_getElem?_getD]
  cases e : ws[i]? with
  | none => exact zW_ok
  | some w => exact h w (List.mem_of_getElem? e)
theorem getD_und {C ws : List Word} (h : ∀ w ∈ ws, Und C w) (i : Nat) : Und C (ws.getD i (FT.zero .word)) := by
  rw [List.getD_eq_getElem?_getD]
  cases e : ws[i]? with
  | none => exact und_zero C
  | some w => exact h w (List.mem_of_getElem? e)

/-! states that are right stay so -/
theorem memoryOk_iff {m : Mem} : memoryOk m = true ↔ m.words.length = 24 ∧ m.gone.length = 24 ∧ ∀ w ∈ m.words, wordOk w = true := by
  simp only [memoryOk, Bool.and_eq_true, decide_eq_true_eq, List.all_eq_true, and_assoc]
theorem stateOk_iff {s : State} : stateOk s = true ↔ s.regs.length = 8 ∧ (∀ w ∈ s.regs, wordOk w = true) ∧ wordOk s.pc = true ∧ memoryOk s.mem = true ∧ 0 ≤ s.trap ∧ s.trap ≤ 5 := by
  simp only [stateOk, Bool.and_eq_true, decide_eq_true_eq, List.all_eq_true, inR_t, and_assoc]
theorem fine_zero (w : Word) : Fine w zW := ⟨zW_ok, fun h => by cases h⟩
def Made (pc a b got v : Word) : Prop := Fine pc v ∨ Fine a v ∨ Fine b v ∨ Fine got v
theorem Made.ok {pc a b got v : Word} (h : Made pc a b got v) : wordOk v = true := by rcases h with h | h | h | h <;> exact h.1
theorem Made.und {C : List Word} {pc a b got v : Word} (h : Made pc a b got v) (h1 : Und C pc) (h2 : Und C a) (h3 : Und C b) (h4 : Und C got) : Und C v := by
  rcases h with h | h | h | h
  · exact h.und h1
  · exact h.und h2
  · exact h.und h3
  · exact h.und h4
theorem madeW_made {x : Inst} {pc a b got : Word} (ha : wordOk a = true) (hg : wordOk got = true) : Made pc a b got (madeW x a b got) := by
  unfold madeW
  repeat' split
  · exact .inr (.inl (fine_bare _ _))
  · exact .inr (.inl (fine_bare _ _))
  · exact .inr (.inl (fine_self ha))
  · exact .inr (.inl (weakenW_fine _ _))
  · exact .inr (.inl (narrowW_fine _ _))
  · exact .inr (.inl (pointW_fine _ _))
  · exact .inr (.inl (sealBy_fine _ _))
  · exact .inr (.inl (openBy_fine _ _))
  · exact .inr (.inl (fine_bare _ _))
  · exact .inr (.inl (fine_bare _ _))
  · exact .inr (.inr (.inr (fine_self hg)))
theorem nextW_made {pc a b got : Word} : Made pc a b got (nextW pc) := .inl (pointW_fine _ _)
theorem made_zero {pc a b got : Word} : Made pc a b got zW := .inl (fine_zero _)
structure WorkSpec (x : Inst) (pc a b got : Word) (e : Eff) : Prop where
  val : Made pc a b got e.val
  next : Made pc a b got e.next
  put : Made pc a b got e.put
  addr : e.addr ≠ -1 → x.op = 11 ∧ e.addr = IntKind.i64.wrap (a.n + x.n) ∧ e.put = b
  drop : e.drop ≠ -1 → tryW a a.n 32 = 0 ∧ e.drop = a.key.base
theorem workE_spec {x : Inst} {pc a b got : Word} (ha : wordOk a = true) (hb : wordOk b = true) (hg : wordOk got = true) :
    (0 ≤ (workE x pc a b got).trap ∧ (workE x pc a b got).trap ≤ 5) ∧ ((workE x pc a b got).trap = 0 → WorkSpec x pc a b got (workE x pc a b got)) := by
  unfold workE
  split
  · rename_i h
    exact ⟨(show (0 : Int) ≤ 0 ∧ (0 : Int) ≤ 5 by decide), fun _ => ⟨made_zero, nextW_made, .inr (.inr (.inl (fine_self hb))), fun _ => ⟨h, rfl, rfl⟩, fun h => absurd rfl h⟩⟩
  split
  · split
    · have := tryW_in a a.n 4
      rename_i h2
      exact ⟨by show 0 ≤ tryW a a.n 4 ∧ tryW a a.n 4 ≤ 5; omega, fun h => absurd h h2⟩
    · exact ⟨(show (0 : Int) ≤ 0 ∧ (0 : Int) ≤ 5 by decide), fun _ => ⟨nextW_made, .inr (.inl (fine_self ha)), made_zero, fun h => absurd rfl h, fun h => absurd rfl h⟩⟩
  split
  · refine ⟨(show (0 : Int) ≤ 0 ∧ (0 : Int) ≤ 5 by decide), fun _ => ⟨made_zero, ?_, made_zero, fun h => absurd rfl h, fun h => absurd rfl h⟩⟩
    dsimp only
    split
    · exact .inl (pointW_fine _ _)
    · exact nextW_made
  split
  · split
    · have := tryW_in a a.n 32
      rename_i h2
      exact ⟨by show 0 ≤ tryW a a.n 32 ∧ tryW a a.n 32 ≤ 5; omega, fun h => absurd h h2⟩
    · rename_i h2
      exact ⟨(show (0 : Int) ≤ 0 ∧ (0 : Int) ≤ 5 by decide), fun _ => ⟨made_zero, nextW_made, made_zero, fun h => absurd rfl h, fun _ => ⟨by simpa using h2, rfl⟩⟩⟩
  split
  · exact ⟨(show (0 : Int) ≤ 5 ∧ (5 : Int) ≤ 5 by decide), fun h => by cases h⟩
  split
  · refine ⟨(show (0 : Int) ≤ 0 ∧ (0 : Int) ≤ 5 by decide), fun _ => ⟨?_, nextW_made, made_zero, fun h => absurd rfl h, fun h => absurd rfl h⟩⟩
    dsimp only
    split
    · exact madeW_made ha hg
    · exact made_zero
  · exact ⟨(show (0 : Int) ≤ 0 ∧ (0 : Int) ≤ 5 by decide), fun _ => ⟨made_zero, nextW_made, made_zero, fun h => absurd rfl h, fun h => absurd rfl h⟩⟩
theorem readC_00 {m : Mem} {y : Word} {n : Int} (h : readC m y n = 0) : tryW y n 1 = 0 ∧ 0 ≤ n ∧ n ≤ m.words.length - 1 := by
  unfold readC at h
  split at h
  · rename_i h1; exact absurd h h1
  · rename_i h1
    split at h
    · rename_i h2; exact ⟨by omega, by have := inR_t.1 h2; omega⟩
    · cases h
theorem writeC_00 {m : Mem} {y w : Word} {n : Int} (h : writeC m y n w = 0) : tryW y n 2 = 0 ∧ 0 ≤ n ∧ n ≤ m.words.length - 1 := by
  unfold writeC at h
  split at h
  · rename_i h1; exact absurd h h1
  · rename_i h1
    split at h
    · cases h
    · rename_i h2
      have h2 : inR n 0 (m.words.length - 1) = true := by simpa using h2
      exact ⟨by omega, by have := inR_t.1 h2; omega⟩
theorem readM_00 {m : Mem} {y : Word} {n : Int} (h : (readM m y n).2 = 0) : tryW y n 1 = 0 ∧ 0 ≤ n ∧ n ≤ m.words.length - 1 ∧ (readM m y n).1 = filterW m.gone (takenW y (m.words.getD n.toNat (FT.zero .word))) := by
  unfold readM at h ⊢
  split at h
  · rename_i h1; exact absurd h h1
  · rename_i h1
    rw [if_neg h1]
    have := readC_00 (m := m) (y := y) (n := n) (by omega)
    exact ⟨this.1, this.2.1, this.2.2, rfl⟩
theorem readM_ok {m : Mem} (hm : ∀ w ∈ m.words, wordOk w = true) (y : Word) (n : Int) : wordOk (readM m y n).1 = true := by
  unfold readM
  split
  · exact zW_ok
  · exact (filterW_fine (takenW_fine (getD_ok hm _)).1).1
theorem memE_ok {m : Mem} (hm : ∀ w ∈ m.words, wordOk w = true) (x : Inst) (a b : Word) : wordOk (memE m x a b).1 = true := by
  unfold memE
  repeat' split
  · exact readM_ok hm _ _
  · exact zW_ok
  · exact zW_ok
structure EffSpec (l : List Inst) (s : State) (x : Inst) (a b got : Word) : Prop where
  fetch : fetchI l s.pc = (x, 0)
  hx : insOk x = true
  ha : a = s.regs.getD x.a.toNat (FT.zero .word)
  hb : b = s.regs.getD x.b.toNat (FT.zero .word)
  mem : memE s.mem x a b = (got, 0)
  eff : effE l s = workE x s.pc a b got
theorem effE_parts {l : List Inst} {s : State} (h : (effE l s).trap = 0) : ∃ x a b got, EffSpec l s x a b got := by
  by_cases h1 : (fetchI l s.pc).2 = 0
  · by_cases h2 : (memE s.mem (fetchI l s.pc).1 (s.regs.getD (fetchI l s.pc).1.a.toNat (FT.zero .word)) (s.regs.getD (fetchI l s.pc).1.b.toNat (FT.zero .word))).2 = 0
    · refine ⟨(fetchI l s.pc).1, _, _, (memE s.mem (fetchI l s.pc).1 (s.regs.getD (fetchI l s.pc).1.a.toNat (FT.zero .word)) (s.regs.getD (fetchI l s.pc).1.b.toNat (FT.zero .word))).1, ?_, fetchI_ok h1, rfl, rfl, ?_, ?_⟩
      · rw [← h1]
      · rw [← h2]
      · unfold effE; simp only; rw [if_neg (by simpa using h1), if_neg (by simpa using h2)]
    · unfold effE at h; simp only at h; rw [if_neg (by simpa using h1), if_pos h2] at h; exact absurd h h2
  · unfold effE at h; simp only at h; rw [if_pos h1] at h; exact absurd h h1
theorem EffSpec.work {l : List Inst} {s : State} {x : Inst} {a b got : Word} (h : EffSpec l s x a b got) (hs : stateOk s = true) (h0 : (effE l s).trap = 0) : WorkSpec x s.pc a b got (effE l s) := by
  obtain ⟨h1, h2, h3, h4, h5, h6⟩ := stateOk_iff.1 hs
  obtain ⟨m1, m2, m3⟩ := memoryOk_iff.1 h4
  have hg := memE_ok m3 x a b
  rw [h.mem] at hg
  rw [h.eff] at h0 ⊢
  exact (workE_spec (by rw [h.ha]; exact getD_ok h2 _) (by rw [h.hb]; exact getD_ok h2 _) hg).2 h0
theorem EffSpec.store {l : List Inst} {s : State} {x : Inst} {a b got : Word} (h : EffSpec l s x a b got) (hs : stateOk s = true) (h0 : (effE l s).trap = 0) (ha : (effE l s).addr ≠ -1) :
    tryW a (effE l s).addr 2 = 0 ∧ 0 ≤ (effE l s).addr ∧ (effE l s).addr ≤ 23 ∧ (effE l s).put = b := by
  obtain ⟨w1, w2, w3⟩ := (h.work hs h0).addr ha
  have hm := h.mem
  rw [memE_11 (by omega) w1] at hm
  have := writeC_00 (congrArg Prod.snd hm)
  obtain ⟨h1, h2, h3, h4, h5, h6⟩ := stateOk_iff.1 hs
  obtain ⟨m1, m2, m3⟩ := memoryOk_iff.1 h4
  rw [← w2] at this
  exact ⟨this.1, this.2.1, by omega, w3⟩
theorem EffSpec.load {l : List Inst} {s : State} {x : Inst} {a b got : Word} (h : EffSpec l s x a b got) : got = zW ∨ ∃ n : Int, tryW a n 1 = 0 ∧ 0 ≤ n ∧ n ≤ s.mem.words.length - 1 ∧ got = filterW s.mem.gone (takenW a (s.mem.words.getD n.toNat (FT.zero .word))) := by
  have hm := h.mem
  by_cases h1 : x.op = 10
  · rw [memE_10 h1] at hm
    obtain ⟨r1, r2, r3, r4⟩ := readM_00 (congrArg Prod.snd hm)
    right
    refine ⟨_, r1, r2, r3, ?_⟩
    rw [← r4, hm]
  · left
    by_cases h2 : x.op = 11
    · rw [memE_11 h1 h2] at hm; exact (congrArg Prod.fst hm).symm
    · rw [memE_x h1 h2] at hm; exact (congrArg Prod.fst hm).symm
theorem mem_set {α : Type} {xs : List α} {i : Nat} {v x : α} (h : x ∈ xs.set i v) : x ∈ xs ∨ x = v := List.mem_or_eq_of_mem_set h
theorem stepS_cases {l : List Inst} {s : State} (hs : stateOk s = true) :
    (s.trap ≠ 0 ∧ stepS l s = s) ∨ (s.trap = 0 ∧ (effE l s).trap ≠ 0 ∧ stepS l s = ⟨s.regs, s.pc, s.mem, (effE l s).trap⟩) ∨ (s.trap = 0 ∧ (effE l s).trap = 0 ∧ stepS l s = putE s (effE l s)) := by
  by_cases h : s.trap = 0
  · by_cases h2 : (effE l s).trap = 0
    · exact .inr (.inr ⟨h, h2, stepS_0 hs h h2⟩)
    · exact .inr (.inl ⟨h, h2, stepS_e hs h h2⟩)
  · exact .inl ⟨h, stepS_trap hs h⟩

/-! a closure: it has its roots, what its words open, and no more -/
theorem hasKey_iff {l : List Word} {k : Key} : hasKey l k = true ↔ ∃ x ∈ l, x.key = k := by
  simp only [hasKey, List.any_eq_true, decide_eq_true_eq]
theorem hasKey_mono {a b : List Word} {k : Key} (h : ∀ x ∈ a, x ∈ b) (hk : hasKey a k = true) : hasKey b k = true := by
  obtain ⟨x, h1, h2⟩ := hasKey_iff.1 hk
  exact hasKey_iff.2 ⟨x, h x h1, h2⟩
theorem putW_min {P : Word → Prop} {out : List Word} {w : Word} (h : ∀ x ∈ out, P x) (hw : w.is = true → wordOk w = true → P w) : ∀ x ∈ putW out w, P x := by
  intro x hx
  unfold putW at hx
  split at hx
  · rename_i hc
    simp only [Bool.and_eq_true] at hc
    rcases List.mem_append.1 hx with q | q
    · exact h x q
    · rw [List.mem_singleton.1 q]; exact hw hc.1.1 hc.1.2
  · exact h x hx
theorem foldPut_min {P : Word → Prop} : ∀ {l out : List Word}, (∀ x ∈ out, P x) → (∀ w ∈ l, w.is = true → wordOk w = true → P w) → ∀ x ∈ l.foldl putW out, P x
  | [], out, h, _ => h
  | v :: l, out, h, hl => foldPut_min (l := l) (putW_min h (hl v (by simp))) (fun w hw => hl w (by simp [hw]))
theorem scan_min {P : Word → Prop} {ws : List Word} : ∀ {n c : Nat} {out : List Word}, (∀ x ∈ out, P x) → (∀ j, c ≤ j → j < c + n → (ws.getD j (FT.zero .word)).is = true → P (ws.getD j (FT.zero .word))) → ∀ x ∈ scan ws n c out, P x
  | 0, c, out, h, _ => h
  | n + 1, c, out, h, hj => scan_min (n := n) (c := c + 1) (putW_min h fun hi _ => hj c (by omega) (by omega) hi) (fun j h1 h2 => hj j (by omega) (by omega))
def Cov (ws out : List Word) (k : Key) : Prop := opens k = true → ∀ j : Nat, k.base.toNat ≤ j → j < k.base.toNat + (min k.top 24 - k.base).toNat → (ws.getD j (FT.zero .word)).is = true → hasKey out (ws.getD j (FT.zero .word)).key = true
theorem Cov.mono {ws a b : List Word} {k : Key} (h : Cov ws a k) (hs : ∀ x ∈ a, x ∈ b) : Cov ws b k := fun ho j h1 h2 h3 => hasKey_mono hs (h ho j h1 h2 h3)
theorem closGo_min {P : Word → Prop} {ws : List Word} (hk : ∀ k : Word, P k → opens k.key = true → ∀ j : Nat, k.key.base.toNat ≤ j → j < k.key.base.toNat + (min k.key.top 24 - k.key.base).toNat → (ws.getD j (FT.zero .word)).is = true → P (ws.getD j (FT.zero .word))) :
    ∀ {n i : Nat} {out : List Word}, (∀ x ∈ out, P x) → ∀ x ∈ closGo ws n i out, P x
  | 0, _, _, h => h
  | n + 1, i, out, h => by
    unfold closGo; split
    · rename_i hi
      refine closGo_min hk (n := n) ?_
      unfold closStep; split
      · rename_i ho
        exact scan_min h (fun j h1 h2 h3 => hk _ (h _ (getD_mem hi)) ho j h1 h2 h3)
      · exact h
    · exact h
theorem closure_min {P : Word → Prop} {m : Mem} {l : List Word} (hl : ∀ w ∈ l, w.is = true → wordOk w = true → P w)
    (hk : ∀ k : Word, P k → opens k.key = true → ∀ j : Nat, k.key.base.toNat ≤ j → j < k.key.base.toNat + (min k.key.top 24 - k.key.base).toNat → (m.words.getD j (FT.zero .word)).is = true → P (m.words.getD j (FT.zero .word))) : ∀ x ∈ closure m l, P x := by
  unfold closure; split
  · exact closGo_min hk (foldPut_min (fun x hx => by cases hx) hl)
  · intro x hx; cases hx
/-! ### what is under a closed set -/
def Reach (C : List Word) (m : Mem) : Prop := ∀ c ∈ C, c.is = true → opens c.key = true → ∀ j : Nat, c.key.base ≤ j → (j : Int) < c.key.top → j < 24 → Und C (m.words.getD j (FT.zero .word))
theorem opens_iff {k : Key} : opens k = true ↔ ¬ andI k.perms 1 = 0 ∧ ¬ andI k.perms 8 = 0 := by simp [opens]
theorem opens_up {a b : Key} (h : coversK a b = true) (ho : opens b = true) : opens a = true := by
  obtain ⟨h1, h2, h3, h4, h5⟩ := coversK_iff.1 h
  obtain ⟨o1, o2⟩ := opens_iff.1 ho
  exact opens_iff.2 ⟨andI_bit h5 o1, andI_bit h5 o2⟩
theorem closure_under {C : List Word} {m : Mem} {l : List Word} (hl : ∀ w ∈ l, Und C w) (hr : Reach C m) : ∀ x ∈ closure m l, Und C x := by
  intro x hx
  have hm : memoryOk m = true := by
    unfold closure at hx; split at hx
    · assumption
    · cases hx
  obtain ⟨m1, m2, m3⟩ := memoryOk_iff.1 hm
  refine (closure_min (P := fun x => (x.is = true ∧ wordOk x = true) ∧ Und C x) (fun w hw h1 h2 => ⟨⟨h1, h2⟩, hl w hw⟩) (fun k hk ho j h1 h2 h3 => ?_) x hx).2
  obtain ⟨⟨hki, hko⟩, hku⟩ := hk
  have hn := keyOk_n (wordOk_is hko hki)
  refine ⟨⟨h3, getD_ok m3 j⟩, ?_⟩
  obtain ⟨c, c1, c2, c3⟩ := hku hki
  obtain ⟨q1, q2, q3, q4, q5⟩ := coversK_iff.1 c3
  exact hr c c1 c2 (opens_up c3 ho) j (by omega) (by omega) (by omega)
theorem hasP_iff {w : Word} {p : Int} : hasP w p = true ↔ w.is = true ∧ ¬ andI w.key.perms p = 0 := by simp [hasP]
theorem mem_filt {f : Nat → Bool} {n : Nat} {c : Int} : c ∈ filt f n ↔ ∃ j : Nat, j < n ∧ f j = true ∧ c = j := by
  simp only [filt, List.mem_map, List.mem_filter, List.mem_range]
  constructor
  · rintro ⟨j, ⟨h1, h2⟩, rfl⟩; exact ⟨j, h1, h2, rfl⟩
  · rintro ⟨j, h1, h2, rfl⟩; exact ⟨j, ⟨h1, h2⟩, rfl⟩
theorem coverP_iff {ws : List Word} {p : Int} {c : Nat} : coverP ws p c = true ↔ ∃ w ∈ ws, hasP w p = true ∧ w.key.base ≤ c ∧ (c : Int) ≤ w.key.top - 1 := by
  simp only [coverP, List.any_eq_true, Bool.and_eq_true, inR_t]
theorem cover_up {C : List Word} {w : Word} {p : Int} {c : Nat} (h : Und C w) (hp : hasP w p = true) (h1 : w.key.base ≤ c) (h2 : (c : Int) ≤ w.key.top - 1) : coverP C p c = true := by
  obtain ⟨p1, p2⟩ := hasP_iff.1 hp
  obtain ⟨d, d1, d2, d3⟩ := h p1
  obtain ⟨q1, q2, q3, q4, q5⟩ := coversK_iff.1 d3
  exact coverP_iff.2 ⟨d, d1, hasP_iff.2 ⟨d2, andI_bit q5 p2⟩, by omega, by omega⟩
theorem mem_cellsBy {m : Mem} {l : List Word} {p c : Int} : c ∈ cellsBy m l p ↔ ∃ j : Nat, j < 24 ∧ coverP (closure m l) p j = true ∧ c = j := mem_filt
structure Inv (C : List Word) (s : State) : Prop where
  ok : stateOk s = true
  regs : ∀ w ∈ s.regs, Und C w
  pc : Und C s.pc
  mem : Reach C s.mem
def hold (s : State) : List Word := s.regs ++ [s.pc]
theorem Inv.under {C : List Word} {s : State} (h : Inv C s) : ∀ x ∈ closure s.mem (hold s), Und C x := closure_under (fun w hw => by
  rcases List.mem_append.1 hw with q | q
  · exact h.regs w q
  · rw [List.mem_singleton.1 q]; exact h.pc) h.mem
theorem Inv.got {C : List Word} {l : List Inst} {s : State} (h : Inv C s) {x : Inst} {a b got : Word} (he : EffSpec l s x a b got) : Und C a ∧ Und C b ∧ Und C got := by
  obtain ⟨r1, r2, r3, r4, r5, r6⟩ := stateOk_iff.1 h.ok
  obtain ⟨m1, m2, m3⟩ := memoryOk_iff.1 r4
  have ha : Und C a := by rw [he.ha]; exact getD_und h.regs _
  have hb : Und C b := by rw [he.hb]; exact getD_und h.regs _
  refine ⟨ha, hb, ?_⟩
  rcases he.load with rfl | ⟨n, h1, h2, h3, rfl⟩
  · exact und_zero C
  · obtain ⟨t1, t2, t3, t4, t5, t6⟩ := tryW_0 h1
    obtain ⟨j, rfl⟩ := Int.eq_ofNat_of_zero_le h2
    have hj : j < 24 := by omega
    rw [Int.toNat_natCast]
    by_cases h8 : andI a.key.perms 8 = 0
    · rw [show takenW a (s.mem.words.getD j (FT.zero .word)) = plainW (s.mem.words.getD j (FT.zero .word)).n from if_pos h8]
      exact (filterW_fine (plainW_ok _)).und (und_bare C _)
    · obtain ⟨c, c1, c2, c3⟩ := ha t2
      obtain ⟨q1, q2, q3, q4, q5⟩ := coversK_iff.1 c3
      have hu := h.mem c c1 c2 (opens_up c3 (opens_iff.2 ⟨by rw [t4]; decide, h8⟩)) j (by omega) (by omega) hj
      exact (filterW_fine (takenW_fine (getD_ok m3 j)).1).und ((takenW_fine (getD_ok m3 j)).und hu)
theorem getD_set2 {α : Type} (xs : List α) (i j : Nat) (v d : α) : (xs.set i v).getD j d = if i = j ∧ j < xs.length then v else xs.getD j d := by
  simp only [List.getD_eq_getElem?_getD, List.getElem?_set]
  split
  · rename_i h; subst h
    split
    · rename_i h; simp [h]
    · rename_i h; simp [h]
  · rename_i h; simp [h]
theorem Inv.cell {C : List Word} {l : List Inst} {s : State} (h : Inv C s) {c : Nat} (hc : (stepS l s).mem.words.getD c (FT.zero .word) ≠ s.mem.words.getD c (FT.zero .word)) : c < 24 ∧ coverP C 2 c = true := by
  have hs := h.ok
  rcases stepS_cases (l := l) hs with ⟨h1, h2⟩ | ⟨h1, h2, h3⟩ | ⟨h1, h2, h3⟩
  · rw [h2] at hc; exact absurd rfl hc
  · rw [h3] at hc; exact absurd rfl hc
  · rw [h3] at hc
    obtain ⟨x, a, b, got, he⟩ := effE_parts h2
    obtain ⟨u1, u2, u3⟩ := h.got he
    unfold putE at hc; dsimp only at hc
    split at hc
    · rename_i hr
      have hr := inR_t.1 hr
      rw [getD_set2] at hc
      split at hc
      · rename_i hq
        obtain ⟨s1, s2, s3, s4⟩ := he.store hs h2 (by omega)
        obtain ⟨t1, t2, t3, t4, t5, t6⟩ := tryW_0 s1
        exact ⟨by omega, cover_up u1 (hasP_iff.2 ⟨t2, by rw [t4]; decide⟩) (by omega) (by omega)⟩
      · exact absurd rfl hc
    · exact absurd rfl hc
theorem Inv.gone {C : List Word} {l : List Inst} {s : State} (h : Inv C s) (hC : ∀ c ∈ C, hasP c 32 = false) : (stepS l s).mem.gone = s.mem.gone := by
  have hs := h.ok
  rcases stepS_cases (l := l) hs with ⟨h1, h2⟩ | ⟨h1, h2, h3⟩ | ⟨h1, h2, h3⟩
  · rw [h2]
  · rw [h3]
  · rw [h3]
    obtain ⟨x, a, b, got, he⟩ := effE_parts h2
    obtain ⟨u1, u2, u3⟩ := h.got he
    unfold putE; dsimp only
    split
    · rename_i hr
      have hr := inR_t.1 hr
      obtain ⟨d1, d2⟩ := (he.work hs h2).drop (by omega)
      obtain ⟨t1, t2, t3, t4, t5, t6⟩ := tryW_0 d1
      obtain ⟨d, e1, e2, e3⟩ := u1 t2
      obtain ⟨q1, q2, q3, q4, q5⟩ := coversK_iff.1 e3
      have := hC d e1
      rw [hasP_iff.2 ⟨e2, andI_bit q5 (by rw [t4]; decide)⟩] at this
      cases this
    · rfl

def keyWord (k : Key) (n : Int) : Word := if keyOk k then ⟨andI n 65535, true, k⟩ else plainW n
def pf_impl_KeyWord : PF := ⟨[.c 4 true 6], .seq (.reg [.s (.box 2 (.t 0)), .s (.alloc 4 [.int .i64 0, .ff, .int .i64 0, .int .i64 0, .int .i64 0, .int .i64 0])]) (.seq (.reg [.s (.mv 6 (.t 1)), .s (.call (some 7) 60 [(.t 6)]), .s (.alloc 5 [.int .i64 0, .ff, .int .i64 0, .int .i64 0, .int .i64 0, .int .i64 0]), .s (.store 6 (.t 5) (.t 7))]) (.seq (.seq (.reg [.s (.load 8 true 4 (.t 2)), .s (.call (some 9) 99 [(.t 8)])]) (.cond (.t 9) (.rgd [] [.s (.load 10 true 4 (.t 2)), .s (.fa 11 (.t 5) 1), .s (.store 1 (.t 11) (.k (.v (.c .tt)))), .s (.fa 12 (.t 5) 2), .s (.store 4 (.t 12) (.t 10))] (.tk 1 (.alt 0 false (.one 2 true (.tk 3 (.one 4 true (.done (some [4, 5]))))) (.alt 2 true (.one 0 true (.tk 3 (.one 4 true (.done (some [4, 5]))))) (.nil))))) (.skip))) (.seq (.reg [.s (.load 13 true 6 (.t 5)), .s (.store 6 (.t 4) (.t 13))]) (.ret))))⟩
def c_impl_KeyWord : Fun := ⟨124, [], fun ts K => as2 ts fun t0 t1 => arG pKeyT t0 fun k => arC (pI .i64) t1 fun n => K (tG ((keyWord k n).tc [])) []⟩
theorem run_impl_KeyWord (k : Key) (n : Int) : runK [c_impl_Plain, c_impl_KeyOk] (0) [] pf_impl_KeyWord [tG (k.tc []), tI .i64 n] fun r o => r = tG ((keyWord k n).tc []) ∧ o = [] := by
  conv => whnf
  repeat' (first | (refine sel_i (fun h => ?_) (fun h => ?_) <;> conv => whnf) | (refine chk_c ?_ ?_ <;> conv => whnf) | (refine And.intro ?_ rfl) | (refine And.intro ?_ ?_ <;> conv => whnf))
  all_goals (try simp only [etaKey, etaWord] at *)
  all_goals first
    | (unfold keyWord; rw [if_pos h]; rfl)
    | (unfold keyWord; rw [if_neg (by rw [h]; decide)]; rfl)
    | trace_state
theorem ok_impl_KeyWord : FunOk Try.prog c_impl_KeyWord := funOk (E := [c_impl_Plain, c_impl_KeyOk]) (envOk_cons ok_impl_Plain (envOk_cons ok_impl_KeyOk (envOk_nil))) mixd Try.func124 (pf := pf_impl_KeyWord) (by kernel_rfl) fun ts K h => by
  obtain ⟨t0, t1, e0, h⟩ := as2_out h
  subst e0
  obtain ⟨k, e1, hq⟩ := arG_out rd_key h
  clear h
  subst e1
  have h := hq
  clear hq
  obtain ⟨n, e1, hq⟩ := arC_out (rd_int .i64) h
  clear h
  subst e1
  have h := hq
  clear hq
  exact ⟨_, _, h, Nat.le_of_ble_eq_true (show Nat.ble 2 Try.f124.ntmps = true by kernel_rfl), _, run_impl_KeyWord k n⟩

def pf_spec_KeyWord : PF := ⟨[.c 4 true 6], .seq (.reg [.s (.box 2 (.t 0)), .s (.alloc 4 [.int .i64 0, .ff, .int .i64 0, .int .i64 0, .int .i64 0, .int .i64 0])]) (.seq (.reg [.s (.mv 6 (.t 1)), .s (.call (some 7) 164 [(.t 6)]), .s (.alloc 5 [.int .i64 0, .ff, .int .i64 0, .int .i64 0, .int .i64 0, .int .i64 0]), .s (.store 6 (.t 5) (.t 7))]) (.seq (.seq (.reg [.s (.load 8 true 4 (.t 2)), .s (.call (some 9) 160 [(.t 8)])]) (.cond (.t 9) (.seq (.reg [.s (.fa 10 (.t 5) 1), .s (.store 1 (.t 10) (.k (.v (.c .tt))))]) (.reg [.s (.load 11 true 4 (.t 2)), .s (.fa 12 (.t 5) 2), .s (.store 4 (.t 12) (.t 11))])) (.skip))) (.seq (.reg [.s (.load 13 true 6 (.t 5)), .s (.store 6 (.t 4) (.t 13))]) (.ret))))⟩
def c_spec_KeyWord : Fun := ⟨150, [], fun ts K => as2 ts fun t0 t1 => arG pKeyT t0 fun k => arC (pI .i64) t1 fun n => K (tG ((keyWord k n).tc [])) []⟩
theorem run_spec_KeyWord (k : Key) (n : Int) : runK [c_spec_KeyOk, c_spec_Plain] (0) [] pf_spec_KeyWord [tG (k.tc []), tI .i64 n] fun r o => r = tG ((keyWord k n).tc []) ∧ o = [] := by
  conv => whnf
  repeat' (first | (refine sel_i (fun h => ?_) (fun h => ?_) <;> conv => whnf) | (refine chk_c ?_ ?_ <;> conv => whnf) | (refine And.intro ?_ rfl) | (refine And.intro ?_ ?_ <;> conv => whnf))
  all_goals (try simp only [etaKey, etaWord] at *)
  all_goals first
    | (unfold keyWord; rw [if_pos h]; rfl)
    | (unfold keyWord; rw [if_neg (by rw [h]; decide)]; rfl)
    | trace_state
theorem ok_spec_KeyWord : FunOk Try.prog c_spec_KeyWord := funOk (E := [c_spec_KeyOk, c_spec_Plain]) (envOk_cons ok_spec_KeyOk (envOk_cons ok_spec_Plain (envOk_nil))) mixd Try.func150 (pf := pf_spec_KeyWord) (by kernel_rfl) fun ts K h => by
  obtain ⟨t0, t1, e0, h⟩ := as2_out h
  subst e0
  obtain ⟨k, e1, hq⟩ := arG_out rd_key h
  clear h
  subst e1
  have h := hq
  clear hq
  obtain ⟨n, e1, hq⟩ := arC_out (rd_int .i64) h
  clear h
  subst e1
  have h := hq
  clear hq
  exact ⟨_, _, h, Nat.le_of_ble_eq_true (show Nat.ble 2 Try.f150.ntmps = true by kernel_rfl), _, run_spec_KeyWord k n⟩


/-! what is kept is read as it was -/

/-! two that are apart -/
theorem twoOk_iff {t : Two} : twoOk t = true ↔ stateOk (sideState t 0) = true ∧ stateOk (sideState t 1) = true := by simp [twoOk]
theorem meetI_f {a b : List Int} : meetI a b = false ↔ ∀ c ∈ a, c ∉ b := by
  simp only [meetI, List.any_eq_false]
  constructor
  · intro h c hc hb
    exact h c hc (List.any_eq_true.2 ⟨c, hb, beq_iff_eq.2 rfl⟩)
  · intro h c hc hb
    obtain ⟨x, hx, e⟩ := List.any_eq_true.1 hb
    rw [beq_iff_eq.1 e] at hc
    exact h x hc hx
def Ap (C D : List Word) : Prop := ∀ j : Nat, j < 24 → coverP C 2 j = true → coverP D 1 j = false ∧ coverP D 2 j = false
def NoSeal (C : List Word) : Prop := ∀ c ∈ C, hasP c 32 = false
structure Both (A B : List Word) (t : Two) : Prop where
  a : Inv A (sideState t 0)
  b : Inv B (sideState t 1)
  ab : Ap A B
  ba : Ap B A
  na : NoSeal A
  nb : NoSeal B
theorem Both.ok {A B : List Word} {t : Two} (h : Both A B t) : twoOk t = true := twoOk_iff.2 ⟨h.a.ok, h.b.ok⟩
theorem Both.apart {A B : List Word} {t : Two} (h : Both A B t) (ha : ∀ x ∈ closure t.mem (heldW t.a), Und A x) (hb : ∀ x ∈ closure t.mem (heldW t.b), Und B x) : apartB t = true := by
  have hs : ∀ {C : List Word} {l : List Word}, (∀ x ∈ closure t.mem l, Und C x) → NoSeal C → canSeal t.mem l = false := fun {C l} hu hn => by
    cases e : canSeal t.mem l with
    | false => rfl
    | true =>
      simp only [canSeal, List.any_eq_true] at e
      obtain ⟨w, h1, h2⟩ := e
      obtain ⟨p1, p2⟩ := hasP_iff.1 h2
      obtain ⟨d, d1, d2, d3⟩ := hu w h1 p1
      obtain ⟨q1, q2, q3, q4, q5⟩ := coversK_iff.1 d3
      have := hn d d1
      rw [hasP_iff.2 ⟨d2, andI_bit q5 p2⟩] at this
      cases this
  have hcov : ∀ {C : List Word} {l : List Word} {p : Int} {j : Nat}, (∀ x ∈ closure t.mem l, Und C x) → coverP (closure t.mem l) p j = true → coverP C p j = true := fun {C l p j} hu hc => by
    obtain ⟨w, w1, w2, w3, w4⟩ := coverP_iff.1 hc
    exact cover_up (hu w w1) w2 w3 w4
  have hx : ∀ {C D : List Word} {l k : List Word}, (∀ x ∈ closure t.mem l, Und C x) → (∀ x ∈ closure t.mem k, Und D x) → Ap C D → crossesB t.mem l k = false := fun {C D l k} hu hv hap => by
    refine meetI_f.2 fun c hc hc2 => ?_
    obtain ⟨j, h1, h2, rfl⟩ := mem_cellsBy.1 hc
    have := hap j h1 (hcov hu h2)
    rcases List.mem_append.1 hc2 with q | q
    · obtain ⟨i, i1, i2, i3⟩ := mem_cellsBy.1 q
      have : i = j := by omega
      subst this
      have := hcov hv i2
      simp_all
    · obtain ⟨i, i1, i2, i3⟩ := mem_cellsBy.1 q
      have : i = j := by omega
      subst this
      have := hcov hv i2
      simp_all
  simp only [apartB, Bool.and_eq_true, Bool.not_eq_true']
  exact ⟨⟨⟨h.ok, hs ha h.na⟩, hs hb h.nb⟩, hx ha hb h.ab, hx hb ha h.ba⟩

structure Cur where
  b : List Int
  i : Int
  h : Int
def Cur.tc (c : Cur) (r : List TC) : List TC := tl false (.int .u8) c.b :: .int .i64 c.i :: .int .i64 c.h :: r



theorem U8s.app {a b : List Int} (ha : U8s a) (hb : U8s b) : U8s (a ++ b) := fun x hx => by
  rcases List.mem_append.1 hx with q | q
  · exact ha x q
  · exact hb x q
theorem U8s.put {a : List Int} (ha : U8s a) {i : Nat} {v : Int} (hv : 0 ≤ v ∧ v ≤ 255) : U8s (a.set i v) := fun x hx => by
  rcases mem_set hx with q | q
  · exact ha x q
  · rw [q]; exact hv















/-! what the small programs do -/





def arZ (τ : FT) (t : Tree) (k : Unit → Prop) : Prop := match t with | .v (.c (.nl σ)) => (match ftEq σ τ with | true => k () | false => False) | _ => False
theorem arZ_out {τ : FT} {t : Tree} {k : Unit → Prop} (h : arZ τ t k) : ∃ x : Unit, t = .v (.c (.nl τ)) ∧ k x := by
  unfold arZ at h
  split at h
  · split at h
    · rename_i hf; rw [ftEq_eq hf]; exact ⟨(), rfl, h⟩
    · exact h.elim
  · exact h.elim
def pR2 (cs : List TC) (f : List Span → List Span → Prop) : Prop := pL .span cs fun a r => pL .span r fun b r => match r with | [] => f a b | _ :: _ => False
def arR2 (t : Tree) (f : List Span × List Span → Prop) : Prop := match t with
  | .rows n cs => (match Nat.beq n 2 with | true => pR2 cs fun a b => f (a, b) | false => False)
  | _ => False
theorem arR2_out {t : Tree} {f : List Span × List Span → Prop} (h : arR2 t f) : ∃ x : List Span × List Span, t = .rows 2 [tl false .span x.1, tl false .span x.2] ∧ f x := by
  unfold arR2 at h
  split at h
  · split at h
    · rename_i hn
      rw [Nat.eq_of_beq_eq_true hn]
      unfold pR2 at h
      obtain ⟨a, r, e1, h1⟩ := rd_l .span _ _ h
      obtain ⟨b, r2, e2, h2⟩ := rd_l .span _ _ h1
      subst e1 e2
      cases r2 with
      | nil => exact ⟨(a, b), rfl, h2⟩
      | cons _ _ => exact h2.elim
    · exact h.elim
  · exact h.elim

def pf_slices_Grow_Span : PF := ⟨[.t 4], .seq (.reg [.s (.mv 4 (.k (.v (.c (.nils .span)))))]) (.seq (.seq (.reg [.s (.mv 5 (.t 1)), .s (.bin 6 .lss (.t 5) (.k (.v (.c (.int .i64 0)))))]) (.cond (.t 6) (.reg [.s (.no), .s (.no)]) (.skip))) (.seq (.seq (.reg [.s (.mv 8 (.t 1)), .s (.mv 9 (.t 0)), .s (.cap 10 (.t 9)), .s (.mv 11 (.t 0)), .s (.len 12 false (.t 11)), .s (.bin 13 .sub (.t 10) (.t 12)), .s (.bin 14 .sub (.t 8) (.t 13)), .s (.mv 1 (.t 14))]) (.seq (.reg [.s (.mv 15 (.t 1)), .s (.bin 16 .gtr (.t 15) (.k (.v (.c (.int .i64 0)))))]) (.cond (.t 16) (.reg [.s (.mv 17 (.t 0)), .s (.mv 18 (.t 0)), .s (.cap 19 (.t 18)), .s (.slcz 20 .span (.t 17) (.t 19)), .s (.mv 21 (.t 1)), .s (.appz 22 .span (.t 20) (.t 21)), .s (.mv 23 (.t 0)), .s (.len 24 false (.t 23)), .s (.slc 25 .span (.t 22) none (some (.t 24))), .s (.mv 0 (.t 25))]) (.skip)))) (.seq (.reg [.s (.mv 26 (.t 0)), .s (.mv 4 (.t 26))]) (.ret))))⟩
def c_slices_Grow_Span : Fun := ⟨221, [], fun ts K => as2 ts fun t0 t1 => arZ .span t0 fun s => arC (pI .i64) t1 fun n => chk (0 ≤ n ∧ n ≤ 10000000) (K (tL true .span []) [])⟩
theorem run_slices_Grow_Span (s : Unit) (n : Int) (hpre : 0 ≤ n ∧ n ≤ 10000000) : runK [] (0) [] pf_slices_Grow_Span [.v (.c (.nl .span)), tI .i64 n] fun r o => r = tL true .span [] ∧ o = [] := by
  have e0 : IntKind.i64.wrap (0 - 0) = 0 := by decide
  have e1 : IntKind.i64.wrap (n - 0) = n := by rw [Int.sub_zero]; exact wrap_id (by omega) (by omega)
  conv => whnf
  repeat' (first | (refine sel_i (fun h => ?_) (fun h => ?_) <;> conv => whnf) | (refine chk_c ?_ ?_ <;> conv => whnf) | (refine And.intro ?_ rfl) | (refine And.intro ?_ ?_ <;> conv => whnf))
  all_goals (try simp only [e0, e1, decide_eq_true_eq, decide_eq_false_iff_not, gt_iff_lt] at *)
  all_goals first
    | rfl
    | trivial
    | (refine ⟨?_⟩; omega)
    | (exfalso; omega)
    | (refine ⟨?_⟩; simp; done)
    | (refine ⟨?_⟩; simp; omega)
    | trace_state
theorem ok_slices_Grow_Span : FunOk Try.prog c_slices_Grow_Span := funOk (E := []) (envOk_nil) mixd Try.func221 (pf := pf_slices_Grow_Span) (by kernel_rfl) fun ts K h => by
  obtain ⟨t0, t1, e0, hp⟩ := as2_out h
  clear h
  subst e0
  have h := hp
  clear hp
  obtain ⟨s, e1, hq⟩ := arZ_out h
  clear h
  subst e1
  have h := hq
  clear hq
  obtain ⟨n, e1, hq⟩ := arC_out (rd_int .i64) h
  clear h
  subst e1
  have h := hq
  clear hq
  obtain ⟨hpre, h⟩ := chk_o h
  exact ⟨_, _, h, Nat.le_of_ble_eq_true (show Nat.ble 2 Try.f221.ntmps = true by kernel_rfl), _, run_slices_Grow_Span s n hpre⟩

def lb_slices_Concat_Span_0 : PC := .seq (.reg [.s (.bin 12 .lss (.t 11) (.t 10))]) (.seq (.cond (.t 12) (.skip) (.exit 0)) (.seq (.blk 1 (.seq (.reg [.s (.iar 13 (.t 9) (.t 11)), .s (.load 14 false 1 (.t 13)), .s (.mv 5 (.t 14))]) (.seq (.reg [.s (.mv 15 (.t 3)), .s (.mv 16 (.t 5)), .s (.len 17 false (.t 16)), .s (.bin 18 .add (.t 15) (.t 17)), .s (.mv 3 (.t 18))]) (.seq (.reg [.s (.mv 19 (.t 3)), .s (.bin 20 .lss (.t 19) (.k (.v (.c (.int .i64 0)))))]) (.cond (.t 20) (.reg [.s (.no), .s (.no)]) (.skip)))))) (.reg [.s (.bin 22 .add (.t 11) (.k (.v (.c (.int .i64 1))))), .s (.mv 11 (.t 22))])))
def lb_slices_Concat_Span_1 : PC := .seq (.reg [.s (.bin 28 .lss (.t 27) (.t 26))]) (.seq (.cond (.t 28) (.skip) (.exit 2)) (.seq (.blk 3 (.seq (.reg [.s (.iar 29 (.t 25) (.t 27)), .s (.load 30 false 1 (.t 29)), .s (.mv 8 (.t 30))]) (.reg [.s (.mv 31 (.t 6)), .s (.mv 32 (.t 8)), .s (.app 33 .span (.t 31) (.t 32)), .s (.mv 6 (.t 33))]))) (.reg [.s (.bin 34 .add (.t 27) (.k (.v (.c (.int .i64 1))))), .s (.mv 27 (.t 34))])))
def pf_slices_Concat_Span : PF := ⟨[.t 2], .seq (.reg [.s (.mv 2 (.k (.v (.c (.nils .span)))))]) (.seq (.reg [.s (.mv 3 (.k (.v (.c (.int .i64 0)))))]) (.seq (.seq (.reg [.s (.mv 9 (.t 0)), .s (.lenr 10 (.t 9)), .s (.mv 11 (.k (.v (.c (.int .i64 0)))))]) (.blk 0 (.loop [0, 3, 9, 10, 11] lb_slices_Concat_Span_0))) (.seq (.reg [.s (.mv 23 (.t 3)), .s (.call (some 24) 221 [(.k (.v (.c (.nilz .span)))), (.t 23)]), .s (.mv 6 (.t 24))]) (.seq (.seq (.reg [.s (.mv 25 (.t 0)), .s (.lenr 26 (.t 25)), .s (.mv 27 (.k (.v (.c (.int .i64 0)))))]) (.blk 2 (.loop [6, 25, 26, 27] lb_slices_Concat_Span_1))) (.seq (.reg [.s (.mv 35 (.t 6)), .s (.mv 2 (.t 35))]) (.ret))))))⟩
def c_slices_Concat_Span : Fun := ⟨186, [], fun ts K => as1 ts fun t0 => arR2 t0 fun q => chk (q.1.length ≤ 1048576 ∧ q.2.length ≤ 1048576) (K (tL true .span (q.1 ++ q.2)) [])⟩
theorem run_slices_Concat_Span (q : List Span × List Span) (hpre : q.1.length ≤ 1048576 ∧ q.2.length ≤ 1048576) : runK [c_slices_Grow_Span] (10) [] pf_slices_Concat_Span [.rows 2 [tl false .span (q).1, tl false .span (q).2]] fun r o => r = tL true .span (q.1 ++ q.2) ∧ o = [] := by
  obtain ⟨a, b⟩ := q
  obtain ⟨l1, l2⟩ := hpre
  dsimp only at l1 l2 ⊢
  have e1 : IntKind.i64.wrap (0 + (a.length : Int)) = a.length := by rw [Int.zero_add]; exact wrap_id (by omega) (by omega)
  have e2 : IntKind.i64.wrap ((a.length : Int) + (b.length : Int)) = a.length + b.length := wrap_id (by omega) (by omega)
  have e3 : IntKind.i64.wrap (0 + 1) = 1 := by decide
  have e4 : IntKind.i64.wrap (1 + 1) = 2 := by decide
  conv => whnf
  repeat' (first | (refine sel_i (fun h => ?_) (fun h => ?_) <;> first | (exfalso; revert h; decide) | conv => whnf) | (refine chk_c ?_ ?_ <;> conv => whnf) | (refine iter_s ?_; conv => whnf) | (refine And.intro ?_ rfl) | (refine And.intro ?_ ?_ <;> conv => whnf))
  all_goals (try simp only [e1, e2, e3, e4, decide_eq_true_eq, decide_eq_false_iff_not, gt_iff_lt] at *)
  all_goals first
    | rfl
    | trivial
    | (refine ⟨?_⟩; omega)
    | (exfalso; omega)
    | (refine ⟨?_⟩; simp; done)
    | (refine ⟨?_⟩; simp; omega)
    | trace_state
theorem ok_slices_Concat_Span : FunOk Try.prog c_slices_Concat_Span := funOk (E := [c_slices_Grow_Span]) (envOk_cons ok_slices_Grow_Span (envOk_nil)) mixd Try.func186 (pf := pf_slices_Concat_Span) (by kernel_rfl) fun ts K h => by
  obtain ⟨t0, e0, hp⟩ := as1_out h
  clear h
  subst e0
  have h := hp
  clear hp
  obtain ⟨q, e1, hq⟩ := arR2_out h
  clear h
  subst e1
  have h := hq
  clear hq
  obtain ⟨hpre, h⟩ := chk_o h
  exact ⟨_, _, h, Nat.le_of_ble_eq_true (show Nat.ble 1 Try.f186.ntmps = true by kernel_rfl), _, run_slices_Concat_Span q hpre⟩

def useOf (l : List Span) : List Bool := (List.range 24).map (fun c => decide (0 < cnt l c))
theorem useOf_len (l : List Span) : (useOf l).length = 24 := by simp [useOf]
theorem useOf_get (l : List Span) {c : Nat} (hc : c < 24) : (useOf l).getD c false = decide (0 < cnt l c) := by
  simp [useOf, List.getD_eq_getElem?_getD, hc]
theorem useOf_nil : useOf [] = List.replicate 24 false := by
  have : (fun c => decide (0 < cnt [] c)) = fun _ => false := by funext c; simp [cnt]
  unfold useOf; rw [this]; rfl
theorem use_ext {u : List Bool} {l : List Span} (h : u.length = 24) (h2 : ∀ c, c < 24 → u.getD c false = decide (0 < cnt l c)) : u = useOf l := by
  apply List.ext_getElem?
  intro c
  by_cases hc : c < 24
  · have e1 : u[c]? = some (u.getD c false) := by simp [List.getD_eq_getElem?_getD, h, hc]
    have e2 : (useOf l)[c]? = some ((useOf l).getD c false) := by simp [List.getD_eq_getElem?_getD, useOf_len, hc]
    rw [e1, e2, h2 c hc, useOf_get l hc]
  · rw [List.getElem?_eq_none (by omega), List.getElem?_eq_none (by rw [useOf_len]; omega)]
theorem spanD_mem {l : List Span} {i : Nat} (h : i < l.length) : l.getD i (FT.zero .span) ∈ l := by
  rw [List.getD_eq_getElem?_getD, List.getElem?_eq_getElem h]; exact List.getElem_mem h
theorem cnt_take {l : List Span} {i : Nat} (h : i < l.length) (c : Nat) : cnt (l.take (i + 1)) c = cnt (l.take i) c + (if inS (l.getD i (FT.zero .span)) c then 1 else 0) := by
  have e : l[i]? = some (l.getD i (FT.zero .span)) := by simp [List.getD_eq_getElem?_getD, h]
  rw [List.take_add_one, e, cnt_app]
  show _ + cnt [l.getD i (FT.zero .span)] c = _
  rw [cnt_cons]
  simp [cnt]

def lb_impl_usedCells_0 : PC := .seq (.seq (.reg [.s (.mv 21 (.t 6)), .s (.fa 22 (.t 5) 0), .s (.load 23 false 1 (.t 22)), .s (.fa 24 (.t 5) 1), .s (.load 25 false 1 (.t 24)), .s (.bin 26 .add (.t 23) (.t 25)), .s (.bin 27 .lss (.t 21) (.t 26))]) (.cond (.t 27) (.skip) (.exit 2))) (.seq (.blk 3 (.reg [.s (.mv 30 (.t 3)), .s (.mv 31 (.t 6)), .s (.ia 32 .bool (.t 30) (.t 31)), .s (.store 1 (.t 32) (.k (.v (.c .tt))))])) (.reg [.s (.mv 28 (.t 6)), .s (.bin 29 .add (.t 28) (.k (.v (.c (.int .i64 1))))), .s (.mv 6 (.t 29))]))
def lb_impl_usedCells_1 : PC := .seq (.reg [.s (.bin 16 .lss (.t 15) (.t 14))]) (.seq (.cond (.t 16) (.skip) (.exit 0)) (.seq (.blk 1 (.seq (.reg [.s (.ia 17 .span (.t 13) (.t 15)), .s (.load 18 true 2 (.t 17)), .s (.alloc 5 [.int .i64 0, .int .i64 0]), .s (.store 2 (.t 5) (.t 18))]) (.seq (.reg [.s (.fa 19 (.t 5) 0), .s (.load 20 false 1 (.t 19)), .s (.mv 6 (.t 20))]) (.blk 2 (.loop [3, 5, 6, 13, 14, 15] lb_impl_usedCells_0))))) (.reg [.s (.bin 33 .add (.t 15) (.k (.v (.c (.int .i64 1))))), .s (.mv 15 (.t 33))])))
def pf_impl_usedCells : PF := ⟨[.t 2], .seq (.reg [.s (.box 1 (.t 0)), .s (.mv 2 (.k (.v (.c (.nils .bool)))))]) (.seq (.reg [.s (.mkS 7 .bool (.k (.v (.c (.int .i64 24))))), .s (.mv 3 (.t 7))]) (.seq (.seq (.reg [.s (.fa 8 (.t 1) 2), .s (.load 9 false 1 (.t 8)), .s (.fa 10 (.t 1) 3), .s (.load 11 false 1 (.t 10)), .s (.bsr 12 [(.t 9), (.t 11)]), .s (.call (some 13) 186 [(.t 12)]), .s (.len 14 false (.t 13)), .s (.mv 15 (.k (.v (.c (.int .i64 0)))))]) (.blk 0 (.loop [3, 13, 14, 15] lb_impl_usedCells_1))) (.seq (.reg [.s (.mv 34 (.t 3)), .s (.mv 2 (.t 34))]) (.ret))))⟩
def c_impl_usedCells : Fun := ⟨135, [], fun ts K => as1 ts fun t0 => arG pHeapT t0 fun t => chk (LHeap t 1048576 ∧ ∀ s ∈ t.live ++ t.waits, spanOk s = true) (K (tL true .bool (useOf (t.live ++ t.waits))) [])⟩
theorem run_impl_usedCells (t : Heap) (hpre : LHeap t 1048576 ∧ ∀ s ∈ t.live ++ t.waits, spanOk s = true) : runK [c_slices_Concat_Span] (t.live.length + t.waits.length + 30) [] pf_impl_usedCells [tG (t.tc false [])] fun r o => r = tL true .bool (useOf (t.live ++ t.waits)) ∧ o = [] := by
  obtain ⟨⟨⟨l1, l4⟩, l2, l3⟩, hsp⟩ := hpre
  conv => whnf
  repeat' (first | (refine sel_i (fun h => ?_) (fun h => ?_) <;> conv => whnf) | (refine chk_c ?_ ?_ <;> conv => whnf) | (refine And.intro ?_ rfl) | (refine And.intro ?_ ?_ <;> conv => whnf))
  all_goals first
    | (refine ⟨?_⟩; exact ⟨l2, l3⟩)
    | (refine ⟨?_⟩; exact (show (0 : Int) ≤ 24 ∧ (24 : Int) ≤ 2147483647 by decide))
    | skip
  obtain ⟨all, hall⟩ : ∃ a : List Span, a = t.live ++ t.waits := ⟨_, rfl⟩
  have hlen : all.length = t.live.length + t.waits.length := by rw [hall, List.length_append]
  rw [show (t.live, t.waits).1 ++ (t.live, t.waits).2 = all from hall.symm]
  rw [← hall] at hsp
  try rw [← hall]
  refine loop (α := Nat × List Bool) (fun q => ⟨[(3, .v (.c (.sl true .bool 0))), (13, .v (.c (.sl false .span 1))), (14, .v (.c (.int .i64 (all.length : Int)))), (15, .v (.c (.int .i64 (q.1 : Int))))],
        [(1, some (.flat true .span none all)), (0, some (.flat true .bool none q.2))], nums.tail.tail, [], false, []⟩)
      (fun q => q.1 ≤ all.length ∧ q.2 = useOf (all.take q.1)) (fun q => all.length - q.1) (fun q R hI hR => ?_) (0, List.replicate 24 false) _ ⟨Nat.zero_le _, by rw [List.take_zero, useOf_nil]⟩ (by show all.length - 0 < _; omega)
  obtain ⟨i, u⟩ := q
  obtain ⟨hi, hu⟩ := hI
  dsimp only at hi hu ⊢
  have hul : u.length = 24 := by rw [hu, useOf_len]
  conv => whnf
  refine sel_i (fun h => ?_) (fun h => ?_)
  · have hlt : i < all.length := by have h := of_decide_eq_true h; omega
    clear h
    have hs := hsp _ (spanD_mem hlt)
    have hct := cnt_take hlt
    have hin := inS_nat hs
    have hge : all.getD i (FT.zero .span) = all.getD i (FT.zero .span) := rfl
    have ho : (0 ≤ (all.getD i (FT.zero .span)).at_ ∧ (all.getD i (FT.zero .span)).at_ ≤ 23) ∧ 1 ≤ (all.getD i (FT.zero .span)).len ∧ (all.getD i (FT.zero .span)).len ≤ 24 - (all.getD i (FT.zero .span)).at_ := by
      have := hs
      simp only [spanOk, Bool.and_eq_true, inR_t] at this
      exact this
    conv => whnf
    repeat' (first | (refine sel_i (fun h => ?_) (fun h => ?_) <;> conv => whnf) | (refine chk_c ?_ ?_ <;> conv => whnf) | (refine And.intro ?_ rfl) | (refine And.intro ?_ ?_ <;> conv => whnf))
    all_goals (try simp only [Int.toNat_natCast] at *)
    all_goals generalize hsd : all.getD i (FT.zero .span) = s at *
    all_goals try (refine ⟨?_⟩; omega)
    obtain ⟨sa, sl⟩ := s
    dsimp only at ho hin hct ⊢
    obtain ⟨a, rfl⟩ := Int.eq_ofNat_of_zero_le ho.1.1
    obtain ⟨m, rfl⟩ := Int.eq_ofNat_of_zero_le (show 0 ≤ sl by omega)
    simp only [Int.toNat_natCast] at hin
    have w1 : IntKind.i64.wrap ((a : Int) + (m : Int)) = (a : Int) + (m : Int) := wrap_id (by omega) (by omega)
    refine loop (α := Nat × List Bool) (fun q => ⟨[(3, .v (.c (.sl true .bool 0))), (5, .v (.c (.ptr 1 0))), (6, .v (.c (.int .i64 (q.1 : Int)))), (13, .v (.c (.sl false .span 2))), (14, .v (.c (.int .i64 (all.length : Int)))), (15, .v (.c (.int .i64 (i : Int))))],
          [(2, some (.flat true .span none all)), (1, some (.box true [.int .i64 (a : Int), .int .i64 (m : Int)])), (0, some (.flat true .bool none q.2))], nums.tail.tail.tail, [], false, []⟩)
        (fun q => (a ≤ q.1 ∧ q.1 ≤ a + m) ∧ q.2.length = 24 ∧ ∀ c, c < 24 → q.2.getD c false = decide (0 < cnt (all.take i) c ∨ (a ≤ c ∧ c < q.1))) (fun q => a + m - q.1) (fun q R2 hI2 hR2 => ?_) (a, u) _
        ⟨⟨Nat.le_refl _, Nat.le_add_right _ _⟩, hul, fun c hc => by rw [hu, useOf_get _ hc]; exact decide_eq_decide.2 ⟨.inl, fun h => h.elim id (fun h => absurd h.2 (by dsimp only; omega))⟩⟩ (by show a + m - a < t.live.length + t.waits.length + 30; omega)
    obtain ⟨n, v⟩ := q
    obtain ⟨⟨gn1, gn2⟩, gl, gv⟩ := hI2
    dsimp only at gn1 gn2 gl gv ⊢
    conv => whnf
    rw [w1]
    refine sel_i (fun h => ?_) (fun h => ?_)
    · have hn : n < a + m := by have h := of_decide_eq_true h; omega
      clear h
      conv => whnf
      repeat' (first | (refine sel_i (fun h => ?_) (fun h => ?_) <;> conv => whnf) | (refine chk_c ?_ ?_ <;> conv => whnf) | (refine And.intro ?_ rfl) | (refine And.intro ?_ ?_ <;> conv => whnf))
      all_goals (try simp only [Int.toNat_natCast] at *)
      all_goals first
        | (refine ⟨?_⟩; omega)
        | skip
      rw [wrap_id (n := (n : Int) + 1) (by omega) (by omega)]
      refine hR2 (n + 1, v.set n true) ⟨⟨by dsimp only; omega, by dsimp only; omega⟩, by simpa using gl, fun c hc => ?_⟩ (by dsimp only; omega)
      dsimp only
      by_cases e : n = c
      · subst e
        simp only [List.getD_eq_getElem?_getD, List.getElem?_set, if_true]
        rw [if_pos (by omega)]
        simp; right; omega
      · have : (v.set n true).getD c false = v.getD c false := by simp only [List.getD_eq_getElem?_getD, List.getElem?_set, if_neg e]
        rw [this, gv c hc]
        exact decide_eq_decide.2 ⟨fun h => h.imp id (fun h => ⟨h.1, by omega⟩), fun h => h.imp id (fun h => ⟨h.1, by omega⟩)⟩
    · have hn : n = a + m := by have h := of_decide_eq_false h; omega
      conv => whnf
      rw [wrap_id (n := (i : Int) + 1) (by omega) (by omega)]
      refine hR (i + 1, v) ⟨hlt, use_ext gl fun c hc => ?_⟩ (by dsimp only; omega)
      dsimp only
      rw [gv c hc, hct c, hin c]
      apply decide_eq_decide.2
      simp only [Bool.and_eq_true, decide_eq_true_eq]
      split <;> omega
  · have e : i = all.length := by have h := of_decide_eq_false h; omega
    subst e
    conv => whnf
    rw [hu, List.take_length]
    exact ⟨rfl, rfl⟩
theorem ok_impl_usedCells : FunOk Try.prog c_impl_usedCells := funOk (E := [c_slices_Concat_Span]) (envOk_cons ok_slices_Concat_Span (envOk_nil)) mixd Try.func135 (pf := pf_impl_usedCells) (by kernel_rfl) fun ts K h => by
  obtain ⟨t0, e0, h⟩ := as1_out h
  subst e0
  obtain ⟨t, e1, hq⟩ := arG_out rd_heap h
  clear h
  subst e1
  have h := hq
  clear hq
  obtain ⟨hpre, h⟩ := chk_o h
  exact ⟨_, _, h, Nat.le_of_ble_eq_true (show Nat.ble 1 Try.f135.ntmps = true by kernel_rfl), _, run_impl_usedCells t hpre⟩

theorem heapOk_spans {t : Heap} (h : heapOk t = true) : ∀ s ∈ t.live ++ t.waits, spanOk s = true := fun s hs => by
  simp only [heapOk, Bool.and_eq_true] at h
  rcases List.mem_append.1 hs with q | q
  · exact spansOk_mem h.1.1.2 s q
  · exact spansOk_mem h.1.2 s q

def putS (l : List Span) (x : Span) : List Span := l.takeWhile (fun s => decide (s.at_ < x.at_)) ++ x :: l.dropWhile (fun s => decide (s.at_ < x.at_))
theorem putS_at : ∀ {l : List Span} {x : Span} {k : Nat}, k ≤ l.length → (∀ j, j < k → (l.getD j (FT.zero .span)).at_ < x.at_) → (k = l.length ∨ ¬ (l.getD k (FT.zero .span)).at_ < x.at_) → putS l x = l.take k ++ x :: l.drop k
  | [], x, k, h, _, _ => by have : k = 0 := by simpa using h
                            subst this; rfl
  | s :: l, x, 0, _, _, h => by
    rcases h with h | h
    · simp at h
    · have h : ¬ s.at_ < x.at_ := h
      simp [putS, List.takeWhile_cons, List.dropWhile_cons, h]
  | s :: l, x, k + 1, hk, h1, h2 => by
    have h0 : s.at_ < x.at_ := h1 0 (by omega)
    have ih := putS_at (l := l) (x := x) (k := k) (by simpa using hk) (fun j hj => h1 (j + 1) (by omega)) (h2.imp (fun h => by simpa using h) (fun h => h))
    have e : putS (s :: l) x = s :: putS l x := by simp [putS, List.takeWhile_cons, List.dropWhile_cons, h0]
    rw [e, ih]; rfl
theorem putS_mem {l : List Span} {x s : Span} : s ∈ putS l x ↔ s = x ∨ s ∈ l := by
  have : s ∈ l ↔ s ∈ l.takeWhile (fun s => decide (s.at_ < x.at_)) ∨ s ∈ l.dropWhile (fun s => decide (s.at_ < x.at_)) := by
    rw [← List.mem_append, List.takeWhile_append_dropWhile]
  rw [this]
  simp only [putS, List.mem_append, List.mem_cons]
  constructor
  · rintro (h | h | h) <;> simp [h]
  · rintro (h | h | h) <;> simp [h]
theorem putS_cnt (l : List Span) (x : Span) (c : Nat) : cnt (putS l x) c = cnt l c + (if inS x c then 1 else 0) := by
  have e : cnt l c = cnt (l.takeWhile (fun s => decide (s.at_ < x.at_))) c + cnt (l.dropWhile (fun s => decide (s.at_ < x.at_))) c := by
    rw [← cnt_app, List.takeWhile_append_dropWhile]
  unfold putS
  rw [cnt_app, cnt_cons, e]; omega
/-! spans that are right: each one, and in order -/
def Ord (l : List Span) : Prop := l.Pairwise (fun a b => a.at_ < b.at_)
theorem ord_of {l : List Span} (h : ∀ j, 0 < j → j < l.length → (l.getD (j - 1) (FT.zero .span)).at_ < (l.getD j (FT.zero .span)).at_) : Ord l := by
  have key : ∀ d i : Nat, i + d + 1 < l.length → (l.getD i (FT.zero .span)).at_ < (l.getD (i + d + 1) (FT.zero .span)).at_ := by
    intro d
    induction d with
    | zero => intro i hi; have := h (i + 1) (by omega) hi; simpa using this
    | succ d ih =>
      intro i hi
      have h1 := ih i (by omega)
      have h2 := h (i + (d + 1) + 1) (by omega) hi
      rw [show i + (d + 1) + 1 - 1 = i + d + 1 by omega] at h2
      omega
  refine List.pairwise_iff_getElem.2 fun i j hi hj hij => ?_
  have := key (j - i - 1) i (by omega)
  rw [show i + (j - i - 1) + 1 = j by omega] at this
  simpa [List.getD_eq_getElem?_getD, hi, hj] using this
theorem ord_step {l : List Span} (h : Ord l) {j : Nat} (h0 : 0 < j) (hj : j < l.length) : (l.getD (j - 1) (FT.zero .span)).at_ < (l.getD j (FT.zero .span)).at_ := by
  have := List.pairwise_iff_getElem.1 h (j - 1) j (by omega) hj (by omega)
  simpa [List.getD_eq_getElem?_getD, hj, show j - 1 < l.length by omega] using this
theorem spansOk_ord {l : List Span} : spansOk l = true ↔ (∀ s ∈ l, spanOk s = true) ∧ Ord l := by
  rw [spansOk_iff]
  constructor
  · intro h
    refine ⟨spansOk_mem (spansOk_iff.2 h), ord_of fun j h0 hj => ?_⟩
    have := ((spanChk_iff l j).1 (h j hj)).2
    omega
  · rintro ⟨h1, h2⟩ j hj
    have hs := h1 _ (spanD_mem hj)
    rw [spanChk_iff]
    simp only [spanOk, Bool.and_eq_true, inR_t] at hs
    refine ⟨hs, ?_⟩
    by_cases h0 : j = 0
    · exact .inl h0
    · exact .inr (ord_step h2 (by omega) hj)
theorem takeWhile_all {α : Type} {p : α → Bool} : ∀ {l : List α} {s : α}, s ∈ l.takeWhile p → p s = true
  | [], _, h => by cases h
  | a :: l, s, h => by
    rw [List.takeWhile_cons] at h
    split at h
    · rename_i ha
      rcases List.mem_cons.1 h with rfl | h
      · exact ha
      · exact takeWhile_all h
    · cases h
theorem putS_ord {l : List Span} {x : Span} (h : Ord l) (hx : ∀ s ∈ l, s.at_ ≠ x.at_) : Ord (putS l x) := by
  have hl : Ord (l.takeWhile (fun s => decide (s.at_ < x.at_)) ++ l.dropWhile (fun s => decide (s.at_ < x.at_))) := by rw [List.takeWhile_append_dropWhile]; exact h
  obtain ⟨a1, a2, a3⟩ := List.pairwise_append.1 hl
  have hm : ∀ s ∈ l.dropWhile (fun s => decide (s.at_ < x.at_)), s ∈ l := fun s hs => (List.dropWhile_sublist _).subset hs
  have hlt : ∀ s ∈ l.takeWhile (fun s => decide (s.at_ < x.at_)), s.at_ < x.at_ := fun s hs => by
    have := takeWhile_all (p := fun s : Span => decide (s.at_ < x.at_)) hs
    simpa using this
  have hgt : ∀ s ∈ l.dropWhile (fun s => decide (s.at_ < x.at_)), x.at_ < s.at_ := by
    cases hd : l.dropWhile (fun s => decide (s.at_ < x.at_)) with
    | nil => intro s hs; cases hs
    | cons d r =>
      have hdn : ¬ d.at_ < x.at_ := by
        have := List.head?_dropWhile_not (fun s : Span => decide (s.at_ < x.at_)) l
        rw [hd] at this
        simpa using this
      have hdx : d.at_ ≠ x.at_ := hx d (hm d (by rw [hd]; simp))
      rw [hd] at a2
      intro s hs
      rcases List.mem_cons.1 hs with rfl | hs
      · omega
      · have := (List.pairwise_cons.1 a2).1 s hs
        omega
  exact List.pairwise_append.2 ⟨a1, List.pairwise_cons.2 ⟨hgt, a2⟩, fun a ha b hb => by
    rcases List.mem_cons.1 hb with rfl | hb
    · exact hlt a ha
    · exact a3 a ha b hb⟩

def lb_spec_l23Put_0 : PC := .seq (.seq (.rgd [] [.s (.mv 7 (.t 5)), .s (.mv 8 (.t 0)), .s (.len 9 false (.t 8)), .s (.bin 10 .lss (.t 7) (.t 9)), .s (.mv 11 (.t 10)), .g 11 true (some 12) (.mv 12 (.t 0)), .g 11 true (some 13) (.mv 13 (.t 5)), .g 11 true (some 14) (.ia 14 .span (.t 12) (.t 13)), .g 11 true (some 15) (.fa 15 (.t 14) 0), .g 11 true (some 16) (.load 16 false 1 (.t 15)), .g 11 true (some 17) (.fa 17 (.t 3) 0), .g 11 true (some 18) (.load 18 false 1 (.t 17)), .g 11 true (some 19) (.bin 19 .lss (.t 16) (.t 18)), .s (.pick 20 (.t 11) (.t 19) (.k (.v (.c .ff))))] (.tk 0 (.tk 1 (.tk 2 (.tk 3 (.tk 4 (.tk 5 (.tk 6 (.tk 7 (.tk 8 (.tk 9 (.tk 10 (.tk 11 (.tk 12 (.tk 13 (.done none)))))))))))))))) (.cond (.t 20) (.skip) (.exit 0))) (.blk 1 (.reg [.s (.mv 21 (.t 5)), .s (.bin 22 .add (.t 21) (.k (.v (.c (.int .i64 1))))), .s (.mv 5 (.t 22))]))
def pf_spec_l23Put : PF := ⟨[.t 4], .seq (.reg [.s (.box 3 (.t 1)), .s (.mv 4 (.k (.v (.c (.nils .span)))))]) (.seq (.reg [.s (.mv 5 (.k (.v (.c (.int .i64 0)))))]) (.seq (.blk 0 (.loop [0, 3, 5] lb_spec_l23Put_0)) (.seq (.reg [.s (.bs 23 .span []), .s (.mv 24 (.t 0)), .s (.mv 25 (.t 5)), .s (.slc 26 .span (.t 24) none (some (.t 25))), .s (.app 27 .span (.t 23) (.t 26)), .s (.mv 6 (.t 27))]) (.seq (.reg [.s (.mv 28 (.t 6)), .s (.load 29 true 2 (.t 3)), .s (.bs 30 .span [(.t 29)]), .s (.app 31 .span (.t 28) (.t 30)), .s (.mv 6 (.t 31))]) (.seq (.reg [.s (.mv 32 (.t 6)), .s (.mv 33 (.t 0)), .s (.mv 34 (.t 5)), .s (.slc 35 .span (.t 33) (some (.t 34)) none), .s (.app 36 .span (.t 32) (.t 35)), .s (.mv 4 (.t 36))]) (.ret))))))⟩
def c_spec_l23Put : Fun := ⟨139, [], fun ts K => as2 ts fun t0 t1 => arC (pL .span) t0 fun l => arG pSpanT t1 fun x => chk (l.length ≤ 1048576) (K (tL true .span (putS l x)) [])⟩
theorem run_spec_l23Put (l : List (FT.Ty .span)) (x : Span) (hpre : l.length ≤ 1048576) : runK [] (l.length + 1) [] pf_spec_l23Put [tL false .span l, tG (x.tc [])] fun r o => r = tL true .span (putS l x) ∧ o = [] := by
  conv => whnf
  refine loop (α := Nat) (fun k => ⟨[(0, .v (.c (.sl false .span 0))), (3, .v (.c (.ptr 1 0))), (5, .v (.c (.int .i64 (k : Int))))], [(1, some (.box true [.int .i64 x.at_, .int .i64 x.len])), (0, some (.flat false .span none l))], nums.tail.tail, [], false, []⟩)
      (fun k => k ≤ l.length ∧ ∀ j, j < k → (l.getD j (FT.zero .span)).at_ < x.at_) (fun k => l.length - k) (fun k R hI hR => ?_) 0 _ ⟨Nat.zero_le _, fun j hj => absurd hj (by omega)⟩ (by show l.length - 0 < l.length + 1; omega)
  obtain ⟨hk, hj⟩ := hI
  have e1 : win l 0 k = l.take k := by simp [win]
  have e2 : win l (0 + k) ((l.length : Int) - (k : Int)).toNat = l.drop k := by
    unfold win; rw [Nat.zero_add, List.take_of_length_le (by rw [List.length_drop]; omega)]
  conv => whnf
  repeat' (first | (refine sel_i (fun h => ?_) (fun h => ?_) <;> conv => whnf) | (refine chk_c ?_ ?_ <;> conv => whnf) | (refine And.intro ?_ rfl) | (refine And.intro ?_ ?_ <;> conv => whnf))
  all_goals (try simp only [etaSpan, Int.toNat_natCast, decide_eq_true_eq, decide_eq_false_iff_not] at *)
  all_goals first
    | (refine ⟨?_⟩; omega)
    | (rw [wrap_id (n := (k : Int) + 1) (by omega) (by omega)]
       refine hR (k + 1) ⟨by omega, fun j hjk => ?_⟩ (by omega)
       by_cases e : j = k
       · rw [e]; exact h
       · exact hj j (by omega))
    | (refine ⟨?_⟩; simp only [e1, e2, List.nil_append, List.length_append, List.length_take, List.length_drop, List.length_cons, List.length_nil]; omega)
    | (rw [putS_at hk hj (.inr h)]; simp only [e1, e2, List.nil_append, List.append_assoc]; rfl)
    | (rw [putS_at hk hj (.inl (by omega))]; simp only [e1, e2, List.nil_append, List.append_assoc]; rfl)
    | trace_state
theorem ok_spec_l23Put : FunOk Try.prog c_spec_l23Put := funOk (E := []) (envOk_nil) mixd Try.func139 (pf := pf_spec_l23Put) (by kernel_rfl) fun ts K h => by
  obtain ⟨t0, t1, e0, h⟩ := as2_out h
  subst e0
  obtain ⟨l, e1, hq⟩ := arC_out (rd_l .span) h
  clear h
  subst e1
  have h := hq
  clear hq
  obtain ⟨x, e1, hq⟩ := arG_out rd_span h
  clear h
  subst e1
  have h := hq
  clear hq
  obtain ⟨hpre, h⟩ := chk_o h
  exact ⟨_, _, h, Nat.le_of_ble_eq_true (show Nat.ble 2 Try.f139.ntmps = true by kernel_rfl), _, run_spec_l23Put l x hpre⟩
end Go.Pi
