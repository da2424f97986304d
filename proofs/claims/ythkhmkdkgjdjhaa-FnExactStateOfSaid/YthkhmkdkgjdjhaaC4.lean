/- Contracts of functions, each out of its run by PI. No conditions. -/
import Derived.Test.YthkhmkdkgjdjhaaC3
namespace Go.Pi
open Go.Proofs
set_option linter.unusedVariables false
set_option linter.unusedSimpArgs false
set_option maxRecDepth 100000
attribute [local irreducible] iterN
def allR (f : Nat → Bool) (n : Nat) : Bool := (List.range n).all f
theorem allR_yes {f : Nat → Bool} {i : Nat} (h : allR f i = true) (h2 : f i = true) : allR f (i + 1) = true := by simp only [allR, List.range_succ, List.all_append, List.all_cons, List.all_nil, h2, Bool.and_true]; exact h
theorem allR_no {f : Nat → Bool} {i n : Nat} (h : i < n) (h2 : f i = false) : allR f n = false := by
  unfold allR
  rw [Bool.eq_false_iff]
  intro hh
  have := List.all_eq_true.1 hh i (by simpa using h)
  rw [h2] at this; cases this
theorem allR_iff {f : Nat → Bool} {n : Nat} : allR f n = true ↔ ∀ c, c < n → f c = true := by simp [allR]
def cnt (l : List Span) (c : Nat) : Nat := l.countP (fun s => inS s c)
def heapOk (h : Heap) : Bool := memoryOk h.mem && spansOk h.live && spansOk h.waits && allR (fun c => decide (cnt h.live c + cnt h.waits c ≤ 1) && (h.mem.gone.getD c false == decide (0 < cnt h.waits c))) 24
theorem markedGo_len (l : List Span) : ∀ (n i : Nat) (u : List Bool), (markedGo l n i u).2.length = u.length
  | 0, _, _ => rfl
  | n + 1, i, u => by
    unfold markedGo
    split
    · split
      · rw [markedGo_len l n (i + 1), markRun_len]
      · rw [markRun_len]
    · rfl
theorem bool_ext {a b : Bool} (h : a = true ↔ b = true) : a = b := by cases a <;> cases b <;> simp_all
theorem markRun_spec : ∀ (n a : Nat) (u : List Bool), u.length = 24 → a + n ≤ 24 →
    ((markRun n a u).1 = true ↔ ∀ c, a ≤ c → c < a + n → u.getD c false = false) ∧ ((markRun n a u).1 = true → ∀ c, c < 24 → (markRun n a u).2.getD c false = (u.getD c false || (decide (a ≤ c) && decide (c < a + n))))
  | 0, a, u, hu, _ => by
    refine ⟨⟨fun _ c h1 h2 => by omega, fun _ => rfl⟩, fun _ c hc => ?_⟩
    have : (decide (a ≤ c) && decide (c < a + 0)) = false := by
      rw [Bool.eq_false_iff]; intro h; simp only [Bool.and_eq_true, decide_eq_true_eq] at h; omega
    rw [this, Bool.or_false]; rfl
  | n + 1, a, u, hu, ha => by
    unfold markRun
    by_cases e : u.getD a false = true
    · rw [if_pos e]
      refine ⟨⟨fun h => (by cases h), fun h => ?_⟩, fun h => (by cases h)⟩
      rw [h a (Nat.le_refl _) (by omega)] at e; cases e
    · rw [if_neg e]
      obtain ⟨h1, h2⟩ := markRun_spec n (a + 1) (u.set a true) (by simpa using hu) (by omega)
      have hset : ∀ c, c < 24 → (u.set a true).getD c false = if a = c then true else u.getD c false := fun c hc => getD_set _ _ _ _ _ (by omega)
      refine ⟨⟨fun h c hc hc2 => ?_, fun h => h1.2 fun c hc hc2 => ?_⟩, fun h c hc => ?_⟩
      · by_cases e2 : a = c
        · subst e2; simpa using e
        · have := h1.1 h c (by omega) (by omega)
          rw [hset c (by omega), if_neg e2] at this
          exact this
      · rw [hset c (by omega), if_neg (by omega)]
        exact h c (by omega) (by omega)
      · rw [h2 h c hc, hset c hc]
        by_cases e2 : a = c
        · subst e2
          rw [if_pos rfl, decide_eq_true (Nat.le_refl a), decide_eq_true (show a < a + (n + 1) by omega)]; simp
        · rw [if_neg e2, decide_eq_decide.2 (show a + 1 ≤ c ↔ a ≤ c by omega), decide_eq_decide.2 (show c < a + 1 + n ↔ c < a + (n + 1) by omega)]
theorem inS_nat {s : Span} (h : spanOk s = true) (c : Nat) : inS s c = (decide (s.at_.toNat ≤ c) && decide (c < s.at_.toNat + s.len.toNat)) := by
  simp only [spanOk, Bool.and_eq_true, inR_t] at h
  unfold inS inR
  rw [decide_eq_decide.2 (show s.at_ ≤ (c : Int) ↔ s.at_.toNat ≤ c by omega), decide_eq_decide.2 (show (c : Int) ≤ s.at_ + s.len - 1 ↔ c < s.at_.toNat + s.len.toNat by omega)]
theorem spanChk_ok {l : List Span} {i : Nat} (h : spanChk l i = true) : spanOk (l.getD i (FT.zero .span)) = true := by
  simp only [spanChk, Bool.and_eq_true] at h; exact h.1
theorem drop_getD {α : Type} {l : List α} {i : Nat} (z : α) (h : i < l.length) : l.drop i = l.getD i z :: l.drop (i + 1) := by
  have e : l.getD i z = l[i] := by simp [List.getD_eq_getElem?_getD, h]
  rw [List.drop_eq_getElem_cons h, e]
theorem cnt_cons (s : Span) (l : List Span) (c : Nat) : cnt (s :: l) c = (if inS s c then 1 else 0) + cnt l c := by
  simp only [cnt, List.countP_cons]; omega
theorem markedGo_spec (l : List Span) : ∀ (n i : Nat) (u : List Bool), n = l.length - i → u.length = 24 →
    ((markedGo l n i u).1 = true ↔ (∀ j, i ≤ j → j < l.length → spanChk l j = true) ∧ ∀ c, c < 24 → (if u.getD c false then 1 else 0) + cnt (l.drop i) c ≤ 1) ∧
    ((markedGo l n i u).1 = true → ∀ c, c < 24 → (markedGo l n i u).2.getD c false = (u.getD c false || decide (0 < cnt (l.drop i) c)))
  | 0, i, u, hn, hu => by
    have hd : l.drop i = [] := List.drop_eq_nil_of_le (by omega)
    refine ⟨⟨fun _ => ⟨fun j h1 h2 => by omega, fun c _ => ?_⟩, fun _ => rfl⟩, fun _ c hc => ?_⟩
    · rw [hd]; simp only [cnt, List.countP_nil]; split <;> omega
    · rw [hd]; simp [cnt, markedGo]
  | n + 1, i, u, hn, hu => by
    have hlt : i < l.length := by omega
    have hd := drop_getD (FT.zero .span) hlt
    unfold markedGo
    by_cases hc : spanChk l i = true
    · rw [if_pos hc]
      have hok := spanChk_ok hc
      have hin := inS_nat hok
      have hb : (l.getD i (FT.zero .span)).at_.toNat + (l.getD i (FT.zero .span)).len.toNat ≤ 24 := by
        simp only [spanOk, Bool.and_eq_true, inR_t] at hok; omega
      rw [hd]
      generalize l.getD i (FT.zero .span) = s at *
      obtain ⟨m1, m2⟩ := markRun_spec s.len.toNat s.at_.toNat u hu hb
      have ml := markRun_len s.len.toNat s.at_.toNat u
      generalize markRun s.len.toNat s.at_.toNat u = r at *
      by_cases hr : r.1 = true
      · rw [if_pos hr]
        obtain ⟨g1, g2⟩ := markedGo_spec l n (i + 1) r.2 (by omega) (by omega)
        have hr2 := m2 hr
        have hfree := m1.1 hr
        have hsum : ∀ c, c < 24 → ((if r.2.getD c false then 1 else 0) + cnt (l.drop (i + 1)) c = (if u.getD c false then 1 else 0) + cnt (s :: l.drop (i + 1)) c) := fun c hc24 => by
          rw [cnt_cons, hr2 c hc24, hin c]
          by_cases e : s.at_.toNat ≤ c ∧ c < s.at_.toNat + s.len.toNat
          · rw [hfree c e.1 e.2, decide_eq_true e.1, decide_eq_true e.2]; simp
          · have : (decide (s.at_.toNat ≤ c) && decide (c < s.at_.toNat + s.len.toNat)) = false := by rw [Bool.eq_false_iff]; simp; omega
            rw [this]; simp
        refine ⟨⟨fun h => ?_, fun h => g1.2 ⟨fun j h1 h2 => h.1 j (by omega) h2, fun c hc24 => by rw [hsum c hc24]; exact h.2 c hc24⟩⟩, fun h c hc24 => ?_⟩
        · obtain ⟨a1, a2⟩ := g1.1 h
          refine ⟨fun j h1 h2 => ?_, fun c hc24 => by rw [← hsum c hc24]; exact a2 c hc24⟩
          by_cases e : j = i
          · rw [e]; exact hc
          · exact a1 j (by omega) h2
        · rw [g2 h c hc24, hr2 c hc24, cnt_cons, hin c]
          cases u.getD c false <;> cases (decide (s.at_.toNat ≤ c) && decide (c < s.at_.toNat + s.len.toNat)) <;> simp <;> omega
      · rw [if_neg hr]
        refine ⟨⟨fun h => absurd h hr, fun h => absurd (m1.2 fun c h1 h2 => ?_) hr⟩, fun h => absurd h hr⟩
        have := h.2 c (by omega)
        rw [cnt_cons, hin c, decide_eq_true h1, decide_eq_true h2] at this
        cases e : u.getD c false with
        | false => rfl
        | true => rw [e] at this; simp at this; omega
    · rw [if_neg hc]
      refine ⟨⟨fun h => (by cases h), fun h => absurd (h.1 i (Nat.le_refl _) hlt) hc⟩, fun h => (by cases h)⟩
theorem spansOk_iff {l : List Span} : spansOk l = true ↔ ∀ j, j < l.length → spanChk l j = true := by simp [spansOk, okTo]
theorem spansOk_mem {l : List Span} (h : spansOk l = true) : ∀ s ∈ l, spanOk s = true := fun s hs => by
  obtain ⟨i, hi, rfl⟩ := List.getElem_of_mem hs
  have := spanChk_ok (spansOk_iff.1 h i hi)
  rw [show l.getD i (FT.zero .span) = l[i] by simp [List.getD_eq_getElem?_getD, hi]] at this
  exact this
theorem markedF_spec (l : List Span) :
    ((markedF (List.replicate 24 false) l).1 = true ↔ spansOk l = true ∧ ∀ c, c < 24 → cnt l c ≤ 1) ∧
    ((markedF (List.replicate 24 false) l).1 = true → ∀ c, c < 24 → (markedF (List.replicate 24 false) l).2.getD c false = decide (0 < cnt l c)) := by
  obtain ⟨h1, h2⟩ := markedGo_spec l l.length 0 (List.replicate 24 false) (by simp) (by simp)
  refine ⟨⟨fun h => ?_, fun h => h1.2 ⟨fun j _ hj => spansOk_iff.1 h.1 j hj, fun c hc => ?_⟩⟩, fun h c hc => ?_⟩
  · obtain ⟨a1, a2⟩ := h1.1 h
    refine ⟨spansOk_iff.2 fun j hj => a1 j (Nat.zero_le _) hj, fun c hc => ?_⟩
    have := a2 c hc
    rw [rep_getD hc] at this
    simpa using this
  · rw [rep_getD hc]; simpa using h.2 c hc
  · have := h2 h c hc
    rw [rep_getD hc, Bool.false_or] at this
    exact this
theorem ownRun_spec (s : Span) (hs : spanOk s = true) : ∀ (n c : Nat) (u : List Int), n = 24 - c → u.length = 24 → s.at_ ≤ c →
    ∀ j, j < 24 → (ownRun s n c u).getD j 0 = if c ≤ j ∧ inS s j = true then IntKind.i64.wrap (u.getD j 0 + 1) else u.getD j 0
  | 0, c, u, hn, hu, hc => fun j hj => by
    rw [if_neg (by omega)]; rfl
  | n + 1, c, u, hn, hu, hc => fun j hj => by
    have hok := hs
    simp only [spanOk, Bool.and_eq_true, inR_t] at hok
    unfold ownRun
    rw [wrap_id (n := (c : Int) - s.at_) (by omega) (by omega)]
    have hin : inS s j = true ↔ s.at_ ≤ j ∧ (j : Int) ≤ s.at_ + s.len - 1 := by unfold inS; exact inR_t
    by_cases e : (c : Int) - s.at_ < s.len
    · rw [decide_eq_true e, if_pos rfl, ownRun_spec s hs n (c + 1) _ (by omega) (by simpa using hu) (by omega) j hj, getD_set _ _ _ _ _ (by omega)]
      by_cases e2 : c = j
      · subst e2
        rw [if_pos rfl, if_neg (by omega), if_pos ⟨Nat.le_refl _, hin.2 (by omega)⟩]
      · rw [if_neg e2]
        by_cases e3 : c + 1 ≤ j ∧ inS s j = true
        · rw [if_pos e3, if_pos ⟨by omega, e3.2⟩]
        · rw [if_neg e3, if_neg (fun h => e3 ⟨by omega, h.2⟩)]
    · rw [decide_eq_false e, if_neg (by decide), if_neg (fun h => by have := hin.1 h.2; omega)]
theorem ownOne_spec {s : Span} (hs : spanOk s = true) {u : List Int} (hu : u.length = 24) {j : Nat} (hj : j < 24) : (ownOne u s).getD j 0 = if inS s j = true then IntKind.i64.wrap (u.getD j 0 + 1) else u.getD j 0 := by
  have hok := hs
  simp only [spanOk, Bool.and_eq_true, inR_t] at hok
  unfold ownOne
  rw [ownRun_spec s hs _ _ u (by omega) hu (by omega) j hj]
  have hin : inS s j = true → s.at_ ≤ j := fun h => by unfold inS at h; exact (inR_t.1 h).1
  by_cases e : inS s j = true
  · rw [if_pos e, if_pos ⟨by have := hin e; omega, e⟩]
  · rw [if_neg e, if_neg (fun h => e h.2)]
theorem owners_go : ∀ (l : List Span) (u : List Int) (K : Nat), (∀ s ∈ l, spanOk s = true) → u.length = 24 → (∀ j, j < 24 → 0 ≤ u.getD j 0 ∧ u.getD j 0 ≤ K) → K + l.length ≤ 1000000000 →
    ∀ j, j < 24 → (l.foldl ownOne u).getD j 0 = u.getD j 0 + (cnt l j : Int)
  | [], u, K, _, _, _, _ => fun j hj => by simp [cnt]
  | s :: l, u, K, hl, hu, hk, hK => fun j hj => by
    have hs := hl s (by simp)
    have ho : ∀ j, j < 24 → (ownOne u s).getD j 0 = u.getD j 0 + (if inS s j then 1 else 0) := fun j hj => by
      rw [ownOne_spec hs hu hj]
      have := hk j hj
      split
      · simp only [List.length_cons] at hK; exact wrap_id (by omega) (by omega)
      · omega
    rw [List.foldl_cons, owners_go l (ownOne u s) (K + 1) (fun x hx => hl x (by simp [hx])) (by unfold ownOne; rw [ownRun_len]; exact hu) (fun j hj => by
      rw [ho j hj]; have := hk j hj; split <;> omega) (by simp only [List.length_cons] at hK; omega) j hj, ho j hj, cnt_cons]
    split <;> omega
theorem owners_spec {l : List Span} (h : ∀ s ∈ l, spanOk s = true) (hl : l.length ≤ 100000000) {j : Nat} (hj : j < 24) : (owners l).getD j 0 = (cnt l j : Int) := by
  unfold owners
  rw [owners_go l _ 0 h (by simp) (fun j hj => by rw [rep_getD hj]; omega) (by omega) j hj, rep_getD hj]
  omega
theorem owners_len (l : List Span) : (owners l).length = 24 := by
  have key : ∀ (l : List Span) (u : List Int), (l.foldl ownOne u).length = u.length := fun l => by
    induction l with
    | nil => intro u; rfl
    | cons s l ih => intro u; rw [List.foldl_cons, ih]; unfold ownOne; rw [ownRun_len]
  unfold owners; rw [key]; simp
theorem inRaw_eq {s : Span} (hs : spanOk s = true) (c : Nat) : inRaw s c = inS s c := by
  simp only [spanOk, Bool.and_eq_true, inR_t] at hs
  unfold inRaw inS
  rw [wrap_id (n := s.at_ + s.len) (by omega) (by omega), wrap_id (by omega) (by omega)]
theorem inL_eq {l : List Span} (h : ∀ s ∈ l, spanOk s = true) (c : Nat) : inL l c = decide (0 < cnt l c) := by
  unfold inL cnt
  rw [Bool.eq_iff_iff, List.any_eq_true, decide_eq_true_eq, List.countP_pos_iff]
  constructor
  · rintro ⟨s, hs, e⟩; exact ⟨s, hs, by rw [inRaw_eq (h s hs)] at e; exact e⟩
  · rintro ⟨s, hs, e⟩; exact ⟨s, hs, by rw [inRaw_eq (h s hs)]; exact e⟩
theorem cnt_app (a b : List Span) (c : Nat) : cnt (a ++ b) c = cnt a c + cnt b c := by simp [cnt]
def heapOkI (h : Heap) : Bool := memoryOk h.mem && (markedF (List.replicate 24 false) h.waits).1 && (markedF (List.replicate 24 false) h.live).1 &&
  allR (fun c => !((markedF (List.replicate 24 false) h.waits).2.getD c false && (markedF (List.replicate 24 false) h.live).2.getD c false) && ((markedF (List.replicate 24 false) h.waits).2.getD c false == h.mem.gone.getD c false)) 24
def heapOkS (h : Heap) : Bool := memoryOk h.mem && spansOk h.live && spansOk h.waits && allR (fun c => decide ((owners (h.live ++ h.waits)).getD c 0 ≤ 1) && (h.mem.gone.getD c false == inL h.waits c)) 24
theorem heapOkI_eq (h : Heap) : heapOkI h = heapOk h := by
  obtain ⟨w1, w2⟩ := markedF_spec h.waits
  obtain ⟨l1, l2⟩ := markedF_spec h.live
  apply bool_ext
  unfold heapOkI heapOk
  simp only [Bool.and_eq_true, allR_iff]
  constructor
  · rintro ⟨⟨⟨hm, hw⟩, hl⟩, hc⟩
    refine ⟨⟨⟨hm, (l1.1 hl).1⟩, (w1.1 hw).1⟩, fun c hc24 => ?_⟩
    have h1 := (hc c hc24).1
    have h2 := (hc c hc24).2
    rw [w2 hw c hc24] at h1 h2
    rw [l2 hl c hc24] at h1
    have := (l1.1 hl).2 c hc24
    have := (w1.1 hw).2 c hc24
    simp only [Bool.not_eq_true', Bool.and_eq_false_iff, decide_eq_false_iff_not, beq_iff_eq] at h1 h2
    exact ⟨decide_eq_true (by omega), by rw [h2]; simp⟩
  · rintro ⟨⟨⟨hm, hl⟩, hw⟩, hc⟩
    have hb : ∀ c, c < 24 → cnt h.live c + cnt h.waits c ≤ 1 := fun c hc24 => by simpa using (hc c hc24).1
    have hl1 := l1.2 ⟨hl, fun c hc24 => by have := hb c hc24; omega⟩
    have hw1 := w1.2 ⟨hw, fun c hc24 => by have := hb c hc24; omega⟩
    refine ⟨⟨⟨hm, hw1⟩, hl1⟩, fun c hc24 => ?_⟩
    rw [w2 hw1 c hc24, l2 hl1 c hc24]
    have h2 := (hc c hc24).2
    have := hb c hc24
    simp only [beq_iff_eq] at h2
    refine ⟨?_, by rw [h2]; simp⟩
    simp only [Bool.not_eq_true', Bool.and_eq_false_iff, decide_eq_false_iff_not]; omega
theorem heapOkS_eq {h : Heap} (hl : LHeap h 1048576) : heapOkS h = heapOk h := by
  apply bool_ext
  unfold heapOkS heapOk
  simp only [Bool.and_eq_true, allR_iff]
  have key : spansOk h.live = true → spansOk h.waits = true → ∀ c, c < 24 → (decide ((owners (h.live ++ h.waits)).getD c 0 ≤ 1) = decide (cnt h.live c + cnt h.waits c ≤ 1) ∧ inL h.waits c = decide (0 < cnt h.waits c)) := fun a b c hc => by
    refine ⟨?_, inL_eq (spansOk_mem b) c⟩
    rw [owners_spec (fun s hs => by rcases List.mem_append.1 hs with h | h; · exact spansOk_mem a s h
                                    · exact spansOk_mem b s h) (by rw [List.length_append]; have := hl.2.1; have := hl.2.2; omega) hc, cnt_app]
    exact decide_eq_decide.2 (by omega)
  constructor
  · rintro ⟨⟨⟨hm, a⟩, b⟩, hc⟩
    exact ⟨⟨⟨hm, a⟩, b⟩, fun c hc24 => by rw [← (key a b c hc24).1, ← (key a b c hc24).2]; exact hc c hc24⟩
  · rintro ⟨⟨⟨hm, a⟩, b⟩, hc⟩
    exact ⟨⟨⟨hm, a⟩, b⟩, fun c hc24 => by rw [(key a b c hc24).1, (key a b c hc24).2]; exact hc c hc24⟩

def lb_spec_HeapOk_0 : PC := .seq (.seq (.reg [.s (.mv 23 (.t 4)), .s (.bin 24 .lss (.t 23) (.k (.v (.c (.int .i64 24)))))]) (.cond (.t 24) (.skip) (.exit 0))) (.seq (.blk 1 (.seq (.rgd [.s (.mv 27 (.t 3)), .s (.mv 28 (.t 4)), .s (.ia 29 (.int .i64) (.t 27) (.t 28)), .s (.load 30 false 1 (.t 29)), .s (.bin 31 .gtr (.t 30) (.k (.v (.c (.int .i64 1))))), .s (.mv 32 (.t 31)), .g 32 false (some 33) (.fa 33 (.t 1) 0), .g 32 false (some 34) (.fa 34 (.t 33) 1), .g 32 false (some 35) (.load 35 false 1 (.t 34)), .g 32 false (some 36) (.mv 36 (.t 4)), .g 32 false (some 37) (.ia 37 .bool (.t 35) (.t 36)), .g 32 false (some 38) (.load 38 false 1 (.t 37)), .g 32 false (some 39) (.fa 39 (.t 1) 3), .g 32 false (some 40) (.load 40 false 1 (.t 39)), .g 32 false (some 41) (.mv 41 (.t 4)), .g 32 false (some 42) (.call (some 42) 132 [(.t 40), (.t 41)]), .g 32 false (some 43) (.eqs 43 false [.b] true (.t 38) (.t 42)), .s (.pick 44 (.t 32) (.k (.v (.c .tt))) (.t 43))] (.tk 0 (.tk 1 (.tk 2 (.tk 3 (.tk 4 (.tk 5 (.tk 6 (.tk 7 (.tk 8 (.tk 9 (.tk 10 (.tk 11 (.tk 12 (.tk 13 (.tk 14 (.one 15 false (.tk 16 (.tk 17 (.done none)))))))))))))))))))) (.cond (.t 44) (.seq (.reg [.s (.mv 2 (.k (.v (.c .ff))))]) (.ret)) (.skip)))) (.reg [.s (.mv 25 (.t 4)), .s (.bin 26 .add (.t 25) (.k (.v (.c (.int .i64 1))))), .s (.mv 4 (.t 26))]))
def pf_spec_HeapOk : PF := ⟨[.t 2], .seq (.reg [.s (.box 1 (.t 0)), .s (.mv 2 (.k (.v (.c .ff))))]) (.seq (.seq (.reg [.s (.fa 5 (.t 1) 0), .s (.load 6 true 2 (.t 5)), .s (.call (some 7) 122 [(.t 6)]), .s (.bnot 8 (.t 7)), .s (.mv 9 (.t 8)), .g 9 false (some 10) (.fa 10 (.t 1) 2), .g 9 false (some 11) (.load 11 false 1 (.t 10)), .g 9 false (some 12) (.call (some 12) 131 [(.t 11)]), .g 9 false (some 13) (.bnot 13 (.t 12)), .s (.pick 14 (.t 9) (.k (.v (.c .tt))) (.t 13)), .s (.mv 15 (.t 14)), .g 15 false (some 16) (.fa 16 (.t 1) 3), .g 15 false (some 17) (.load 17 false 1 (.t 16)), .g 15 false (some 18) (.call (some 18) 131 [(.t 17)]), .g 15 false (some 19) (.bnot 19 (.t 18)), .s (.pick 20 (.t 15) (.k (.v (.c .tt))) (.t 19))]) (.cond (.t 20) (.seq (.reg [.s (.mv 2 (.k (.v (.c .ff))))]) (.ret)) (.skip))) (.seq (.reg [.s (.load 21 true 4 (.t 1)), .s (.call (some 22) 86 [(.t 21)]), .s (.mv 3 (.t 22))]) (.seq (.seq (.reg [.s (.mv 4 (.k (.v (.c (.int .i64 0)))))]) (.blk 0 (.loop [1, 3, 4] lb_spec_HeapOk_0))) (.seq (.reg [.s (.mv 2 (.k (.v (.c .tt))))]) (.ret)))))⟩
def c_spec_HeapOk : Fun := ⟨87, [], fun ts K => as1 ts fun t0 => arG pHeapT t0 fun t => chk (LHeap t 1048576) (K (tB (heapOk t)) [])⟩
theorem run_spec_HeapOk (t : Heap) (hpre : LHeap t 1048576) : runK [c_spec_l23Owners, c_spec_MemoryOk, c_spec_l23Spans, c_spec_l23In] (30) [] pf_spec_HeapOk [tG (t.tc false [])] fun r o => r = tB (heapOk t) ∧ o = [] := by
  rw [← heapOkS_eq hpre]
  have l2 := hpre.2.1
  have l3 := hpre.2.2
  conv => whnf
  repeat' (first | (refine sel_i (fun h => ?_) (fun h => ?_) <;> conv => whnf) | (refine chk_c ?_ ?_ <;> conv => whnf) | (refine And.intro ?_ rfl) | (refine And.intro ?_ ?_ <;> conv => whnf))
  all_goals (try simp only [etaMemory, etaHeap, Bool.not_eq_true', Bool.not_eq_false'] at *)
  all_goals first
    | (refine ⟨?_⟩; assumption)
    | (refine ⟨?_⟩; omega)
    | (simp only [heapOkS, *, Bool.false_and, Bool.and_false]; done)
    | skip
  rename_i h1 h2
  have hm : memoryOk t.mem = true := by assumption
  obtain ⟨m1, m2, m3⟩ := memoryOk_n hm
  have hol := owners_len (t.live ++ t.waits)
  have hh : heapOkS t = allR (fun c => decide ((owners (t.live ++ t.waits)).getD c 0 ≤ 1) && (t.mem.gone.getD c false == inL t.waits c)) 24 := by
    simp only [heapOkS, *, Bool.true_and]
  rw [hh]
  clear hh
  generalize owners (t.live ++ t.waits) = ow at *
  refine loop (α := Nat) (fun c => ⟨[(1, .v (.c (.ptr 0 0))), (3, .v (.c (.sl false (.int .i64) 5))), (4, .v (.c (.int .i64 (c : Int))))],
        [(5, some (.flat true (.int .i64) none ow)), (4, some (.flat false .span none t.waits)), (3, some (.flat false .span none t.live)), (2, some (.flat false .bool none t.mem.gone)), (1, some (.flat false .word none t.mem.words)), (0, some (.box true [.sl false .word 1, .sl false .bool 2, .sl false .span 3, .sl false .span 4]))], nums.tail.tail.tail.tail.tail.tail, [], false, []⟩)
      (fun c => c ≤ 24 ∧ allR (fun c => decide (ow.getD c 0 ≤ 1) && (t.mem.gone.getD c false == inL t.waits c)) c = true) (fun c => 24 - c) (fun c R hI hR => ?_) 0 _ ⟨by simp, rfl⟩ (by omega)
  obtain ⟨hc, hx⟩ := hI
  conv => whnf
  repeat' (first | (refine sel_i (fun h => ?_) (fun h => ?_) <;> conv => whnf) | (refine chk_c ?_ ?_ <;> conv => whnf) | (refine And.intro ?_ rfl) | (refine And.intro ?_ ?_ <;> conv => whnf))
  all_goals (try simp only [etaMemory, etaHeap, Int.toNat_natCast, Bool.not_eq_true', Bool.not_eq_false', decide_eq_true_eq, decide_eq_false_iff_not] at *)
  all_goals first
    | (refine ⟨?_⟩; omega)
    | skip
  · have h' : ow.getD c 0 > 1 := h
    rw [allR_no (i := c) (by omega) (by rw [decide_eq_false (show ¬ ow.getD c 0 ≤ 1 by omega)]; rfl)]
  · have h' : (t.mem.gone.getD c false == inL t.waits c) = false := h
    rw [allR_no (i := c) (by omega) (by rw [h', Bool.and_false])]
  · rename_i g1 g2
    have h' : (t.mem.gone.getD c false == inL t.waits c) = true := h
    have g' : ¬ ow.getD c 0 > 1 := g2
    rw [wrap_id (n := (c : Int) + 1) (by omega) (by omega)]
    exact hR (c + 1) ⟨by omega, allR_yes hx (by rw [decide_eq_true (show ow.getD c 0 ≤ 1 by omega), h']; rfl)⟩ (by omega)
  · rw [show 24 = c by omega, hx]
theorem ok_spec_HeapOk : FunOk Try.prog c_spec_HeapOk := funOk (E := [c_spec_l23Owners, c_spec_MemoryOk, c_spec_l23Spans, c_spec_l23In]) (envOk_cons ok_spec_l23Owners (envOk_cons ok_spec_MemoryOk (envOk_cons ok_spec_l23Spans (envOk_cons ok_spec_l23In (envOk_nil))))) mixd Try.func87 (pf := pf_spec_HeapOk) (by kernel_rfl) fun ts K h => by
  obtain ⟨t0, e0, h⟩ := as1_out h
  subst e0
  obtain ⟨t, e1, hq⟩ := arG_out rd_heap h
  clear h
  subst e1
  have h := hq
  clear hq
  obtain ⟨hpre, h⟩ := chk_o h
  exact ⟨_, _, h, Nat.le_of_ble_eq_true (show Nat.ble 1 Try.f87.ntmps = true by kernel_rfl), _, run_spec_HeapOk t hpre⟩

def lb_impl_HeapOk_0 : PC := .seq (.reg [.s (.bin 30 .lss (.t 29) (.t 28))]) (.seq (.cond (.t 30) (.skip) (.exit 0)) (.seq (.blk 1 (.seq (.reg [.s (.mv 31 (.t 29)), .s (.ia 32 .bool (.t 27) (.t 29)), .s (.load 33 false 1 (.t 32)), .s (.mv 5 (.t 31)), .s (.mv 6 (.t 33))]) (.seq (.reg [.s (.mv 34 (.t 6)), .s (.mv 35 (.t 34)), .g 35 true (some 36) (.mv 36 (.t 4)), .g 35 true (some 37) (.mv 37 (.t 5)), .g 35 true (some 38) (.ia 38 .bool (.t 36) (.t 37)), .g 35 true (some 39) (.load 39 false 1 (.t 38)), .s (.pick 40 (.t 35) (.t 39) (.k (.v (.c .ff)))), .s (.mv 41 (.t 40)), .g 41 false (some 42) (.mv 42 (.t 6)), .g 41 false (some 43) (.fa 43 (.t 1) 0), .g 41 false (some 44) (.fa 44 (.t 43) 1), .g 41 false (some 45) (.load 45 false 1 (.t 44)), .g 41 false (some 46) (.mv 46 (.t 5)), .g 41 false (some 47) (.ia 47 .bool (.t 45) (.t 46)), .g 41 false (some 48) (.load 48 false 1 (.t 47)), .g 41 false (some 49) (.eqs 49 false [.b] true (.t 42) (.t 48)), .s (.pick 50 (.t 41) (.k (.v (.c .tt))) (.t 49))]) (.cond (.t 50) (.seq (.reg [.s (.mv 2 (.k (.v (.c .ff))))]) (.ret)) (.skip))))) (.reg [.s (.bin 51 .add (.t 29) (.k (.v (.c (.int .i64 1))))), .s (.mv 29 (.t 51))])))
def pf_impl_HeapOk : PF := ⟨[.t 2], .seq (.reg [.s (.box 1 (.t 0)), .s (.mv 2 (.k (.v (.c .ff))))]) (.seq (.rgd [.s (.mkS 7 .bool (.k (.v (.c (.int .i64 24))))), .s (.mkS 8 .bool (.k (.v (.c (.int .i64 24))))), .s (.mv 3 (.t 7)), .s (.mv 4 (.t 8))] (.alt 0 false (.tk 2 (.one 1 true (.tk 3 (.done (some [1, 3, 4]))))) (.alt 1 false (.one 0 true (.tk 2 (.tk 3 (.done (some [1, 3, 4]))))) (.nil)))) (.seq (.seq (.reg [.s (.fa 9 (.t 1) 0), .s (.load 10 true 2 (.t 9)), .s (.call (some 11) 125 [(.t 10)]), .s (.bnot 12 (.t 11)), .s (.mv 13 (.t 12)), .g 13 false (some 14) (.mv 14 (.t 3)), .g 13 false (some 15) (.fa 15 (.t 1) 3), .g 13 false (some 16) (.load 16 false 1 (.t 15)), .g 13 false (some 17) (.call (some 17) 134 [(.t 14), (.t 16)]), .g 13 false (some 18) (.bnot 18 (.t 17)), .s (.pick 19 (.t 13) (.k (.v (.c .tt))) (.t 18)), .s (.mv 20 (.t 19)), .g 20 false (some 21) (.mv 21 (.t 4)), .g 20 false (some 22) (.fa 22 (.t 1) 2), .g 20 false (some 23) (.load 23 false 1 (.t 22)), .g 20 false (some 24) (.call (some 24) 134 [(.t 21), (.t 23)]), .g 20 false (some 25) (.bnot 25 (.t 24)), .s (.pick 26 (.t 20) (.k (.v (.c .tt))) (.t 25))]) (.cond (.t 26) (.seq (.reg [.s (.mv 2 (.k (.v (.c .ff))))]) (.ret)) (.skip))) (.seq (.seq (.reg [.s (.mv 27 (.t 3)), .s (.len 28 false (.t 27)), .s (.mv 29 (.k (.v (.c (.int .i64 0)))))]) (.blk 0 (.loop [1, 4, 27, 28, 29] lb_impl_HeapOk_0))) (.seq (.reg [.s (.mv 2 (.k (.v (.c .tt))))]) (.ret)))))⟩
def c_impl_HeapOk : Fun := ⟨89, [], fun ts K => as1 ts fun t0 => arG pHeapT t0 fun t => chk (LHeap t 1048576) (K (tB (heapOk t)) [])⟩
theorem run_impl_HeapOk (t : Heap) (hpre : LHeap t 1048576) : runK [c_impl_MemoryOk, c_impl_marked] (30) [] pf_impl_HeapOk [tG (t.tc false [])] fun r o => r = tB (heapOk t) ∧ o = [] := by
  rw [← heapOkI_eq]
  have l2 := hpre.2.1
  have l3 := hpre.2.2
  have lm : LMem t.mem 2147483647 := (hpre.mono (by decide)).1
  have hwl : (markedF (List.replicate 24 false) t.waits).2.length = 24 := by unfold markedF; rw [markedGo_len]; simp
  have hll : (markedF (List.replicate 24 false) t.live).2.length = 24 := by unfold markedF; rw [markedGo_len]; simp
  have hmi : heapOkI t = (memoryOk t.mem && (markedF (List.replicate 24 false) t.waits).1 && (markedF (List.replicate 24 false) t.live).1 && allR (fun c => !((markedF (List.replicate 24 false) t.waits).2.getD c false && (markedF (List.replicate 24 false) t.live).2.getD c false) && ((markedF (List.replicate 24 false) t.waits).2.getD c false == t.mem.gone.getD c false)) 24) := rfl
  rw [hmi]
  clear hmi
  conv => whnf
  repeat' (first | (refine sel_i (fun h => ?_) (fun h => ?_) <;> conv => whnf) | (refine chk_c ?_ ?_ <;> conv => whnf) | (refine And.intro ?_ rfl) | (refine And.intro ?_ ?_ <;> conv => whnf))
  all_goals (try simp only [etaMemory, etaHeap, Bool.not_eq_true', Bool.not_eq_false', show Int.toNat 24 = 24 from rfl, show FT.zero .bool = false from rfl, List.length_replicate] at *)
  all_goals generalize markedF (List.replicate 24 false) t.waits = W at *
  all_goals generalize markedF (List.replicate 24 false) t.live = L at *
  all_goals first
    | (refine ⟨?_⟩; assumption)
    | (refine ⟨?_⟩; omega)
    | (refine ⟨?_⟩; exact ⟨trivial, trivial⟩)
    | (refine ⟨?_⟩; exact ⟨by omega, trivial⟩)
    | (simp only [*, Bool.false_and, Bool.and_false]; done)
    | skip
  have hm : memoryOk t.mem = true := by assumption
  obtain ⟨m1, m2, m3⟩ := memoryOk_n hm
  rename_i g1 g2
  rw [hm, g2, h, Bool.true_and, Bool.true_and, Bool.true_and]
  refine loop (α := Nat) (fun c => ⟨[(1, .v (.c (.ptr 0 0))), (4, .v (.c (.sl true .bool 5))), (27, .v (.c (.sl true .bool 6))), (28, .v (.c (.int .i64 (W.2.length : Int)))), (29, .v (.c (.int .i64 (c : Int))))],
        [(6, some (.flat true .bool none W.2)), (5, some (.flat true .bool none L.2)), (4, some (.flat false .span none t.waits)), (3, some (.flat false .span none t.live)), (2, some (.flat false .bool none t.mem.gone)), (1, some (.flat false .word none t.mem.words)), (0, some (.box true [.sl false .word 1, .sl false .bool 2, .sl false .span 3, .sl false .span 4]))], nums.tail.tail.tail.tail.tail.tail.tail, [], false, []⟩)
      (fun c => c ≤ 24 ∧ allR (fun c => !(W.2.getD c false && L.2.getD c false) && (W.2.getD c false == t.mem.gone.getD c false)) c = true) (fun c => 24 - c) (fun c R hI hR => ?_) 0 _ ⟨by simp, rfl⟩ (by omega)
  obtain ⟨hc, hx⟩ := hI
  conv => whnf
  repeat' (first | (refine sel_i (fun h => ?_) (fun h => ?_) <;> conv => whnf) | (refine chk_c ?_ ?_ <;> conv => whnf) | (refine And.intro ?_ rfl) | (refine And.intro ?_ ?_ <;> conv => whnf))
  all_goals (try simp only [etaMemory, etaHeap, show FT.zero .bool = false from rfl, Int.toNat_natCast, Bool.not_eq_true', Bool.not_eq_false', decide_eq_true_eq, decide_eq_false_iff_not] at *)
  all_goals first
    | (refine ⟨?_⟩; omega)
    | (rw [allR_no (i := c) (by omega) (by rw [h, Bool.and_false])]; done)
    | (rw [allR_no (i := c) (by omega) (by simp only [*]; rfl)]; done)
    | (rw [wrap_id (n := (c : Int) + 1) (by omega) (by omega)]
       exact hR (c + 1) ⟨by omega, allR_yes hx (by rw [h, Bool.and_true]; simp only [*]; rfl)⟩ (by omega))
    | (rw [show 24 = c by omega, hx]; done)
    | (rw [show 24 = c by omega]; rw [hx]; done)
    | (rw [show 24 = c by omega, hx]; done)
    | trace_state
theorem ok_impl_HeapOk : FunOk Try.prog c_impl_HeapOk := funOk (E := [c_impl_MemoryOk, c_impl_marked]) (envOk_cons ok_impl_MemoryOk (envOk_cons ok_impl_marked (envOk_nil))) mixd Try.func89 (pf := pf_impl_HeapOk) (by kernel_rfl) fun ts K h => by
  obtain ⟨t0, e0, h⟩ := as1_out h
  subst e0
  obtain ⟨t, e1, hq⟩ := arG_out rd_heap h
  clear h
  subst e1
  have h := hq
  clear hq
  obtain ⟨hpre, h⟩ := chk_o h
  exact ⟨_, _, h, Nat.le_of_ble_eq_true (show Nat.ble 1 Try.f89.ntmps = true by kernel_rfl), _, run_impl_HeapOk t hpre⟩

def plainW (n : Int) : Word := ⟨andI n 65535, false, ⟨0, 0, 0, 0⟩⟩
def gonB (g : List Bool) (w : Word) : Bool := w.is && inR w.key.base 0 (g.length - 1) && g.getD w.key.base.toNat false
def filterW (g : List Bool) (w : Word) : Word := if gonB g w then plainW w.n else w

def pf_spec_Plain : PF := ⟨[.c 2 true 6], .seq (.reg [.s (.alloc 2 [.int .i64 0, .ff, .int .i64 0, .int .i64 0, .int .i64 0, .int .i64 0])]) (.seq (.reg [.s (.mv 3 (.t 0)), .s (.bin 4 .and (.t 3) (.k (.v (.c (.int .i64 65535))))), .s (.build 5 [.int .i64 0, .ff, .int .i64 0, .int .i64 0, .int .i64 0, .int .i64 0] [(0, 1, (.t 4))]), .s (.store 6 (.t 2) (.t 5))]) (.ret))⟩
def c_spec_Plain : Fun := ⟨142, [], fun ts K => as1 ts fun t0 => arC (pI .i64) t0 fun n => K (tG ((plainW n).tc [])) []⟩
theorem run_spec_Plain (n : Int) : runK [] (0) [] pf_spec_Plain [tI .i64 n] fun r o => r = tG ((plainW n).tc []) ∧ o = [] := by
  conv => whnf
  repeat' (first
    | exact rfl
    | exact trivial
    | (refine sel_i (fun h => ?_) (fun h => ?_) <;> conv => whnf)
    | (refine chk_c ?_ ?_ <;> conv => whnf)
    | (refine And.intro ?_ ?_ <;> conv => whnf))
theorem ok_spec_Plain : FunOk Try.prog c_spec_Plain := funOk (E := []) (envOk_nil) mixd Try.func142 (pf := pf_spec_Plain) (by kernel_rfl) fun ts K h => by
  obtain ⟨t0, e0, h⟩ := as1_out h
  subst e0
  obtain ⟨n, e1, hq⟩ := arC_out (rd_int .i64) h
  clear h
  subst e1
  have h := hq
  clear hq
  exact ⟨_, _, h, Nat.le_of_ble_eq_true (show Nat.ble 1 Try.f142.ntmps = true by kernel_rfl), _, run_spec_Plain n⟩

def pf_impl_Plain : PF := ⟨[.c 2 true 6], .seq (.reg [.s (.alloc 2 [.int .i64 0, .ff, .int .i64 0, .int .i64 0, .int .i64 0, .int .i64 0])]) (.seq (.reg [.s (.mv 3 (.t 0)), .s (.bin 4 .and (.t 3) (.k (.v (.c (.int .i64 65535))))), .s (.build 5 [.int .i64 0, .ff, .int .i64 0, .int .i64 0, .int .i64 0, .int .i64 0] [(0, 1, (.t 4))]), .s (.store 6 (.t 2) (.t 5))]) (.ret))⟩
def c_impl_Plain : Fun := ⟨144, [], fun ts K => as1 ts fun t0 => arC (pI .i64) t0 fun n => K (tG ((plainW n).tc [])) []⟩
theorem run_impl_Plain (n : Int) : runK [] (0) [] pf_impl_Plain [tI .i64 n] fun r o => r = tG ((plainW n).tc []) ∧ o = [] := by
  conv => whnf
  repeat' (first
    | exact rfl
    | exact trivial
    | (refine sel_i (fun h => ?_) (fun h => ?_) <;> conv => whnf)
    | (refine chk_c ?_ ?_ <;> conv => whnf)
    | (refine And.intro ?_ ?_ <;> conv => whnf))
theorem ok_impl_Plain : FunOk Try.prog c_impl_Plain := funOk (E := []) (envOk_nil) mixd Try.func144 (pf := pf_impl_Plain) (by kernel_rfl) fun ts K h => by
  obtain ⟨t0, e0, h⟩ := as1_out h
  subst e0
  obtain ⟨n, e1, hq⟩ := arC_out (rd_int .i64) h
  clear h
  subst e1
  have h := hq
  clear hq
  exact ⟨_, _, h, Nat.le_of_ble_eq_true (show Nat.ble 1 Try.f144.ntmps = true by kernel_rfl), _, run_impl_Plain n⟩

def pf_impl_cloneHeap : PF := ⟨[.c 2 true 4], .seq (.reg [.s (.box 1 (.t 0)), .s (.alloc 2 [.nils .word, .nils .bool, .nils .span, .nils .span])]) (.seq (.rgd [.s (.fa 3 (.t 1) 0), .s (.load 4 true 2 (.t 3)), .s (.call (some 5) 138 [(.t 4)]), .s (.fa 6 (.t 1) 2), .s (.load 7 false 1 (.t 6)), .s (.call (some 8) 139 [(.t 7)]), .s (.fa 9 (.t 1) 3), .s (.load 10 false 1 (.t 9)), .s (.call (some 11) 139 [(.t 10)]), .s (.build 12 [.nils .word, .nils .bool, .nils .span, .nils .span] [(0, 2, (.t 5)), (2, 1, (.t 8)), (3, 1, (.t 11))]), .s (.store 4 (.t 2) (.t 12))] (.tk 0 (.tk 1 (.tk 3 (.tk 4 (.tk 6 (.tk 7 (.one 2 false (.one 5 false (.one 8 true (.tk 9 (.one 10 true (.done none))))))))))))) (.ret))⟩
def c_impl_cloneHeap : Fun := ⟨94, [], fun ts K => as1 ts fun t0 => arG pHeapT t0 fun t => chk (LHeap t 2147483647) (K (tG (t.tc true [])) [])⟩
theorem run_impl_cloneHeap (t : Heap) (hpre : LHeap t 2147483647) : runK [c_impl_cloneMemory, c_slices_Clone_Span] (0) [] pf_impl_cloneHeap [tG (t.tc false [])] fun r o => r = tG (t.tc true []) ∧ o = [] := by
  obtain ⟨⟨l1, l4⟩, l2, l3⟩ := hpre
  conv => whnf
  repeat' (first | (refine chk_c ?_ ?_ <;> conv => whnf) | (refine And.intro ?_ ?_ <;> conv => whnf))
  all_goals first
    | (refine ⟨?_⟩; omega)
    | (refine ⟨?_⟩; simp; done)
    | (refine ⟨?_⟩; simp [LMem, LTwo] at *; omega)
    | rfl
    | exact True.intro
    | exact ⟨rfl, rfl⟩
theorem ok_impl_cloneHeap : FunOk Try.prog c_impl_cloneHeap := funOk (E := [c_impl_cloneMemory, c_slices_Clone_Span]) (envOk_cons ok_impl_cloneMemory (envOk_cons ok_slices_Clone_Span (envOk_nil))) mixd Try.func94 (pf := pf_impl_cloneHeap) (by kernel_rfl) fun ts K h => by
  obtain ⟨t0, e0, h⟩ := as1_out h
  subst e0
  obtain ⟨t, e1, hq⟩ := arG_out rd_heap h
  clear h
  subst e1
  have h := hq
  clear hq
  obtain ⟨hpre, h⟩ := chk_o h
  exact ⟨_, _, h, Nat.le_of_ble_eq_true (show Nat.ble 1 Try.f94.ntmps = true by kernel_rfl), _, run_impl_cloneHeap t hpre⟩

def pf_spec_l23Copy : PF := ⟨[.c 2 true 4], .seq (.reg [.s (.box 1 (.t 0)), .s (.alloc 2 [.nils .word, .nils .bool, .nils .span, .nils .span])]) (.seq (.rgd [.s (.fa 3 (.t 1) 0), .s (.load 4 true 2 (.t 3)), .s (.call (some 5) 137 [(.t 4)]), .s (.bs 6 .span []), .s (.fa 7 (.t 1) 2), .s (.load 8 false 1 (.t 7)), .s (.app 9 .span (.t 6) (.t 8)), .s (.bs 10 .span []), .s (.fa 11 (.t 1) 3), .s (.load 12 false 1 (.t 11)), .s (.app 13 .span (.t 10) (.t 12)), .s (.build 14 [.nils .word, .nils .bool, .nils .span, .nils .span] [(0, 2, (.t 5)), (2, 1, (.t 9)), (3, 1, (.t 13))]), .s (.store 4 (.t 2) (.t 14))] (.tk 0 (.tk 1 (.tk 4 (.tk 5 (.tk 8 (.tk 9 (.alt 2 false (.alt 3 false (.alt 6 false (.one 7 false (.one 10 true (.tk 11 (.one 12 true (.done (some [2])))))) (.alt 7 false (.one 6 false (.one 10 true (.tk 11 (.one 12 true (.done (some [2])))))) (.nil))) (.alt 7 false (.one 3 false (.one 6 false (.one 10 true (.tk 11 (.one 12 true (.done (some [2]))))))) (.nil))) (.alt 3 false (.alt 2 false (.alt 6 false (.one 7 false (.one 10 true (.tk 11 (.one 12 true (.done (some [2])))))) (.alt 7 false (.one 6 false (.one 10 true (.tk 11 (.one 12 true (.done (some [2])))))) (.nil))) (.alt 7 false (.one 2 false (.one 6 false (.one 10 true (.tk 11 (.one 12 true (.done (some [2]))))))) (.nil))) (.alt 7 false (.alt 2 false (.one 3 false (.one 6 false (.one 10 true (.tk 11 (.one 12 true (.done (some [2]))))))) (.alt 3 false (.one 2 false (.one 6 false (.one 10 true (.tk 11 (.one 12 true (.done (some [2]))))))) (.nil))) (.nil))))))))))) (.ret))⟩
def c_spec_l23Copy : Fun := ⟨92, [], fun ts K => as1 ts fun t0 => arG pHeapT t0 fun t => chk (LHeap t 2147483647) (K (tG (t.tc true [])) [])⟩
theorem run_spec_l23Copy (t : Heap) (hpre : LHeap t 2147483647) : runK [c_spec_l8Copy] (0) [] pf_spec_l23Copy [tG (t.tc false [])] fun r o => r = tG (t.tc true []) ∧ o = [] := by
  obtain ⟨⟨l1, l4⟩, l2, l3⟩ := hpre
  conv => whnf
  repeat' (first | (refine chk_c ?_ ?_ <;> conv => whnf) | (refine And.intro ?_ ?_ <;> conv => whnf))
  all_goals first
    | (refine ⟨?_⟩; omega)
    | (refine ⟨?_⟩; simp; done)
    | (refine ⟨?_⟩; simp [LMem, LTwo] at *; omega)
    | rfl
    | exact True.intro
    | exact ⟨rfl, rfl⟩
theorem ok_spec_l23Copy : FunOk Try.prog c_spec_l23Copy := funOk (E := [c_spec_l8Copy]) (envOk_cons ok_spec_l8Copy (envOk_nil)) mixd Try.func92 (pf := pf_spec_l23Copy) (by kernel_rfl) fun ts K h => by
  obtain ⟨t0, e0, h⟩ := as1_out h
  subst e0
  obtain ⟨t, e1, hq⟩ := arG_out rd_heap h
  clear h
  subst e1
  have h := hq
  clear hq
  obtain ⟨hpre, h⟩ := chk_o h
  exact ⟨_, _, h, Nat.le_of_ble_eq_true (show Nat.ble 1 Try.f92.ntmps = true by kernel_rfl), _, run_spec_l23Copy t hpre⟩

theorem keep_mid {α : Type} {m a : List α} {i : Nat} (h : m.length = a.length) (hi : i < a.length) (hx : m[i]? = a[i]?) : m.take i ++ a.drop i = m.take (i + 1) ++ a.drop (i + 1) := by
  rw [List.drop_eq_getElem_cons hi, List.take_add_one, hx, List.getElem?_eq_getElem hi]
  simp
def cleanW (g : List Bool) (ws : List Word) : List Word := (List.range 24).map (fun c => if g.getD c false then ⟨0, false, ⟨0, 0, 0, 0⟩⟩ else filterW g (ws.getD c (FT.zero .word)))
theorem cleanW_len (g : List Bool) (ws : List Word) : (cleanW g ws).length = 24 := by simp [cleanW]
theorem cleanW_yes {g : List Bool} {ws : List Word} {c : Nat} (h : c < 24) (hg : g.getD c false = true) : (cleanW g ws)[c]? = some ⟨0, false, ⟨0, 0, 0, 0⟩⟩ := by
  unfold cleanW
  rw [List.getElem?_map, List.getElem?_range h, Option.map_some, if_pos hg]
theorem cleanW_no {g : List Bool} {ws : List Word} {c : Nat} (h : c < 24) (hg : g.getD c false = false) : (cleanW g ws)[c]? = some (filterW g (ws.getD c (FT.zero .word))) := by
  unfold cleanW
  rw [List.getElem?_map, List.getElem?_range h, Option.map_some, if_neg (by rw [hg]; decide)]
theorem map_getD {α β : Type} {f : α → β} {xs : List α} {i : Nat} (z : α) (h : i < xs.length) : (xs.map f)[i]? = some (f (xs.getD i z)) := by
  rw [List.getElem?_map, List.getElem?_eq_getElem h, Option.map_some, List.getD_eq_getElem?_getD, List.getElem?_eq_getElem h, Option.getD_some]
def clean (h : Heap) (rs : List Word) : Heap × List Word := if heapOk h then (⟨⟨cleanW h.mem.gone h.mem.words, List.replicate 24 false⟩, h.live, []⟩, rs.map (filterW h.mem.gone)) else (h, rs)
theorem clean_no {h : Heap} {rs : List Word} (k : heapOk h = false) : clean h rs = (h, rs) := by simp [clean, k]
theorem clean_yes {h : Heap} {rs : List Word} (k : heapOk h = true) : clean h rs = (⟨⟨cleanW h.mem.gone h.mem.words, List.replicate 24 false⟩, h.live, []⟩, rs.map (filterW h.mem.gone)) := by simp [clean, k]
theorem heapOk_mem {h : Heap} (k : heapOk h = true) : memoryOk h.mem = true := by
  simp only [heapOk, Bool.and_eq_true] at k; exact k.1.1.1
theorem plainW_0 : plainW 0 = ⟨0, false, ⟨0, 0, 0, 0⟩⟩ := by decide
theorem heapOk_gone {h : Heap} (k : heapOk h = true) {c : Nat} (hc : c < 24) : inL h.waits (c : Int) = h.mem.gone.getD c false := by
  simp only [heapOk, Bool.and_eq_true, allR_iff] at k
  have h1 := (k.2 c hc).2
  rw [inL_eq (spansOk_mem k.1.2)]
  simp only [beq_iff_eq] at h1
  exact h1.symm

theorem szHeap_n2 {h : Heap} {k : Int} (h0 : k ≤ 1048576) (hh : 0 ≤ szHeapI h k) : LHeap h 1048576 ∧ szHeapI h k ≤ 1048576 := by
  obtain ⟨h1, h2, e1⟩ := szB_pos hh
  obtain ⟨h3, h4, e2⟩ := szB_pos h2
  have h5 := szMem_n h0 h1; have h6 := szr_n h3; have h7 := szr_n h4
  have e3 : szHeapI h k = szr (szr (szMem h.mem k) h.live.length) h.waits.length := e1.trans e2
  exact ⟨⟨h5.1, by omega, by omega⟩, by omega⟩
theorem clean_len {h : Heap} {rs : List Word} (l : LHeap h 1048576) (lr : rs.length ≤ 1048576) : LHeap (clean h rs).1 1048576 ∧ (clean h rs).2.length ≤ 1048576 := by
  unfold clean
  split
  · refine ⟨⟨⟨?_, ?_⟩, l.2.1, Nat.zero_le _⟩, by simpa using lr⟩
    · show (cleanW _ _).length ≤ _; rw [cleanW_len]; decide
    · show (List.replicate 24 false).length ≤ _; simp
  · exact ⟨l, lr⟩

theorem andI_mask {q p : Int} (h : 0 ≤ p ∧ p ≤ 63) : (andI q p = p) ↔ (IntKind.i64.wrap (BitVec.ofInt IntKind.i64.bits p &&& ~~~ BitVec.ofInt IntKind.i64.bits q).toNat = 0) := by
  obtain ⟨m, rfl⟩ := Int.eq_ofNat_of_zero_le h.1
  have hy : (BitVec.ofInt IntKind.i64.bits (m : Int)).toNat = m := by
    rw [BitVec.ofInt_natCast, BitVec.toNat_ofNat]; exact Nat.mod_eq_of_lt (by show m < 2 ^ 64; omega)
  unfold andI
  generalize BitVec.ofInt IntKind.i64.bits (m : Int) = y at *
  generalize BitVec.ofInt IntKind.i64.bits q = x at *
  have h1 : (x &&& y).toNat ≤ y.toNat := by rw [BitVec.toNat_and]; exact Nat.and_le_right
  have h2 : (y &&& ~~~ x).toNat ≤ y.toNat := by rw [BitVec.toNat_and]; exact Nat.and_le_left
  have h3 : y.toNat ≤ 63 := by omega
  rw [wrap_id (by omega) (by omega), wrap_id (by omega) (by omega)]
  have e1 : (((x &&& y).toNat : Nat) : Int) = (m : Int) ↔ x &&& y = y := by
    rw [← hy, ← BitVec.toNat_inj]; omega
  have e2 : (((y &&& ~~~ x).toNat : Nat) : Int) = 0 ↔ y &&& ~~~ x = 0#_ := by
    rw [← BitVec.toNat_inj]; simp
  rw [e1, e2]
  constructor
  · intro h
    rw [← h]
    apply BitVec.eq_of_getLsbD_eq
    intro i hi
    simp only [BitVec.getLsbD_and, BitVec.getLsbD_not, BitVec.getLsbD_zero]
    cases x.getLsbD i <;> cases y.getLsbD i <;> simp
  · intro h
    apply BitVec.eq_of_getLsbD_eq
    intro i hi
    have := congrArg (fun v => v.getLsbD i) h
    simp only [BitVec.getLsbD_and, BitVec.getLsbD_not, BitVec.getLsbD_zero, hi, decide_true, Bool.true_and] at this ⊢
    cases hx : x.getLsbD i <;> cases hyy : y.getLsbD i <;> simp_all
def tryW (w : Word) (n p : Int) : Int := if w.is = false ∨ wordOk w = false then 1 else if w.key.sealed ≠ 0 then 2 else if andI w.key.perms p ≠ p then 3 else if n < w.key.base ∨ w.key.top ≤ n then 4 else 0
def takenW (y w : Word) : Word := if andI y.key.perms 8 = 0 then plainW w.n else w
def mayPut (y w : Word) : Bool := !w.is || andI y.key.perms 16 != 0
def openW (w : Word) : Bool := wordOk w && w.is && w.key.sealed == 0
theorem openW_is {w : Word} (h : openW w = true) : w.is = true := by simp only [openW, Bool.and_eq_true] at h; exact h.1.2
def weakenW (w : Word) (m : Int) : Word := if openW w then { w with key := { w.key with perms := andI w.key.perms (andI m 63) } } else plainW w.n
def narrowW (w : Word) (n : Int) : Word :=
  if openW w && inR n 0 4096 && boundsOk w.n (IntKind.i64.wrap (w.n + n)) then
    (if (wide w.n (IntKind.i64.wrap (w.n + n))).1 < w.key.base ∨ w.key.top < (wide w.n (IntKind.i64.wrap (w.n + n))).2 then plainW w.n else { w with key := { w.key with base := (wide w.n (IntKind.i64.wrap (w.n + n))).1, top := (wide w.n (IntKind.i64.wrap (w.n + n))).2 } })
  else plainW w.n
def pointW (w : Word) (n : Int) : Word := if openW w then ⟨andI n 65535, true, w.key⟩ else plainW n
def sealsB (y : Word) : Bool := openW y && (andI y.key.perms 32 != 0) && decide (y.key.base ≤ y.n) && decide (y.n < y.key.top) && inR y.n 1 7
def sealBy (w y : Word) : Word := if openW w && sealsB y then { w with key := { w.key with sealed := y.n } } else plainW w.n
def openBy (w y : Word) : Word := if wordOk w && w.is && sealsB y && w.key.sealed == y.n then { w with key := { w.key with sealed := 0 } } else plainW w.n

theorem narrow_no {w : Word} {n : Int} (h : ¬ (openW w = true ∧ (0 ≤ n ∧ n ≤ 4096) ∧ boundsOk w.n (IntKind.i64.wrap (w.n + n)) = true)) : narrowW w n = plainW w.n := by
  unfold narrowW
  rw [if_neg]
  intro hh
  simp only [Bool.and_eq_true, inR_t] at hh
  exact h ⟨hh.1.1, hh.1.2, hh.2⟩
theorem narrow_yes {w : Word} {n : Int} (h : openW w = true ∧ (0 ≤ n ∧ n ≤ 4096) ∧ boundsOk w.n (IntKind.i64.wrap (w.n + n)) = true) : narrowW w n = if (wide w.n (IntKind.i64.wrap (w.n + n))).1 < w.key.base ∨ w.key.top < (wide w.n (IntKind.i64.wrap (w.n + n))).2 then plainW w.n else { w with key := { w.key with base := (wide w.n (IntKind.i64.wrap (w.n + n))).1, top := (wide w.n (IntKind.i64.wrap (w.n + n))).2 } } := by
  unfold narrowW
  rw [if_pos]
  simp only [Bool.and_eq_true, inR_t]
  exact ⟨⟨h.1, h.2.1⟩, h.2.2⟩

def lb_slices_Index_byte_0 : PC := .seq (.reg [.s (.bin 9 .lss (.t 8) (.t 7))]) (.seq (.cond (.t 9) (.skip) (.exit 0)) (.seq (.blk 1 (.seq (.reg [.s (.mv 10 (.t 8)), .s (.mv 5 (.t 10))]) (.seq (.reg [.s (.mv 11 (.t 1)), .s (.mv 12 (.t 0)), .s (.mv 13 (.t 5)), .s (.ia 14 (.int .u8) (.t 12) (.t 13)), .s (.load 15 false 1 (.t 14)), .s (.bin 16 .eql (.t 11) (.t 15))]) (.cond (.t 16) (.seq (.reg [.s (.mv 17 (.t 5)), .s (.mv 4 (.t 17))]) (.ret)) (.skip))))) (.reg [.s (.bin 18 .add (.t 8) (.k (.v (.c (.int .i64 1))))), .s (.mv 8 (.t 18))])))
def pf_slices_Index_byte : PF := ⟨[.t 4], .seq (.reg [.s (.mv 4 (.k (.v (.c (.int .i64 0)))))]) (.seq (.seq (.reg [.s (.mv 6 (.t 0)), .s (.len 7 false (.t 6)), .s (.mv 8 (.k (.v (.c (.int .i64 0)))))]) (.blk 0 (.loop [0, 1, 7, 8] lb_slices_Index_byte_0))) (.seq (.reg [.s (.mv 4 (.k (.v (.c (.int .i64 (-1))))))]) (.ret)))⟩
def c_slices_Index_byte : Fun := ⟨203, [], fun ts K => as2 ts fun t0 t1 => arC (pL (.int .u8)) t0 fun xs => arC (pI .u8) t1 fun v => chk (xs.length ≤ 2147483647) (K (tN (idxOf (fun x => v == x) xs)) [])⟩
theorem run_slices_Index_byte (xs : List (FT.Ty (.int .u8))) (v : Int) (hpre : xs.length ≤ 2147483647) : runK [] (xs.length + 1) [] pf_slices_Index_byte [tL false (.int .u8) xs, tI .u8 v] fun r o => r = tN (idxOf (fun x => v == x) xs) ∧ o = [] := by
  conv => whnf
  refine loop (α := Nat) (fun i => ⟨[(0, .v (.c (.sl false (.int .u8) 0))), (1, .v (.c (.int .u8 v))), (7, .v (.c (.int .i64 (xs.length : Int)))), (8, .v (.c (.int .i64 (i : Int))))], [(0, some (.flat false (.int .u8) none xs))], nums.tail, [], false, []⟩)
      (fun i => i ≤ xs.length ∧ idxOf (fun x => v == x) xs = idxGo (fun x => v == x) (xs.drop i) i) (fun i => xs.length - i) (fun i R hI hR => ?_) 0 _ ⟨by simp, rfl⟩ (by simp)
  obtain ⟨hi, hx⟩ := hI
  conv => whnf
  refine sel_i (fun h2 => ?_) (fun h2 => ?_)
  · have hlt : i < xs.length := by simp at h2; omega
    conv => whnf
    repeat (refine chk_i (by first | omega | (simp; omega)) ?_; conv => whnf)
    refine sel_i (fun h3 => ?_) (fun h3 => ?_)
    · conv => whnf
      rw [hx, idxGo_yes (z := FT.zero (.int .u8)) hlt h3]
      exact ⟨rfl, rfl⟩
    · conv => whnf
      rw [wrap_id (n := (i : Int) + 1) (by omega) (by omega)]
      exact hR (i + 1) ⟨by omega, by rw [hx, idxGo_no (z := FT.zero (.int .u8)) hlt h3]⟩ (by omega)
  · conv => whnf
    rw [hx, idxGo_end (by simp at h2; omega)]
    exact ⟨rfl, rfl⟩
theorem ok_slices_Index_byte : FunOk Try.prog c_slices_Index_byte := funOk (E := []) (envOk_nil) mixd Try.func203 (pf := pf_slices_Index_byte) (by kernel_rfl) fun ts K h => by
  obtain ⟨t0, t1, e0, h⟩ := as2_out h
  subst e0
  obtain ⟨xs, e1, hq⟩ := arC_out (rd_l (.int .u8)) h
  clear h
  subst e1
  have h := hq
  clear hq
  obtain ⟨v, e1, hq⟩ := arC_out (rd_int .u8) h
  clear h
  subst e1
  have h := hq
  clear hq
  obtain ⟨hpre, h⟩ := chk_o h
  exact ⟨_, _, h, Nat.le_of_ble_eq_true (show Nat.ble 2 Try.f203.ntmps = true by kernel_rfl), _, run_slices_Index_byte xs v hpre⟩

def pf_slices_Contains_byte : PF := ⟨[.t 4], .seq (.reg [.s (.mv 4 (.k (.v (.c .ff))))]) (.seq (.reg [.s (.mv 5 (.t 0)), .s (.mv 6 (.t 1)), .s (.call (some 7) 203 [(.t 5), (.t 6)]), .s (.bin 8 .geq (.t 7) (.k (.v (.c (.int .i64 0))))), .s (.mv 4 (.t 8))]) (.ret))⟩
def c_slices_Contains_byte : Fun := ⟨196, [], fun ts K => as2 ts fun t0 t1 => arC (pL (.int .u8)) t0 fun xs => arC (pI .u8) t1 fun v => chk (xs.length ≤ 2147483647) (K (tB (xs.any (fun x => v == x))) [])⟩
theorem run_slices_Contains_byte (xs : List (FT.Ty (.int .u8))) (v : Int) (hpre : xs.length ≤ 2147483647) : runK [c_slices_Index_byte] (0) [] pf_slices_Contains_byte [tL false (.int .u8) xs, tI .u8 v] fun r o => r = tB (xs.any (fun x => v == x)) ∧ o = [] := by
  conv => whnf
  repeat' (first | (refine sel_i (fun h => ?_) (fun h => ?_) <;> conv => whnf) | (refine chk_c ?_ ?_ <;> conv => whnf) | (refine And.intro ?_ rfl) | (refine And.intro ?_ ?_ <;> conv => whnf))
  all_goals first | (refine ⟨?_⟩; exact hpre) | exact hpre | (rw [← idxOf_any]; rfl) | (rw [← idxOf_any])
theorem ok_slices_Contains_byte : FunOk Try.prog c_slices_Contains_byte := funOk (E := [c_slices_Index_byte]) (envOk_cons ok_slices_Index_byte (envOk_nil)) mixd Try.func196 (pf := pf_slices_Contains_byte) (by kernel_rfl) fun ts K h => by
  obtain ⟨t0, t1, e0, h⟩ := as2_out h
  subst e0
  obtain ⟨xs, e1, hq⟩ := arC_out (rd_l (.int .u8)) h
  clear h
  subst e1
  have h := hq
  clear hq
  obtain ⟨v, e1, hq⟩ := arC_out (rd_int .u8) h
  clear h
  subst e1
  have h := hq
  clear hq
  obtain ⟨hpre, h⟩ := chk_o h
  exact ⟨_, _, h, Nat.le_of_ble_eq_true (show Nat.ble 2 Try.f196.ntmps = true by kernel_rfl), _, run_slices_Contains_byte xs v hpre⟩

def formS (op : Int) : ByteArray :=
  if op = 1 then ⟨#[82, 78]⟩ else if op = 2 ∨ op = 4 ∨ op = 5 ∨ op = 7 ∨ op = 8 then ⟨#[82, 65, 66]⟩ else if op = 3 ∨ op = 9 ∨ op = 12 then ⟨#[82, 65]⟩ else if op = 6 then ⟨#[82, 65, 66, 78]⟩ else
  if op = 10 then ⟨#[82, 65, 78]⟩ else if op = 11 then ⟨#[65, 66, 78]⟩ else if op = 13 then ⟨#[65, 78]⟩ else if op = 14 then ⟨#[65]⟩ else ⟨#[]⟩
def maskI (op : Int) : Int := if inR op 1 15 then ([0, 9, 7, 3, 7, 7, 15, 7, 7, 3, 11, 14, 3, 10, 2, 0] : List Int).getD op.toNat 0 else 0
def hasC (op c : Int) : Bool := (bytesI (formS op)).any (fun b => c == b)
def partI (x : Inst) (c : Int) : Int := if c = 82 then x.r else if c = 65 then x.a else if c = 66 then x.b else x.n
def fld (v : Int) (b : Bool) : Bool := inR v 0 7 && (b || v == 0)
def insOk (x : Inst) : Bool := inR x.op 1 15 && fld x.r (andI (maskI x.op) 1 != 0) && fld x.a (andI (maskI x.op) 2 != 0) && fld x.b (andI (maskI x.op) 4 != 0) && inR x.n (-128) 127 && (andI (maskI x.op) 8 != 0 || x.n == 0)
def setsI (x : Inst) : Int := if andI (maskI x.op) 1 = 0 then -1 else x.r
theorem formS_len (op : Int) : (bytesI (formS op)).length ≤ 4 := by
  rw [bytesI_len]
  unfold formS
  repeat' split
  all_goals decide
def lettI (i : Nat) : Int := ([82, 65, 66, 78] : List Int).getD i 0
def partOkI (x : Inst) (c : Int) : Bool := if hasC x.op c then (if c == 78 then inR (partI x c) (-128) 127 else inR (partI x c) 0 7) else partI x c == 0
def okC : Option Bool → Cell | none => .ff | some b => .bool b
def okV : Option Bool → Bool | none => false | some b => b
theorem allR_succ (f : Nat → Bool) (n : Nat) : allR f (n + 1) = (allR f n && f n) := by simp [allR, List.range_succ]
theorem insOk_eq (x : Inst) : (inR x.op 1 15 && allR (fun j => partOkI x (lettI j)) 4) = insOk x := by
  have hall : allR (fun j => partOkI x (lettI j)) 4 = (partOkI x 82 && partOkI x 65 && partOkI x 66 && partOkI x 78) := by
    simp [allR, List.range_succ, lettI, Bool.and_assoc]
  rw [hall]
  unfold insOk
  by_cases h : inR x.op 1 15 = true
  · rw [h]
    simp only [Bool.true_and]
    obtain ⟨op, r, a, b, n⟩ := x
    have h := inR_t.1 h
    dsimp only at h ⊢
    have e0 : ∀ v : Int, (inR v 0 7 && (v == 0)) = (v == 0) := fun v => by
      by_cases e : v = 0
      · subst e; decide
      · simp [e]
    have e1 : ∀ v : Int, (inR v (-128) 127 && (v == 0)) = (v == 0) := fun v => by
      by_cases e : v = 0
      · subst e; decide
      · simp [e]
    have hop : op = 1 ∨ op = 2 ∨ op = 3 ∨ op = 4 ∨ op = 5 ∨ op = 6 ∨ op = 7 ∨ op = 8 ∨ op = 9 ∨ op = 10 ∨ op = 11 ∨ op = 12 ∨ op = 13 ∨ op = 14 ∨ op = 15 := by omega
    have key : ∀ (k1 k2 k3 k4 : Bool), hasC op 82 = k1 → hasC op 65 = k2 → hasC op 66 = k3 → hasC op 78 = k4 → (andI (maskI op) 1 != 0) = k1 → (andI (maskI op) 2 != 0) = k2 → (andI (maskI op) 4 != 0) = k3 → (andI (maskI op) 8 != 0) = k4 →
        (partOkI ⟨op, r, a, b, n⟩ 82 && partOkI ⟨op, r, a, b, n⟩ 65 && partOkI ⟨op, r, a, b, n⟩ 66 && partOkI ⟨op, r, a, b, n⟩ 78) = (fld r (andI (maskI op) 1 != 0) && fld a (andI (maskI op) 2 != 0) && fld b (andI (maskI op) 4 != 0) && inR n (-128) 127 && (andI (maskI op) 8 != 0 || n == 0)) := by
      intro k1 k2 k3 k4 a1 a2 a3 a4 b1 b2 b3 b4
      rw [b1, b2, b3, b4]
      simp only [partOkI, a1, a2, a3, a4, fld, partI]
      cases k1 <;> cases k2 <;> cases k3 <;> cases k4 <;> simp [e0, e1, Bool.and_assoc]
    rcases hop with rfl | rfl | rfl | rfl | rfl | rfl | rfl | rfl | rfl | rfl | rfl | rfl | rfl | rfl | rfl <;> exact key _ _ _ _ rfl rfl rfl rfl (by decide) (by decide) (by decide) (by decide)
  · simp only [Bool.not_eq_true] at h
    rw [h]; rfl

def pf_impl_formOf : PF := ⟨[.t 2, .t 3], .seq (.reg [.s (.mv 2 (.k (.v (.c (.str ⟨#[]⟩))))), .s (.mv 3 (.k (.v (.c .ff))))]) (.seq (.seq (.reg [.s (.mv 4 (.t 0))]) (.blk 0 (.seq (.reg [.s (.bin 6 .eql (.t 4) (.k (.v (.c (.int .i64 1))))), .s (.mv 5 (.t 6))]) (.cond (.t 5) (.seq (.reg [.s (.mv 2 (.k (.v (.c (.str ⟨#[82, 78]⟩))))), .s (.mv 3 (.k (.v (.c .tt))))]) (.ret)) (.seq (.seq (.reg [.s (.bin 8 .eql (.t 4) (.k (.v (.c (.int .i64 2))))), .s (.mv 7 (.t 8))]) (.cond (.t 7) (.skip) (.seq (.reg [.s (.bin 9 .eql (.t 4) (.k (.v (.c (.int .i64 4))))), .s (.mv 7 (.t 9))]) (.cond (.t 7) (.skip) (.seq (.reg [.s (.bin 10 .eql (.t 4) (.k (.v (.c (.int .i64 5))))), .s (.mv 7 (.t 10))]) (.cond (.t 7) (.skip) (.seq (.reg [.s (.bin 11 .eql (.t 4) (.k (.v (.c (.int .i64 7))))), .s (.mv 7 (.t 11))]) (.cond (.t 7) (.skip) (.reg [.s (.bin 12 .eql (.t 4) (.k (.v (.c (.int .i64 8))))), .s (.mv 7 (.t 12))]))))))))) (.cond (.t 7) (.seq (.reg [.s (.mv 2 (.k (.v (.c (.str ⟨#[82, 65, 66]⟩))))), .s (.mv 3 (.k (.v (.c .tt))))]) (.ret)) (.seq (.seq (.reg [.s (.bin 14 .eql (.t 4) (.k (.v (.c (.int .i64 3))))), .s (.mv 13 (.t 14))]) (.cond (.t 13) (.skip) (.seq (.reg [.s (.bin 15 .eql (.t 4) (.k (.v (.c (.int .i64 9))))), .s (.mv 13 (.t 15))]) (.cond (.t 13) (.skip) (.reg [.s (.bin 16 .eql (.t 4) (.k (.v (.c (.int .i64 12))))), .s (.mv 13 (.t 16))]))))) (.cond (.t 13) (.seq (.reg [.s (.mv 2 (.k (.v (.c (.str ⟨#[82, 65]⟩))))), .s (.mv 3 (.k (.v (.c .tt))))]) (.ret)) (.seq (.reg [.s (.bin 18 .eql (.t 4) (.k (.v (.c (.int .i64 6))))), .s (.mv 17 (.t 18))]) (.cond (.t 17) (.seq (.reg [.s (.mv 2 (.k (.v (.c (.str ⟨#[82, 65, 66, 78]⟩))))), .s (.mv 3 (.k (.v (.c .tt))))]) (.ret)) (.seq (.reg [.s (.bin 20 .eql (.t 4) (.k (.v (.c (.int .i64 10))))), .s (.mv 19 (.t 20))]) (.cond (.t 19) (.seq (.reg [.s (.mv 2 (.k (.v (.c (.str ⟨#[82, 65, 78]⟩))))), .s (.mv 3 (.k (.v (.c .tt))))]) (.ret)) (.seq (.reg [.s (.bin 22 .eql (.t 4) (.k (.v (.c (.int .i64 11))))), .s (.mv 21 (.t 22))]) (.cond (.t 21) (.seq (.reg [.s (.mv 2 (.k (.v (.c (.str ⟨#[65, 66, 78]⟩))))), .s (.mv 3 (.k (.v (.c .tt))))]) (.ret)) (.seq (.reg [.s (.bin 24 .eql (.t 4) (.k (.v (.c (.int .i64 13))))), .s (.mv 23 (.t 24))]) (.cond (.t 23) (.seq (.reg [.s (.mv 2 (.k (.v (.c (.str ⟨#[65, 78]⟩))))), .s (.mv 3 (.k (.v (.c .tt))))]) (.ret)) (.seq (.reg [.s (.bin 26 .eql (.t 4) (.k (.v (.c (.int .i64 14))))), .s (.mv 25 (.t 26))]) (.cond (.t 25) (.seq (.reg [.s (.mv 2 (.k (.v (.c (.str ⟨#[65]⟩))))), .s (.mv 3 (.k (.v (.c .tt))))]) (.ret)) (.seq (.reg [.s (.bin 28 .eql (.t 4) (.k (.v (.c (.int .i64 15))))), .s (.mv 27 (.t 28))]) (.cond (.t 27) (.seq (.reg [.s (.mv 2 (.k (.v (.c (.str ⟨#[]⟩))))), .s (.mv 3 (.k (.v (.c .tt))))]) (.ret)) (.skip))))))))))))))))))))) (.seq (.reg [.s (.mv 2 (.k (.v (.c (.str ⟨#[]⟩))))), .s (.mv 3 (.k (.v (.c .ff))))]) (.ret)))⟩
def c_impl_formOf : Fun := ⟨180, [], fun ts K => as1 ts fun t0 => arC (pI .i64) t0 fun op => K (.tup [.c (.str (formS op)), .c (.bool (inR op 1 15))]) []⟩
theorem run_impl_formOf (op : Int) : runK [] (0) [] pf_impl_formOf [tI .i64 op] fun r o => r = .tup [.c (.str (formS op)), .c (.bool (inR op 1 15))] ∧ o = [] := by
  conv => whnf
  repeat' (first | (refine sel_i (fun h => ?_) (fun h => ?_) <;> conv => whnf) | (refine chk_c ?_ ?_ <;> conv => whnf) | (refine And.intro ?_ rfl) | (refine And.intro ?_ ?_ <;> conv => whnf))
  all_goals (simp only [beq_iff_eq, beq_eq_false_iff_ne, ne_eq] at *)
  all_goals first
    | (subst h; rfl)
    | (exfalso; omega)
    | (have e1 : inR op 1 15 = false := inR_f.2 (by omega)
       have e2 : formS op = ⟨#[]⟩ := by simp only [formS, *, if_false, or_self]
       rw [e1, e2])
    | trace_state
theorem ok_impl_formOf : FunOk Try.prog c_impl_formOf := funOk (E := []) (envOk_nil) mixd Try.func180 (pf := pf_impl_formOf) (by kernel_rfl) fun ts K h => by
  obtain ⟨t0, e0, h⟩ := as1_out h
  subst e0
  obtain ⟨op, e1, hq⟩ := arC_out (rd_int .i64) h
  clear h
  subst e1
  have h := hq
  clear hq
  exact ⟨_, _, h, Nat.le_of_ble_eq_true (show Nat.ble 1 Try.f180.ntmps = true by kernel_rfl), _, run_impl_formOf op⟩

def pf_impl_partOf : PF := ⟨[.t 4], .seq (.reg [.s (.box 2 (.t 0)), .s (.mv 4 (.k (.v (.c (.int .i64 0)))))]) (.seq (.seq (.reg [.s (.mv 5 (.t 1))]) (.blk 0 (.seq (.reg [.s (.bin 7 .eql (.t 5) (.k (.v (.c (.int .u8 82))))), .s (.mv 6 (.t 7))]) (.cond (.t 6) (.seq (.reg [.s (.fa 8 (.t 2) 1), .s (.load 9 false 1 (.t 8)), .s (.mv 4 (.t 9))]) (.ret)) (.seq (.reg [.s (.bin 11 .eql (.t 5) (.k (.v (.c (.int .u8 65))))), .s (.mv 10 (.t 11))]) (.cond (.t 10) (.seq (.reg [.s (.fa 12 (.t 2) 2), .s (.load 13 false 1 (.t 12)), .s (.mv 4 (.t 13))]) (.ret)) (.seq (.reg [.s (.bin 15 .eql (.t 5) (.k (.v (.c (.int .u8 66))))), .s (.mv 14 (.t 15))]) (.cond (.t 14) (.seq (.reg [.s (.fa 16 (.t 2) 3), .s (.load 17 false 1 (.t 16)), .s (.mv 4 (.t 17))]) (.ret)) (.skip))))))))) (.seq (.reg [.s (.fa 18 (.t 2) 4), .s (.load 19 false 1 (.t 18)), .s (.mv 4 (.t 19))]) (.ret)))⟩
def c_impl_partOf : Fun := ⟨181, [], fun ts K => as2 ts fun t0 t1 => arG pInstT t0 fun x => arC (pI .u8) t1 fun c => K (tN (partI x c)) []⟩
theorem run_impl_partOf (x : Inst) (c : Int) : runK [] (0) [] pf_impl_partOf [tG (x.tc []), tI .u8 c] fun r o => r = tN (partI x c) ∧ o = [] := by
  conv => whnf
  repeat' (first | (refine sel_i (fun h => ?_) (fun h => ?_) <;> conv => whnf) | (refine chk_c ?_ ?_ <;> conv => whnf) | (refine And.intro ?_ rfl) | (refine And.intro ?_ ?_ <;> conv => whnf))
  all_goals (simp_all [partI]; done)
theorem ok_impl_partOf : FunOk Try.prog c_impl_partOf := funOk (E := []) (envOk_nil) mixd Try.func181 (pf := pf_impl_partOf) (by kernel_rfl) fun ts K h => by
  obtain ⟨t0, t1, e0, h⟩ := as2_out h
  subst e0
  obtain ⟨x, e1, hq⟩ := arG_out rd_inst h
  clear h
  subst e1
  have h := hq
  clear hq
  obtain ⟨c, e1, hq⟩ := arC_out (rd_int .u8) h
  clear h
  subst e1
  have h := hq
  clear hq
  exact ⟨_, _, h, Nat.le_of_ble_eq_true (show Nat.ble 2 Try.f181.ntmps = true by kernel_rfl), _, run_impl_partOf x c⟩

def pf_impl_hasPart : PF := ⟨[.t 4], .seq (.reg [.s (.box 2 (.t 0)), .s (.mv 4 (.k (.v (.c .ff))))]) (.seq (.reg [.s (.fa 8 (.t 2) 0), .s (.load 9 false 1 (.t 8)), .s (.call (some 10) 180 [(.t 9)]), .s (.mv 7 (.t 10)), .s (.ext 11 (.t 7) 0), .s (.ext 12 (.t 7) 1), .s (.mv 5 (.t 11)), .s (.mv 6 (.t 12))]) (.seq (.reg [.s (.mv 13 (.t 5)), .s (.s2b 14 (.t 13)), .s (.mv 15 (.t 1)), .s (.call (some 16) 196 [(.t 14), (.t 15)]), .s (.mv 4 (.t 16))]) (.ret)))⟩
def c_impl_hasPart : Fun := ⟨182, [], fun ts K => as2 ts fun t0 t1 => arG pInstT t0 fun x => arC (pI .u8) t1 fun c => K (tB (hasC x.op c)) []⟩
theorem run_impl_hasPart (x : Inst) (c : Int) : runK [c_impl_formOf, c_slices_Contains_byte] (0) [] pf_impl_hasPart [tG (x.tc []), tI .u8 c] fun r o => r = tB (hasC x.op c) ∧ o = [] := by
  have hl := formS_len x.op
  conv => whnf
  repeat' (first | (refine sel_i (fun h => ?_) (fun h => ?_) <;> conv => whnf) | (refine chk_c ?_ ?_ <;> conv => whnf) | (refine And.intro ?_ rfl) | (refine And.intro ?_ ?_ <;> conv => whnf))
  all_goals first | rfl | (refine ⟨?_⟩; omega) | trace_state
theorem ok_impl_hasPart : FunOk Try.prog c_impl_hasPart := funOk (E := [c_impl_formOf, c_slices_Contains_byte]) (envOk_cons ok_impl_formOf (envOk_cons ok_slices_Contains_byte (envOk_nil))) mixd Try.func182 (pf := pf_impl_hasPart) (by kernel_rfl) fun ts K h => by
  obtain ⟨t0, t1, e0, h⟩ := as2_out h
  subst e0
  obtain ⟨x, e1, hq⟩ := arG_out rd_inst h
  clear h
  subst e1
  have h := hq
  clear hq
  obtain ⟨c, e1, hq⟩ := arC_out (rd_int .u8) h
  clear h
  subst e1
  have h := hq
  clear hq
  exact ⟨_, _, h, Nat.le_of_ble_eq_true (show Nat.ble 2 Try.f182.ntmps = true by kernel_rfl), _, run_impl_hasPart x c⟩

def pf_spec_l6Has : PF := ⟨[.t 2], .seq (.reg [.s (.mv 2 (.k (.v (.c (.int .i64 0)))))]) (.seq (.seq (.reg [.s (.mv 3 (.t 0)), .s (.call (some 4) 101 [(.t 3), (.k (.v (.c (.int .i64 1)))), (.k (.v (.c (.int .i64 15))))]), .s (.bnot 5 (.t 4))]) (.cond (.t 5) (.seq (.reg [.s (.mv 2 (.k (.v (.c (.int .i64 0)))))]) (.ret)) (.skip))) (.seq (.reg [.s (.bs 6 (.int .i64) [(.k (.v (.c (.int .i64 0)))), (.k (.v (.c (.int .i64 9)))), (.k (.v (.c (.int .i64 7)))), (.k (.v (.c (.int .i64 3)))), (.k (.v (.c (.int .i64 7)))), (.k (.v (.c (.int .i64 7)))), (.k (.v (.c (.int .i64 15)))), (.k (.v (.c (.int .i64 7)))), (.k (.v (.c (.int .i64 7)))), (.k (.v (.c (.int .i64 3)))), (.k (.v (.c (.int .i64 11)))), (.k (.v (.c (.int .i64 14)))), (.k (.v (.c (.int .i64 3)))), (.k (.v (.c (.int .i64 10)))), (.k (.v (.c (.int .i64 2)))), (.k (.v (.c (.int .i64 0))))]), .s (.mv 7 (.t 0)), .s (.ia 8 (.int .i64) (.t 6) (.t 7)), .s (.load 9 false 1 (.t 8)), .s (.mv 2 (.t 9))]) (.ret)))⟩
def c_spec_l6Has : Fun := ⟨177, [], fun ts K => as1 ts fun t0 => arC (pI .i64) t0 fun op => K (tN (maskI op)) []⟩
theorem run_spec_l6Has (op : Int) : runK [c_spec_l1In] (0) [] pf_spec_l6Has [tI .i64 op] fun r o => r = tN (maskI op) ∧ o = [] := by
  conv => whnf
  repeat' (first | (refine sel_i (fun h => ?_) (fun h => ?_) <;> conv => whnf) | (refine chk_c ?_ ?_ <;> conv => whnf) | (refine And.intro ?_ rfl) | (refine And.intro ?_ ?_ <;> conv => whnf))
  all_goals (try simp only [inR_t, inR_f, Bool.not_eq_true', Bool.not_eq_false'] at *)
  all_goals first
    | (refine ⟨?_⟩; show _ ≤ _ ∧ _ < (16 : Int); omega)
    | (refine ⟨?_⟩; show op.toNat < 16; omega)
    | (rw [show maskI op = 0 by unfold maskI; rw [if_neg (by rw [inR_t]; omega)]])
    | (unfold maskI; rw [if_pos (by rw [inR_t]; omega)]; rfl)
    | trace_state
theorem ok_spec_l6Has : FunOk Try.prog c_spec_l6Has := funOk (E := [c_spec_l1In]) (envOk_cons ok_spec_l1In (envOk_nil)) mixd Try.func177 (pf := pf_spec_l6Has) (by kernel_rfl) fun ts K h => by
  obtain ⟨t0, e0, h⟩ := as1_out h
  subst e0
  obtain ⟨op, e1, hq⟩ := arC_out (rd_int .i64) h
  clear h
  subst e1
  have h := hq
  clear hq
  exact ⟨_, _, h, Nat.le_of_ble_eq_true (show Nat.ble 1 Try.f177.ntmps = true by kernel_rfl), _, run_spec_l6Has op⟩

def pf_spec_l6Field : PF := ⟨[.t 4], .seq (.reg [.s (.mv 4 (.k (.v (.c .ff))))]) (.seq (.reg [.s (.mv 5 (.t 0)), .s (.call (some 6) 101 [(.t 5), (.k (.v (.c (.int .i64 0)))), (.k (.v (.c (.int .i64 7))))]), .s (.mv 7 (.t 6)), .g 7 true (some 8) (.mv 8 (.t 1)), .g 7 true (some 9) (.mv 9 (.t 8)), .g 9 false (some 10) (.mv 10 (.t 0)), .g 9 false (some 11) (.bin 11 .eql (.t 10) (.k (.v (.c (.int .i64 0))))), .g 7 true (some 12) (.pick 12 (.t 9) (.k (.v (.c .tt))) (.t 11)), .s (.pick 13 (.t 7) (.t 12) (.k (.v (.c .ff)))), .s (.mv 4 (.t 13))]) (.ret))⟩
def c_spec_l6Field : Fun := ⟨178, [], fun ts K => as2 ts fun t0 t1 => arC (pI .i64) t0 fun v => arC pB t1 fun b => K (tB (fld v b)) []⟩
theorem run_spec_l6Field (v : Int) (b : Bool) : runK [c_spec_l1In] (0) [] pf_spec_l6Field [tI .i64 v, tB b] fun r o => r = tB (fld v b) ∧ o = [] := by
  conv => whnf
  repeat' (first | (refine sel_i (fun h => ?_) (fun h => ?_) <;> conv => whnf) | (refine chk_c ?_ ?_ <;> conv => whnf) | (refine And.intro ?_ rfl) | (refine And.intro ?_ ?_ <;> conv => whnf))
  all_goals (simp_all [fld]; done)
theorem ok_spec_l6Field : FunOk Try.prog c_spec_l6Field := funOk (E := [c_spec_l1In]) (envOk_cons ok_spec_l1In (envOk_nil)) mixd Try.func178 (pf := pf_spec_l6Field) (by kernel_rfl) fun ts K h => by
  obtain ⟨t0, t1, e0, h⟩ := as2_out h
  subst e0
  obtain ⟨v, e1, hq⟩ := arC_out (rd_int .i64) h
  clear h
  subst e1
  have h := hq
  clear hq
  obtain ⟨b, e1, hq⟩ := arC_out rd_b h
  clear h
  subst e1
  have h := hq
  clear hq
  exact ⟨_, _, h, Nat.le_of_ble_eq_true (show Nat.ble 2 Try.f178.ntmps = true by kernel_rfl), _, run_spec_l6Field v b⟩

def pf_spec_InsOk : PF := ⟨[.t 2], .seq (.reg [.s (.box 1 (.t 0)), .s (.mv 2 (.k (.v (.c .ff))))]) (.seq (.reg [.s (.fa 4 (.t 1) 0), .s (.load 5 false 1 (.t 4)), .s (.call (some 6) 177 [(.t 5)]), .s (.mv 3 (.t 6))]) (.seq (.reg [.s (.fa 7 (.t 1) 0), .s (.load 8 false 1 (.t 7)), .s (.call (some 9) 101 [(.t 8), (.k (.v (.c (.int .i64 1)))), (.k (.v (.c (.int .i64 15))))]), .s (.mv 10 (.t 9)), .g 10 true (some 11) (.fa 11 (.t 1) 1), .g 10 true (some 12) (.load 12 false 1 (.t 11)), .g 10 true (some 13) (.mv 13 (.t 3)), .g 10 true (some 14) (.bin 14 .and (.t 13) (.k (.v (.c (.int .i64 1))))), .g 10 true (some 15) (.bin 15 .neq (.t 14) (.k (.v (.c (.int .i64 0))))), .g 10 true (some 16) (.call (some 16) 178 [(.t 12), (.t 15)]), .s (.pick 17 (.t 10) (.t 16) (.k (.v (.c .ff)))), .s (.mv 18 (.t 17)), .g 18 true (some 19) (.fa 19 (.t 1) 2), .g 18 true (some 20) (.load 20 false 1 (.t 19)), .g 18 true (some 21) (.mv 21 (.t 3)), .g 18 true (some 22) (.bin 22 .and (.t 21) (.k (.v (.c (.int .i64 2))))), .g 18 true (some 23) (.bin 23 .neq (.t 22) (.k (.v (.c (.int .i64 0))))), .g 18 true (some 24) (.call (some 24) 178 [(.t 20), (.t 23)]), .s (.pick 25 (.t 18) (.t 24) (.k (.v (.c .ff)))), .s (.mv 26 (.t 25)), .g 26 true (some 27) (.fa 27 (.t 1) 3), .g 26 true (some 28) (.load 28 false 1 (.t 27)), .g 26 true (some 29) (.mv 29 (.t 3)), .g 26 true (some 30) (.bin 30 .and (.t 29) (.k (.v (.c (.int .i64 4))))), .g 26 true (some 31) (.bin 31 .neq (.t 30) (.k (.v (.c (.int .i64 0))))), .g 26 true (some 32) (.call (some 32) 178 [(.t 28), (.t 31)]), .s (.pick 33 (.t 26) (.t 32) (.k (.v (.c .ff)))), .s (.mv 34 (.t 33)), .g 34 true (some 35) (.fa 35 (.t 1) 4), .g 34 true (some 36) (.load 36 false 1 (.t 35)), .g 34 true (some 37) (.call (some 37) 101 [(.t 36), (.k (.v (.c (.int .i64 (-128))))), (.k (.v (.c (.int .i64 127))))]), .s (.pick 38 (.t 34) (.t 37) (.k (.v (.c .ff)))), .s (.mv 39 (.t 38)), .g 39 true (some 40) (.mv 40 (.t 3)), .g 39 true (some 41) (.bin 41 .and (.t 40) (.k (.v (.c (.int .i64 8))))), .g 39 true (some 42) (.bin 42 .neq (.t 41) (.k (.v (.c (.int .i64 0))))), .g 39 true (some 43) (.mv 43 (.t 42)), .g 43 false (some 44) (.fa 44 (.t 1) 4), .g 43 false (some 45) (.load 45 false 1 (.t 44)), .g 43 false (some 46) (.bin 46 .eql (.t 45) (.k (.v (.c (.int .i64 0))))), .g 39 true (some 47) (.pick 47 (.t 43) (.k (.v (.c .tt))) (.t 46)), .s (.pick 48 (.t 39) (.t 47) (.k (.v (.c .ff)))), .s (.mv 2 (.t 48))]) (.ret)))⟩
def c_spec_InsOk : Fun := ⟨147, [], fun ts K => as1 ts fun t0 => arG pInstT t0 fun x => K (tB (insOk x)) []⟩
theorem run_spec_InsOk (x : Inst) : runK [c_spec_l1In, c_spec_l6Has, c_spec_l6Field] (0) [] pf_spec_InsOk [tG (x.tc [])] fun r o => r = tB (insOk x) ∧ o = [] := by
  conv => whnf
  repeat' (first | (refine sel_i (fun h => ?_) (fun h => ?_) <;> conv => whnf) | (refine chk_c ?_ ?_ <;> conv => whnf) | (refine And.intro ?_ rfl) | (refine And.intro ?_ ?_ <;> conv => whnf))
  all_goals (try simp only [andI_eq] at *)
  all_goals (simp only [insOk, *, Bool.true_and, Bool.false_and, Bool.and_true, Bool.and_false, Bool.or_true, Bool.true_or, Bool.false_or]; first | done | trace_state)
theorem ok_spec_InsOk : FunOk Try.prog c_spec_InsOk := funOk (E := [c_spec_l1In, c_spec_l6Has, c_spec_l6Field]) (envOk_cons ok_spec_l1In (envOk_cons ok_spec_l6Has (envOk_cons ok_spec_l6Field (envOk_nil)))) mixd Try.func147 (pf := pf_spec_InsOk) (by kernel_rfl) fun ts K h => by
  obtain ⟨t0, e0, h⟩ := as1_out h
  subst e0
  obtain ⟨x, e1, hq⟩ := arG_out rd_inst h
  clear h
  subst e1
  have h := hq
  clear hq
  exact ⟨_, _, h, Nat.le_of_ble_eq_true (show Nat.ble 1 Try.f147.ntmps = true by kernel_rfl), _, run_spec_InsOk x⟩

def lb_impl_InsOk_0 : PC := .seq (.reg [.s (.bin 18 .lss (.t 17) (.t 16))]) (.seq (.cond (.t 18) (.skip) (.exit 0)) (.seq (.blk 1 (.seq (.reg [.s (.ia 19 (.int .u8) (.t 15) (.t 17)), .s (.load 20 false 1 (.t 19)), .s (.mv 6 (.t 20))]) (.seq (.reg [.s (.load 21 true 5 (.t 1)), .s (.mv 22 (.t 6)), .s (.call (some 23) 181 [(.t 21), (.t 22)]), .s (.mv 7 (.t 23))]) (.blk 2 (.seq (.reg [.s (.load 30 true 5 (.t 1)), .s (.mv 31 (.t 6)), .s (.call (some 32) 182 [(.t 30), (.t 31)]), .s (.bnot 33 (.t 32)), .s (.mv 29 (.t 33))]) (.cond (.t 29) (.reg [.s (.mv 34 (.t 4)), .s (.mv 35 (.t 34)), .g 35 true (some 36) (.mv 36 (.t 7)), .g 35 true (some 37) (.bin 37 .eql (.t 36) (.k (.v (.c (.int .i64 0))))), .s (.pick 38 (.t 35) (.t 37) (.k (.v (.c .ff)))), .s (.mv 4 (.t 38))]) (.seq (.reg [.s (.mv 40 (.t 6)), .s (.bin 41 .eql (.t 40) (.k (.v (.c (.int .u8 78))))), .s (.mv 39 (.t 41))]) (.cond (.t 39) (.reg [.s (.mv 42 (.t 4)), .s (.mv 43 (.t 42)), .g 43 true (some 44) (.mv 44 (.t 7)), .g 43 true (some 45) (.call (some 45) 103 [(.t 44), (.k (.v (.c (.int .i64 (-128))))), (.k (.v (.c (.int .i64 127))))]), .s (.pick 46 (.t 43) (.t 45) (.k (.v (.c .ff)))), .s (.mv 4 (.t 46))]) (.reg [.s (.mv 24 (.t 4)), .s (.mv 25 (.t 24)), .g 25 true (some 26) (.mv 26 (.t 7)), .g 25 true (some 27) (.call (some 27) 103 [(.t 26), (.k (.v (.c (.int .i64 0)))), (.k (.v (.c (.int .i64 7))))]), .s (.pick 28 (.t 25) (.t 27) (.k (.v (.c .ff)))), .s (.mv 4 (.t 28))]))))))))) (.reg [.s (.bin 47 .add (.t 17) (.k (.v (.c (.int .i64 1))))), .s (.mv 17 (.t 47))])))
def pf_impl_InsOk : PF := ⟨[.t 2], .seq (.reg [.s (.box 1 (.t 0)), .s (.mv 2 (.k (.v (.c .ff))))]) (.seq (.reg [.s (.fa 9 (.t 1) 0), .s (.load 10 false 1 (.t 9)), .s (.call (some 11) 180 [(.t 10)]), .s (.mv 8 (.t 11)), .s (.ext 12 (.t 8) 0), .s (.ext 13 (.t 8) 1), .s (.mv 3 (.t 12)), .s (.mv 4 (.t 13))]) (.seq (.seq (.reg [.s (.bs 14 (.int .u8) [(.k (.v (.c (.int .u8 82)))), (.k (.v (.c (.int .u8 65)))), (.k (.v (.c (.int .u8 66)))), (.k (.v (.c (.int .u8 78))))]), .s (.stri 15 (.t 14)), .s (.len 16 false (.t 15)), .s (.mv 17 (.k (.v (.c (.int .i64 0)))))]) (.blk 0 (.loop [1, 4, 15, 16, 17] lb_impl_InsOk_0))) (.seq (.reg [.s (.mv 48 (.t 4)), .s (.mv 2 (.t 48))]) (.ret))))⟩
def c_impl_InsOk : Fun := ⟨150, [], fun ts K => as1 ts fun t0 => arG pInstT t0 fun x => K (tB (insOk x)) []⟩
theorem run_impl_InsOk (x : Inst) : runK [c_impl_in, c_impl_formOf, c_impl_partOf, c_impl_hasPart] (6) [] pf_impl_InsOk [tG (x.tc [])] fun r o => r = tB (insOk x) ∧ o = [] := by
  rw [← insOk_eq]
  conv => whnf
  refine chk_i (by decide) ?_
  conv => whnf
  refine loop (α := Nat × Option Bool) (fun q => ⟨[(1, .v (.c (.ptr 0 0))), (4, .v (.c (okC q.2))), (15, .v (.c (.sl true (.int .u8) 1))), (16, .v (.c (.int .i64 (([82, 65, 66, 78] : List Int).length : Int)))), (17, .v (.c (.int .i64 (q.1 : Int))))],
        [(1, some (.flat true (.int .u8) none [82, 65, 66, 78])), (0, some (.box true [.int .i64 x.op, .int .i64 x.r, .int .i64 x.a, .int .i64 x.b, .int .i64 x.n]))], nums.tail.tail, [], false, []⟩)
      (fun q => q.1 ≤ 4 ∧ okV q.2 = (inR x.op 1 15 && allR (fun j => partOkI x (lettI j)) q.1)) (fun q => 4 - q.1) (fun q R hI hR => ?_) (0, some (inR x.op 1 15)) _ ⟨by simp, by simp [okV, allR]⟩ (by dsimp only; omega)
  obtain ⟨i, o⟩ := q
  obtain ⟨hi, hx⟩ := hI
  dsimp only at hi hx
  dsimp only
  have hl4 : (([82, 65, 66, 78] : List Int).length : Int) = 4 := rfl
  have hg : ([82, 65, 66, 78] : List Int).getD ((i : Int)).toNat (FT.zero (.int .u8)) = lettI i := rfl
  conv => whnf
  refine sel_i (fun h => ?_) (fun h => ?_)
  · have hlt : i < 4 := by rw [hl4] at h; simp at h; omega
    clear h
    have hs := allR_succ (fun j => partOkI x (lettI j)) i
    cases o
    all_goals (dsimp only [okC, okV] at *)
    all_goals conv => whnf
    all_goals repeat' (first | (refine sel_i (fun h => ?_) (fun h => ?_) <;> conv => whnf) | (refine chk_c ?_ ?_ <;> conv => whnf) | (refine And.intro ?_ rfl) | (refine And.intro ?_ ?_ <;> conv => whnf))
    all_goals (try simp only [hg, hl4, etaInst, Bool.not_eq_true', Bool.not_eq_false'] at *)
    all_goals first
      | (refine ⟨?_⟩; omega)
      | (refine ⟨?_⟩; exact hlt)
      | (rw [wrap_id (n := (i : Int) + 1) (by omega) (by omega)]
         exact hR (i + 1, none) ⟨by dsimp only; omega, by dsimp only [okV]; rw [hs, ← Bool.and_assoc, ← hx]; clear hx hs hR; simp [partOkI, *]⟩ (by dsimp only; omega))
      | (rw [wrap_id (n := (i : Int) + 1) (by omega) (by omega)]
         exact hR (i + 1, some _) ⟨by dsimp only; omega, by dsimp only [okV]; rw [hs, ← Bool.and_assoc, ← hx]; clear hx hs hR; simp [partOkI, *]⟩ (by dsimp only; omega))
      | trace_state
  · have e : i = 4 := by rw [hl4] at h; simp at h; omega
    subst e
    rw [← hx]
    cases o <;> (conv => whnf) <;> exact ⟨rfl, rfl⟩
theorem ok_impl_InsOk : FunOk Try.prog c_impl_InsOk := funOk (E := [c_impl_in, c_impl_formOf, c_impl_partOf, c_impl_hasPart]) (envOk_cons ok_impl_in (envOk_cons ok_impl_formOf (envOk_cons ok_impl_partOf (envOk_cons ok_impl_hasPart (envOk_nil))))) mixd Try.func150 (pf := pf_impl_InsOk) (by kernel_rfl) fun ts K h => by
  obtain ⟨t0, e0, h⟩ := as1_out h
  subst e0
  obtain ⟨x, e1, hq⟩ := arG_out rd_inst h
  clear h
  subst e1
  have h := hq
  clear hq
  exact ⟨_, _, h, Nat.le_of_ble_eq_true (show Nat.ble 1 Try.f150.ntmps = true by kernel_rfl), _, run_impl_InsOk x⟩

abbrev zW : Word := ⟨0, false, ⟨0, 0, 0, 0⟩⟩
abbrev zI : Inst := ⟨0, 0, 0, 0, 0⟩
def readC (m : Mem) (y : Word) (n : Int) : Int := if tryW y n 1 ≠ 0 then tryW y n 1 else if inR n 0 (m.words.length - 1) then 0 else 4
def readM (m : Mem) (y : Word) (n : Int) : Word × Int := if readC m y n ≠ 0 then (zW, readC m y n) else (filterW m.gone (takenW y (m.words.getD n.toNat (FT.zero .word))), 0)
def writeC (m : Mem) (y : Word) (n : Int) (w : Word) : Int := if tryW y n 2 ≠ 0 then tryW y n 2 else if inR n 0 (m.words.length - 1) = false then 4 else if mayPut y w = false then 3 else 0
def fetchI (l : List Inst) (pc : Word) : Inst × Int := if tryW pc pc.n 4 ≠ 0 then (zI, tryW pc pc.n 4) else if inR pc.n 0 (l.length - 1) = false ∨ insOk (l.getD pc.n.toNat (FT.zero .inst)) = false then (zI, 4) else (l.getD pc.n.toNat (FT.zero .inst), 0)
def trapE (c : Int) (pc : Word) : Eff := ⟨c, -1, zW, pc, -1, zW, -1⟩
def madeW (x : Inst) (a b got : Word) : Word :=
  if x.op = 1 then plainW x.n else if x.op = 2 then plainW (IntKind.i64.wrap (a.n + b.n)) else if x.op = 3 then a else if x.op = 4 then weakenW a b.n else if x.op = 5 then narrowW a b.n else
  if x.op = 6 then pointW a (IntKind.i64.wrap (IntKind.i64.wrap (a.n + b.n) + x.n)) else if x.op = 7 then sealBy a b else if x.op = 8 then openBy a b else if x.op = 9 then (if a.is then plainW 1 else plainW 0) else got
def nextW (pc : Word) : Word := pointW pc (IntKind.i64.wrap (pc.n + 1))
def workE (x : Inst) (pc a b got : Word) : Eff :=
  if x.op = 11 then ⟨0, -1, zW, nextW pc, IntKind.i64.wrap (a.n + x.n), b, -1⟩ else
  if x.op = 12 then (if tryW a a.n 4 ≠ 0 then trapE (tryW a a.n 4) pc else ⟨0, x.r, nextW pc, a, -1, zW, -1⟩) else
  if x.op = 13 then ⟨0, -1, zW, if a.n = 0 then pointW pc (IntKind.i64.wrap (pc.n + x.n)) else nextW pc, -1, zW, -1⟩ else
  if x.op = 14 then (if tryW a a.n 32 ≠ 0 then trapE (tryW a a.n 32) pc else ⟨0, -1, zW, nextW pc, -1, zW, a.key.base⟩) else
  if x.op = 15 then trapE 5 pc else
  if hasC x.op 82 then ⟨0, x.r, if 0 ≤ x.r then madeW x a b got else zW, nextW pc, -1, zW, -1⟩ else ⟨0, -1, zW, nextW pc, -1, zW, -1⟩

theorem readC_t {m : Mem} {y : Word} {n : Int} (h : ¬ tryW y n 1 = 0) : readC m y n = tryW y n 1 := if_pos h
theorem readC_b {m : Mem} {y : Word} {n : Int} (h : tryW y n 1 = 0) (hb : n < 0 ∨ m.words.length - 1 < n) : readC m y n = 4 := by
  unfold readC; rw [if_neg (fun q => q h), if_neg (by rw [inR_t]; omega)]
theorem readC_0 {m : Mem} {y : Word} {n : Int} (h : tryW y n 1 = 0) (hb : 0 ≤ n ∧ n ≤ m.words.length - 1) : readC m y n = 0 := by
  unfold readC; rw [if_neg (fun q => q h), if_pos (by rw [inR_t]; omega)]
theorem readM_t {m : Mem} {y : Word} {n : Int} (h : ¬ tryW y n 1 = 0) : readM m y n = (zW, tryW y n 1) := by
  unfold readM; rw [readC_t h, if_pos h]
theorem readM_b {m : Mem} {y : Word} {n : Int} (h : tryW y n 1 = 0) (hb : n < 0 ∨ m.words.length - 1 < n) : readM m y n = (zW, 4) := by
  unfold readM; rw [readC_b h hb, if_pos (by decide)]
theorem readM_0 {m : Mem} {y : Word} {n : Int} (h : tryW y n 1 = 0) (hb : 0 ≤ n ∧ n ≤ m.words.length - 1) : readM m y n = (filterW m.gone (takenW y (m.words.getD n.toNat (FT.zero .word))), 0) := by
  unfold readM; rw [readC_0 h hb, if_neg (fun q => q rfl)]
theorem writeC_t {m : Mem} {y w : Word} {n : Int} (h : ¬ tryW y n 2 = 0) : writeC m y n w = tryW y n 2 := if_pos h
theorem writeC_b {m : Mem} {y w : Word} {n : Int} (h : tryW y n 2 = 0) (hb : n < 0 ∨ m.words.length - 1 < n) : writeC m y n w = 4 := by
  unfold writeC; rw [if_neg (fun q => q h), if_pos (by rw [inR_f]; omega)]
theorem writeC_p {m : Mem} {y w : Word} {n : Int} (h : tryW y n 2 = 0) (hb : 0 ≤ n ∧ n ≤ m.words.length - 1) (hp : mayPut y w = false) : writeC m y n w = 3 := by
  unfold writeC; rw [if_neg (fun q => q h), if_neg (by rw [inR_f]; omega), if_pos hp]
theorem writeC_0 {m : Mem} {y w : Word} {n : Int} (h : tryW y n 2 = 0) (hb : 0 ≤ n ∧ n ≤ m.words.length - 1) (hp : mayPut y w = true) : writeC m y n w = 0 := by
  unfold writeC; rw [if_neg (fun q => q h), if_neg (by rw [inR_f]; omega), if_neg (by rw [hp]; decide)]
theorem fetchI_t {l : List Inst} {pc : Word} (h : ¬ tryW pc pc.n 4 = 0) : fetchI l pc = (zI, tryW pc pc.n 4) := if_pos h
theorem fetchI_b {l : List Inst} {pc : Word} (h : tryW pc pc.n 4 = 0) (hb : pc.n < 0 ∨ l.length - 1 < pc.n) : fetchI l pc = (zI, 4) := by
  unfold fetchI; rw [if_neg (fun q => q h), if_pos (.inl (by rw [inR_f]; omega))]
theorem fetchI_i {l : List Inst} {pc : Word} (h : tryW pc pc.n 4 = 0) (hi : insOk (l.getD pc.n.toNat (FT.zero .inst)) = false) : fetchI l pc = (zI, 4) := by
  unfold fetchI; rw [if_neg (fun q => q h), if_pos (.inr hi)]
theorem fetchI_0 {l : List Inst} {pc : Word} (h : tryW pc pc.n 4 = 0) (hb : 0 ≤ pc.n ∧ pc.n ≤ l.length - 1) (hi : insOk (l.getD pc.n.toNat (FT.zero .inst)) = true) : fetchI l pc = (l.getD pc.n.toNat (FT.zero .inst), 0) := by
  unfold fetchI; rw [if_neg (fun q => q h), if_neg (by rw [inR_f, hi]; rintro (h | h) <;> first | omega | cases h)]
theorem hasR (x : Inst) : hasC x.op 82 = (andI (maskI x.op) 1 != 0) := by
  obtain ⟨op, r, a, b, n⟩ := x
  dsimp only
  by_cases h : 1 ≤ op ∧ op ≤ 15
  · have hop : op = 1 ∨ op = 2 ∨ op = 3 ∨ op = 4 ∨ op = 5 ∨ op = 6 ∨ op = 7 ∨ op = 8 ∨ op = 9 ∨ op = 10 ∨ op = 11 ∨ op = 12 ∨ op = 13 ∨ op = 14 ∨ op = 15 := by omega
    rcases hop with rfl | rfl | rfl | rfl | rfl | rfl | rfl | rfl | rfl | rfl | rfl | rfl | rfl | rfl | rfl <;> decide
  · have e1 : maskI op = 0 := by unfold maskI; rw [if_neg (by rw [inR_t]; exact h)]
    have e2 : formS op = ⟨#[]⟩ := by
      unfold formS
      rw [if_neg (by omega), if_neg (by omega), if_neg (by omega), if_neg (by omega), if_neg (by omega), if_neg (by omega), if_neg (by omega), if_neg (by omega)]
    rw [e1, hasC, e2]; decide

theorem maskI_out {op : Int} (h : ¬ (1 ≤ op ∧ op ≤ 15)) : maskI op = 0 := by unfold maskI; rw [if_neg (by rw [inR_t]; exact h)]
theorem sets_op {x : Inst} (h : 0 ≤ setsI x) : 1 ≤ x.op ∧ x.op ≤ 15 := by
  by_cases e : 1 ≤ x.op ∧ x.op ≤ 15
  · exact e
  · unfold setsI at h
    rw [maskI_out e, if_pos (by decide)] at h
    omega
theorem setsI_yes {x : Inst} (h : hasC x.op 82 = true) : setsI x = x.r := by
  rw [hasR] at h; unfold setsI; rw [if_neg (by simpa using h)]
theorem setsI_no {x : Inst} (h : hasC x.op 82 = false) : setsI x = -1 := by
  rw [hasR] at h; unfold setsI; rw [if_pos (by simpa using h)]
theorem workE_pos {x : Inst} {pc a b got : Word} (h1 : ¬ x.op = 11) (h2 : ¬ x.op = 12) (h3 : ¬ x.op = 13) (h4 : ¬ x.op = 14) (h5 : ¬ x.op = 15) (h : 0 ≤ setsI x) :
    workE x pc a b got = ⟨0, setsI x, madeW x a b got, nextW pc, -1, zW, -1⟩ := by
  unfold workE
  rw [if_neg h1, if_neg h2, if_neg h3, if_neg h4, if_neg h5]
  cases hb : hasC x.op 82 with
  | true => rw [setsI_yes hb] at h ⊢; rw [if_pos rfl, if_pos h]
  | false => rw [setsI_no hb] at h; omega
theorem workE_neg {x : Inst} {pc a b got : Word} (h1 : ¬ x.op = 11) (h2 : ¬ x.op = 12) (h3 : ¬ x.op = 13) (h4 : ¬ x.op = 14) (h5 : ¬ x.op = 15) (h : ¬ 0 ≤ setsI x) :
    workE x pc a b got = ⟨0, setsI x, zW, nextW pc, -1, zW, -1⟩ := by
  unfold workE
  rw [if_neg h1, if_neg h2, if_neg h3, if_neg h4, if_neg h5]
  cases hb : hasC x.op 82 with
  | true => rw [setsI_yes hb] at h ⊢; rw [if_pos rfl, if_neg h]
  | false => rw [setsI_no hb]; rfl

def memE (m : Mem) (x : Inst) (a b : Word) : Word × Int :=
  if x.op = 10 then readM m a (IntKind.i64.wrap (a.n + x.n)) else if x.op = 11 then (zW, writeC m a (IntKind.i64.wrap (a.n + x.n)) b) else (zW, 0)
def effE (l : List Inst) (s : State) : Eff :=
  let x := (fetchI l s.pc).1
  let a := s.regs.getD x.a.toNat (FT.zero .word)
  let b := s.regs.getD x.b.toNat (FT.zero .word)
  if (fetchI l s.pc).2 ≠ 0 then trapE (fetchI l s.pc).2 s.pc else
  if (memE s.mem x a b).2 ≠ 0 then trapE (memE s.mem x a b).2 s.pc else workE x s.pc a b (memE s.mem x a b).1
def putE (s : State) (e : Eff) : State :=
  ⟨if inR e.r 0 7 then s.regs.set e.r.toNat e.val else s.regs, e.next,
   ⟨if inR e.addr 0 23 then s.mem.words.set e.addr.toNat e.put else s.mem.words, if inR e.drop 0 23 then s.mem.gone.set e.drop.toNat true else s.mem.gone⟩, s.trap⟩
abbrev zState : State := ⟨[], zW, ⟨[], []⟩, 0⟩
def stepS (l : List Inst) (s : State) : State :=
  if stateOk s = false then zState else if s.trap ≠ 0 then s else if (effE l s).trap ≠ 0 then ⟨s.regs, s.pc, s.mem, (effE l s).trap⟩ else putE s (effE l s)
def LenOk (s : State) : Prop := s.regs.length = 8 ∧ s.mem.words.length = 24 ∧ s.mem.gone.length = 24
theorem stateOk_len {s : State} (h : stateOk s = true) : LenOk s := by
  simp only [stateOk, memoryOk, Bool.and_eq_true, decide_eq_true_eq] at h
  exact ⟨h.1.1.1.1, h.1.2.1.1, h.1.2.1.2⟩
theorem LenOk.l {s : State} (h : LenOk s) : LState s 2147483647 := by
  obtain ⟨h1, h2, h3⟩ := h; exact ⟨by omega, by omega, by omega⟩
theorem fld_in {v : Int} {b : Bool} (h : fld v b = true) : 0 ≤ v ∧ v ≤ 7 := by
  simp only [fld, Bool.and_eq_true, inR_t] at h; exact h.1
theorem fetchI_ok {l : List Inst} {pc : Word} (h : (fetchI l pc).2 = 0) : insOk (fetchI l pc).1 = true := by
  unfold fetchI at h ⊢
  split at h
  · contradiction
  · rename_i h1
    rw [if_neg h1]
    split at h
    · cases h
    · rename_i h2
      rw [if_neg h2]
      cases e : insOk (l.getD pc.n.toNat (FT.zero .inst)) with
      | true => rfl
      | false => exact absurd (.inr e) h2
theorem insOk_in {x : Inst} (h : insOk x = true) : (0 ≤ x.a ∧ x.a ≤ 7) ∧ (0 ≤ x.b ∧ x.b ≤ 7) := by
  simp only [insOk, Bool.and_eq_true] at h
  exact ⟨fld_in h.1.1.1.2, fld_in h.1.1.2⟩
theorem fetchI_in {l : List Inst} {pc : Word} (h : (fetchI l pc).2 = 0) : (0 ≤ (fetchI l pc).1.a ∧ (fetchI l pc).1.a ≤ 7) ∧ (0 ≤ (fetchI l pc).1.b ∧ (fetchI l pc).1.b ≤ 7) := insOk_in (fetchI_ok h)
theorem memE_10 {m : Mem} {x : Inst} {a b : Word} (h : x.op = 10) : memE m x a b = readM m a (IntKind.i64.wrap (a.n + x.n)) := if_pos h
theorem memE_11 {m : Mem} {x : Inst} {a b : Word} (h0 : ¬ x.op = 10) (h : x.op = 11) : memE m x a b = (zW, writeC m a (IntKind.i64.wrap (a.n + x.n)) b) := by unfold memE; rw [if_neg h0, if_pos h]
theorem memE_x {m : Mem} {x : Inst} {a b : Word} (h0 : ¬ x.op = 10) (h : ¬ x.op = 11) : memE m x a b = (zW, 0) := by unfold memE; rw [if_neg h0, if_neg h]

theorem stateOk_trap {s : State} (h : stateOk s = true) : 0 ≤ s.trap ∧ s.trap ≤ 5 := by
  simp only [stateOk, Bool.and_eq_true, inR_t] at h; exact h.2
theorem stepS_no {l : List Inst} {s : State} (h : stateOk s = false) : stepS l s = zState := if_pos h
theorem stepS_trap {l : List Inst} {s : State} (h : stateOk s = true) (h2 : ¬ s.trap = 0) : stepS l s = s := by
  unfold stepS; rw [if_neg (by rw [h]; decide), if_pos h2]
theorem stepS_e {l : List Inst} {s : State} (h : stateOk s = true) (h2 : s.trap = 0) (h3 : ¬ (effE l s).trap = 0) : stepS l s = ⟨s.regs, s.pc, s.mem, (effE l s).trap⟩ := by
  unfold stepS; rw [if_neg (by rw [h]; decide), if_neg (by simpa using h2), if_pos h3]
theorem stepS_0 {l : List Inst} {s : State} (h : stateOk s = true) (h2 : s.trap = 0) (h3 : (effE l s).trap = 0) : stepS l s = putE s (effE l s) := by
  unfold stepS; rw [if_neg (by rw [h]; decide), if_neg (by simpa using h2), if_neg (by simpa using h3)]
theorem trapE_trap (c : Int) (pc : Word) : (trapE c pc).trap = c := rfl

def pf_laws_toIns : PF := ⟨[.c 2 true 5], .seq (.reg [.s (.box 1 (.t 0)), .s (.alloc 2 [.int .i64 0, .int .i64 0, .int .i64 0, .int .i64 0, .int .i64 0])]) (.seq (.reg [.s (.alloc 3 [.int .i64 0, .int .i64 0, .int .i64 0, .int .i64 0, .int .i64 0])]) (.seq (.reg [.s (.fa 4 (.t 1) 0), .s (.load 5 false 1 (.t 4)), .s (.fa 6 (.t 3) 0), .s (.store 1 (.t 6) (.t 5))]) (.seq (.reg [.s (.fa 7 (.t 1) 1), .s (.load 8 false 1 (.t 7)), .s (.fa 9 (.t 3) 1), .s (.store 1 (.t 9) (.t 8))]) (.seq (.reg [.s (.fa 10 (.t 1) 2), .s (.load 11 false 1 (.t 10)), .s (.fa 12 (.t 3) 2), .s (.store 1 (.t 12) (.t 11))]) (.seq (.reg [.s (.fa 13 (.t 1) 3), .s (.load 14 false 1 (.t 13)), .s (.fa 15 (.t 3) 3), .s (.store 1 (.t 15) (.t 14))]) (.seq (.reg [.s (.fa 16 (.t 1) 4), .s (.load 17 false 1 (.t 16)), .s (.fa 18 (.t 3) 4), .s (.store 1 (.t 18) (.t 17))]) (.seq (.reg [.s (.load 19 true 5 (.t 3)), .s (.store 5 (.t 2) (.t 19))]) (.ret))))))))⟩
def c_laws_toIns : Fun := ⟨112, [], fun ts K => as1 ts fun t0 => arG pInstT t0 fun a => K (tG (a.tc [])) []⟩
theorem run_laws_toIns (a : Inst) : runK [] (0) [] pf_laws_toIns [tG (a.tc [])] fun r o => r = tG (a.tc []) ∧ o = [] := by
  conv => whnf
  repeat' (first
    | exact rfl
    | exact trivial
    | (refine sel_i (fun h => ?_) (fun h => ?_) <;> conv => whnf)
    | (refine chk_c ?_ ?_ <;> conv => whnf)
    | (refine And.intro ?_ ?_ <;> conv => whnf))
theorem ok_laws_toIns : FunOk Try.prog c_laws_toIns := funOk (E := []) (envOk_nil) mixd Try.func112 (pf := pf_laws_toIns) (by kernel_rfl) fun ts K h => by
  obtain ⟨t0, e0, h⟩ := as1_out h
  subst e0
  obtain ⟨a, e1, hq⟩ := arG_out rd_inst h
  clear h
  subst e1
  have h := hq
  clear hq
  exact ⟨_, _, h, Nat.le_of_ble_eq_true (show Nat.ble 1 Try.f112.ntmps = true by kernel_rfl), _, run_laws_toIns a⟩

def pf_laws_szInsS : PF := ⟨[.t 4], .seq (.reg [.s (.mv 4 (.k (.v (.c (.int .i64 0)))))]) (.seq (.reg [.s (.mv 5 (.t 1)), .s (.mv 6 (.t 0)), .s (.len 7 false (.t 6)), .s (.bin 8 .sub (.t 5) (.t 7)), .s (.mv 1 (.t 8))]) (.seq (.seq (.reg [.s (.mv 9 (.t 1)), .s (.bin 10 .lss (.t 9) (.k (.v (.c (.int .i64 0)))))]) (.cond (.t 10) (.seq (.reg [.s (.mv 4 (.k (.v (.c (.int .i64 (-1))))))]) (.ret)) (.skip))) (.seq (.reg [.s (.mv 11 (.t 1)), .s (.mv 4 (.t 11))]) (.ret))))⟩
def c_laws_szInsS : Fun := ⟨50, [], fun ts K => as2 ts fun t0 t1 => arC (pL .inst) t0 fun a => arC (pI .i64) t1 fun k => chk (a.length ≤ 9223372036854775807 ∧ 0 ≤ k ∧ k ≤ 1048576) (K (tN (szr k a.length)) [])⟩
theorem run_laws_szInsS (a : List (FT.Ty .inst)) (k : Int) (hpre : a.length ≤ 9223372036854775807 ∧ 0 ≤ k ∧ k ≤ 1048576) : runK [] (0) [] pf_laws_szInsS [tL false .inst a, tI .i64 k] fun r o => r = tN (szr k a.length) ∧ o = [] := by
  conv => whnf
  rw [wrap_id (by omega) (by omega)]
  refine sel_i (fun h => ?_) (fun h => ?_) <;> conv => whnf
  · refine ⟨?_, rfl⟩; rw [szr_t (by simpa using h)]
  · refine ⟨?_, rfl⟩; rw [szr_f (by simpa using h)]
theorem ok_laws_szInsS : FunOk Try.prog c_laws_szInsS := funOk (E := []) (envOk_nil) mixd Try.func50 (pf := pf_laws_szInsS) (by kernel_rfl) fun ts K h => by
  obtain ⟨t0, t1, e0, h⟩ := as2_out h
  subst e0
  obtain ⟨a, e1, hq⟩ := arC_out (rd_l .inst) h
  clear h
  subst e1
  have h := hq
  clear hq
  obtain ⟨k, e1, hq⟩ := arC_out (rd_int .i64) h
  clear h
  subst e1
  have h := hq
  clear hq
  obtain ⟨hpre, h⟩ := chk_o h
  exact ⟨_, _, h, Nat.le_of_ble_eq_true (show Nat.ble 2 Try.f50.ntmps = true by kernel_rfl), _, run_laws_szInsS a k hpre⟩

def lb_laws_toInsS_0 : PC := .seq (.seq (.reg [.s (.mv 8 (.t 4)), .s (.mv 9 (.t 0)), .s (.len 10 false (.t 9)), .s (.bin 11 .lss (.t 8) (.t 10))]) (.cond (.t 11) (.skip) (.exit 0))) (.seq (.blk 1 (.reg [.s (.mv 14 (.t 3)), .s (.mv 15 (.t 4)), .s (.mv 16 (.t 0)), .s (.mv 17 (.t 4)), .s (.ia 18 .inst (.t 16) (.t 17)), .s (.load 19 true 5 (.t 18)), .s (.call (some 20) 112 [(.t 19)]), .s (.ia 21 .inst (.t 14) (.t 15)), .s (.store 5 (.t 21) (.t 20))])) (.reg [.s (.mv 12 (.t 4)), .s (.bin 13 .add (.t 12) (.k (.v (.c (.int .i64 1))))), .s (.mv 4 (.t 13))]))
def pf_laws_toInsS : PF := ⟨[.t 2], .seq (.reg [.s (.mv 2 (.k (.v (.c (.nils .inst)))))]) (.seq (.reg [.s (.mv 5 (.t 0)), .s (.len 6 false (.t 5)), .s (.mkS 7 .inst (.t 6)), .s (.mv 3 (.t 7))]) (.seq (.seq (.reg [.s (.mv 4 (.k (.v (.c (.int .i64 0)))))]) (.blk 0 (.loop [0, 3, 4] lb_laws_toInsS_0))) (.seq (.reg [.s (.mv 22 (.t 3)), .s (.mv 2 (.t 22))]) (.ret))))⟩
def c_laws_toInsS : Fun := ⟨52, [], fun ts K => as1 ts fun t0 => arC (pL .inst) t0 fun a => chk (a.length ≤ 2147483647) (K (tL true .inst a) [])⟩
theorem run_laws_toInsS (a : List (FT.Ty .inst)) (hpre : a.length ≤ 2147483647) : runK [c_laws_toIns] (a.length + 1) [] pf_laws_toInsS [tL false .inst a] fun r o => r = tL true .inst a ∧ o = [] := by
  conv => whnf
  refine chk_i ⟨by omega, by omega⟩ ?_
  conv => whnf
  refine loop (α := Nat × List (FT.Ty .inst)) (fun p => ⟨[(0, .v (.c (.sl false .inst 0))), (3, .v (.c (.sl true .inst 1))), (4, .v (.c (.int .i64 (p.1 : Int))))], [(1, some (.flat true .inst none p.2)), (0, some (.flat false .inst none a))], nums.tail.tail, [], false, []⟩)
      (fun p => p.1 ≤ a.length ∧ p.2 = a.take p.1 ++ (List.replicate a.length (FT.zero .inst)).drop p.1) (fun p => a.length - p.1) (fun p R hI hR => ?_) (0, List.replicate a.length (FT.zero .inst)) _ ⟨by simp, by simp⟩ (by simp)
  obtain ⟨i, xs⟩ := p
  obtain ⟨hi, hx⟩ := hI
  dsimp only at hi hx
  have hlen : xs.length = a.length := by rw [hx]; simp; omega
  dsimp only
  conv => whnf
  refine sel_i (fun h2 => ?_) (fun h2 => ?_)
  · have hlt : i < a.length := by simp at h2; omega
    have hge : a[i]? = some (a.getD i (FT.zero .inst)) := by simp [List.getD_eq_getElem?_getD, hlt]
    conv => whnf
    repeat' (refine chk_c ?_ ?_ <;> conv => whnf)
    all_goals first
      | (refine ⟨?_⟩; omega)
      | (refine ⟨?_⟩; simp; done)
      | (refine ⟨?_⟩; simp; omega)
      | skip
    simp (disch := omega) only [wrap_id, Int.toNat_natCast]
    exact hR (i + 1, xs.set i (a.getD i (FT.zero .inst))) ⟨by omega, by rw [hx]; exact set_mid (by simp) (by simpa using hlt) hge⟩ (by simp; omega)
  · have hge : i = a.length := by simp at h2; omega
    subst hge
    conv => whnf
    refine ⟨?_, rfl⟩
    rw [hx, List.take_of_length_le (by omega), List.drop_eq_nil_of_le (by simp), List.append_nil]
theorem ok_laws_toInsS : FunOk Try.prog c_laws_toInsS := funOk (E := [c_laws_toIns]) (envOk_cons ok_laws_toIns (envOk_nil)) mixd Try.func52 (pf := pf_laws_toInsS) (by kernel_rfl) fun ts K h => by
  obtain ⟨t0, e0, h⟩ := as1_out h
  subst e0
  obtain ⟨a, e1, hq⟩ := arC_out (rd_l .inst) h
  clear h
  subst e1
  have h := hq
  clear hq
  obtain ⟨hpre, h⟩ := chk_o h
  exact ⟨_, _, h, Nat.le_of_ble_eq_true (show Nat.ble 1 Try.f52.ntmps = true by kernel_rfl), _, run_laws_toInsS a hpre⟩

def lb_laws_toIntS_0 : PC := .seq (.seq (.reg [.s (.mv 8 (.t 4)), .s (.mv 9 (.t 0)), .s (.len 10 false (.t 9)), .s (.bin 11 .lss (.t 8) (.t 10))]) (.cond (.t 11) (.skip) (.exit 0))) (.seq (.blk 1 (.reg [.s (.mv 14 (.t 3)), .s (.mv 15 (.t 4)), .s (.mv 16 (.t 0)), .s (.mv 17 (.t 4)), .s (.ia 18 (.int .i64) (.t 16) (.t 17)), .s (.load 19 false 1 (.t 18)), .s (.ia 20 (.int .i64) (.t 14) (.t 15)), .s (.store 1 (.t 20) (.t 19))])) (.reg [.s (.mv 12 (.t 4)), .s (.bin 13 .add (.t 12) (.k (.v (.c (.int .i64 1))))), .s (.mv 4 (.t 13))]))
def pf_laws_toIntS : PF := ⟨[.t 2], .seq (.reg [.s (.mv 2 (.k (.v (.c (.nils (.int .i64))))))]) (.seq (.reg [.s (.mv 5 (.t 0)), .s (.len 6 false (.t 5)), .s (.mkS 7 (.int .i64) (.t 6)), .s (.mv 3 (.t 7))]) (.seq (.seq (.reg [.s (.mv 4 (.k (.v (.c (.int .i64 0)))))]) (.blk 0 (.loop [0, 3, 4] lb_laws_toIntS_0))) (.seq (.reg [.s (.mv 21 (.t 3)), .s (.mv 2 (.t 21))]) (.ret))))⟩
def c_laws_toIntS : Fun := ⟨57, [], fun ts K => as1 ts fun t0 => arC (pL (.int .i64)) t0 fun a => chk (a.length ≤ 2147483647) (K (tL true (.int .i64) a) [])⟩
theorem run_laws_toIntS (a : List (FT.Ty (.int .i64))) (hpre : a.length ≤ 2147483647) : runK [] (a.length + 1) [] pf_laws_toIntS [tL false (.int .i64) a] fun r o => r = tL true (.int .i64) a ∧ o = [] := by
  conv => whnf
  refine chk_i ⟨by omega, by omega⟩ ?_
  conv => whnf
  refine loop (α := Nat × List (FT.Ty (.int .i64))) (fun p => ⟨[(0, .v (.c (.sl false (.int .i64) 0))), (3, .v (.c (.sl true (.int .i64) 1))), (4, .v (.c (.int .i64 (p.1 : Int))))], [(1, some (.flat true (.int .i64) none p.2)), (0, some (.flat false (.int .i64) none a))], nums.tail.tail, [], false, []⟩)
      (fun p => p.1 ≤ a.length ∧ p.2 = a.take p.1 ++ (List.replicate a.length (FT.zero (.int .i64))).drop p.1) (fun p => a.length - p.1) (fun p R hI hR => ?_) (0, List.replicate a.length (FT.zero (.int .i64))) _ ⟨by simp, by simp⟩ (by simp)
  obtain ⟨i, xs⟩ := p
  obtain ⟨hi, hx⟩ := hI
  dsimp only at hi hx
  have hlen : xs.length = a.length := by rw [hx]; simp; omega
  dsimp only
  conv => whnf
  refine sel_i (fun h2 => ?_) (fun h2 => ?_)
  · have hlt : i < a.length := by simp at h2; omega
    have hge : a[i]? = some (a.getD i (FT.zero (.int .i64))) := by simp [List.getD_eq_getElem?_getD, hlt]
    conv => whnf
    repeat' (refine chk_c ?_ ?_ <;> conv => whnf)
    all_goals first
      | (refine ⟨?_⟩; omega)
      | (refine ⟨?_⟩; simp; done)
      | (refine ⟨?_⟩; simp; omega)
      | skip
    simp (disch := omega) only [wrap_id, Int.toNat_natCast]
    exact hR (i + 1, xs.set i (a.getD i (FT.zero (.int .i64)))) ⟨by omega, by rw [hx]; exact set_mid (by simp) (by simpa using hlt) hge⟩ (by simp; omega)
  · have hge : i = a.length := by simp at h2; omega
    subst hge
    conv => whnf
    refine ⟨?_, rfl⟩
    rw [hx, List.take_of_length_le (by omega), List.drop_eq_nil_of_le (by simp), List.append_nil]
theorem ok_laws_toIntS : FunOk Try.prog c_laws_toIntS := funOk (E := []) (envOk_nil) mixd Try.func57 (pf := pf_laws_toIntS) (by kernel_rfl) fun ts K h => by
  obtain ⟨t0, e0, h⟩ := as1_out h
  subst e0
  obtain ⟨a, e1, hq⟩ := arC_out (rd_l (.int .i64)) h
  clear h
  subst e1
  have h := hq
  clear hq
  obtain ⟨hpre, h⟩ := chk_o h
  exact ⟨_, _, h, Nat.le_of_ble_eq_true (show Nat.ble 1 Try.f57.ntmps = true by kernel_rfl), _, run_laws_toIntS a hpre⟩

def szState (s : State) (k : Int) : Int := szB (szr k s.regs.length) fun k => szMem s.mem k
theorem szMem_ge (m : Mem) {k : Int} (h : 0 ≤ k) : -1 ≤ szMem m k := by
  unfold szMem szB; split
  · omega
  · exact szr_ge
theorem szState_n {s : State} {k : Int} (h0 : k ≤ 1048576) (h : 0 ≤ szState s k) : LState s 1048576 := by
  obtain ⟨h1, h2, _⟩ := szB_pos h
  have h4 := szr_n h1
  have h5 := szMem_n (by omega) h2
  exact ⟨by omega, h5.1⟩
theorem LState.mono {t : State} {n m : Nat} (h : LState t n) (k : n ≤ m) : LState t m := ⟨Nat.le_trans h.1 k, Nat.le_trans h.2.1 k, Nat.le_trans h.2.2 k⟩
theorem lState_of {t : State} (h : WState t) : LState t 9223372036854775807 := ⟨h.1.2, h.2.2.1.1.2, h.2.2.1.2.2⟩
def seenOf (l : List Inst) (s : State) : Seen × Bool :=
  if stateOk s = false ∨ s.trap ≠ 0 then (⟨0, 0, 0, 0⟩, false) else (⟨s.pc.n, (effE l s).r, (effE l s).addr, (effE l s).trap⟩, true)
theorem seenOf_no {l : List Inst} {s : State} (h : stateOk s = false) : seenOf l s = (⟨0, 0, 0, 0⟩, false) := if_pos (.inl h)
theorem seenOf_t {l : List Inst} {s : State} (h : ¬ s.trap = 0) : seenOf l s = (⟨0, 0, 0, 0⟩, false) := if_pos (.inr h)
theorem seenOf_0 {l : List Inst} {s : State} (h : stateOk s = true) (h2 : s.trap = 0) : seenOf l s = (⟨s.pc.n, (effE l s).r, (effE l s).addr, (effE l s).trap⟩, true) :=
  if_neg (by rintro (q | q); · rw [h] at q; cases q
             · exact q h2)

def pf_laws_szState : PF := ⟨[.t 4], .seq (.reg [.s (.box 2 (.t 0)), .s (.mv 4 (.k (.v (.c (.int .i64 0)))))]) (.seq (.reg [.s (.fa 5 (.t 2) 0), .s (.load 6 false 1 (.t 5)), .s (.mv 7 (.t 1)), .s (.call (some 8) 69 [(.t 6), (.t 7)]), .s (.mv 1 (.t 8))]) (.seq (.seq (.reg [.s (.mv 9 (.t 1)), .s (.bin 10 .lss (.t 9) (.k (.v (.c (.int .i64 0)))))]) (.cond (.t 10) (.seq (.reg [.s (.mv 4 (.k (.v (.c (.int .i64 (-1))))))]) (.ret)) (.skip))) (.seq (.reg [.s (.fa 11 (.t 2) 7), .s (.load 12 true 2 (.t 11)), .s (.mv 13 (.t 1)), .s (.call (some 14) 70 [(.t 12), (.t 13)]), .s (.mv 1 (.t 14))]) (.seq (.seq (.reg [.s (.mv 15 (.t 1)), .s (.bin 16 .lss (.t 15) (.k (.v (.c (.int .i64 0)))))]) (.cond (.t 16) (.seq (.reg [.s (.mv 4 (.k (.v (.c (.int .i64 (-1))))))]) (.ret)) (.skip))) (.seq (.reg [.s (.mv 17 (.t 1)), .s (.mv 4 (.t 17))]) (.ret))))))⟩
def c_laws_szState : Fun := ⟨19, [], fun ts K => as2 ts fun t0 t1 => arG pStateT t0 fun m => arC (pI .i64) t1 fun k => chk (LState m 9223372036854775807 ∧ 0 ≤ k ∧ k ≤ 1048576) (K (tN (szState m k)) [])⟩
theorem run_laws_szState (m : State) (k : Int) (hpre : LState m 9223372036854775807 ∧ 0 ≤ k ∧ k ≤ 1048576) : runK [c_laws_szWordS, c_laws_szMemory] (0) [] pf_laws_szState [tG (m.tc false []), tI .i64 k] fun r o => r = tN (szState m k) ∧ o = [] := by
  obtain ⟨⟨l1, l2⟩, hk, hk2⟩ := hpre
  have h0 := szr_le (n := m.regs.length) hk
  conv => whnf
  refine chk_i ⟨l1, hk, hk2⟩ ?_
  conv => whnf
  refine sel_i (fun h => ?_) (fun h => ?_)
  · conv => whnf
    refine ⟨?_, rfl⟩; simp at h; simp [szState, szB, h]
  · have h : 0 ≤ szr k m.regs.length := by simpa using h
    conv => whnf
    refine chk_i ⟨l2, h, show szr k m.regs.length ≤ _ by omega⟩ ?_
    conv => whnf
    repeat' (first | (refine sel_i (fun h => ?_) (fun h => ?_) <;> conv => whnf) | (refine chk_c ?_ ?_ <;> conv => whnf) | (refine And.intro ?_ rfl) | (refine And.intro ?_ ?_ <;> conv => whnf))
    · have h3 : szMem m.mem (szr k m.regs.length) < 0 := by simpa [etaMemory] using h
      have h4 := szMem_ge m.mem (k := szr k m.regs.length) (by assumption)
      have e : szState m k = szMem m.mem (szr k m.regs.length) := by unfold szState szB; rw [if_neg (by omega)]
      rw [e, show szMem m.mem (szr k m.regs.length) = -1 by omega]
    · have e : szState m k = szMem m.mem (szr k m.regs.length) := by unfold szState szB; rw [if_neg (by omega)]
      rw [e]
theorem ok_laws_szState : FunOk Try.prog c_laws_szState := funOk (E := [c_laws_szWordS, c_laws_szMemory]) (envOk_cons ok_laws_szWordS (envOk_cons ok_laws_szMemory (envOk_nil))) mixd Try.func19 (pf := pf_laws_szState) (by kernel_rfl) fun ts K h => by
  obtain ⟨t0, t1, e0, h⟩ := as2_out h
  subst e0
  obtain ⟨m, e1, hq⟩ := arG_out rd_state h
  clear h
  subst e1
  have h := hq
  clear hq
  obtain ⟨k, e1, hq⟩ := arC_out (rd_int .i64) h
  clear h
  subst e1
  have h := hq
  clear hq
  obtain ⟨hpre, h⟩ := chk_o h
  exact ⟨_, _, h, Nat.le_of_ble_eq_true (show Nat.ble 2 Try.f19.ntmps = true by kernel_rfl), _, run_laws_szState m k hpre⟩

def pf_laws_toState : PF := ⟨[.c 2 true 10], .seq (.reg [.s (.box 1 (.t 0)), .s (.alloc 2 [.nils .word, .int .i64 0, .ff, .int .i64 0, .int .i64 0, .int .i64 0, .int .i64 0, .nils .word, .nils .bool, .int .i64 0])]) (.seq (.reg [.s (.alloc 3 [.nils .word, .int .i64 0, .ff, .int .i64 0, .int .i64 0, .int .i64 0, .int .i64 0, .nils .word, .nils .bool, .int .i64 0])]) (.seq (.reg [.s (.fa 4 (.t 1) 0), .s (.load 5 false 1 (.t 4)), .s (.call (some 6) 72 [(.t 5)]), .s (.fa 7 (.t 3) 0), .s (.store 1 (.t 7) (.t 6))]) (.seq (.reg [.s (.fa 8 (.t 1) 1), .s (.load 9 true 6 (.t 8)), .s (.call (some 10) 14 [(.t 9)]), .s (.fa 11 (.t 3) 1), .s (.store 6 (.t 11) (.t 10))]) (.seq (.reg [.s (.fa 12 (.t 1) 7), .s (.load 13 true 2 (.t 12)), .s (.call (some 14) 73 [(.t 13)]), .s (.fa 15 (.t 3) 7), .s (.store 2 (.t 15) (.t 14))]) (.seq (.reg [.s (.fa 16 (.t 1) 9), .s (.load 17 false 1 (.t 16)), .s (.fa 18 (.t 3) 9), .s (.store 1 (.t 18) (.t 17))]) (.seq (.reg [.s (.load 19 true 10 (.t 3)), .s (.store 10 (.t 2) (.t 19))]) (.ret)))))))⟩
def c_laws_toState : Fun := ⟨21, [], fun ts K => as1 ts fun t0 => arG pStateT t0 fun m => chk (LState m 2147483647) (K (tG (m.tc true [])) [])⟩
theorem run_laws_toState (m : State) (hpre : LState m 2147483647) : runK [c_laws_toWord, c_laws_toWordS, c_laws_toMemory] (0) [] pf_laws_toState [tG (m.tc false [])] fun r o => r = tG (m.tc true []) ∧ o = [] := by
  obtain ⟨l1, l2, l3⟩ := hpre
  conv => whnf
  repeat' (first | (refine chk_c ?_ ?_ <;> conv => whnf) | (refine And.intro ?_ ?_ <;> conv => whnf))
  all_goals first
    | (refine ⟨?_⟩; omega)
    | (refine ⟨?_⟩; simp; done)
    | (refine ⟨?_⟩; simp [LMem, LTwo] at *; omega)
    | rfl
    | exact True.intro
    | exact ⟨rfl, rfl⟩
theorem ok_laws_toState : FunOk Try.prog c_laws_toState := funOk (E := [c_laws_toWord, c_laws_toWordS, c_laws_toMemory]) (envOk_cons ok_laws_toWord (envOk_cons ok_laws_toWordS (envOk_cons ok_laws_toMemory (envOk_nil)))) mixd Try.func21 (pf := pf_laws_toState) (by kernel_rfl) fun ts K h => by
  obtain ⟨t0, e0, h⟩ := as1_out h
  subst e0
  obtain ⟨m, e1, hq⟩ := arG_out rd_state h
  clear h
  subst e1
  have h := hq
  clear hq
  obtain ⟨hpre, h⟩ := chk_o h
  exact ⟨_, _, h, Nat.le_of_ble_eq_true (show Nat.ble 1 Try.f21.ntmps = true by kernel_rfl), _, run_laws_toState m hpre⟩

def pf_laws_eqSeen : PF := ⟨[.t 4], .seq (.reg [.s (.box 2 (.t 0)), .s (.box 3 (.t 1)), .s (.mv 4 (.k (.v (.c .ff))))]) (.seq (.seq (.reg [.s (.fa 5 (.t 2) 0), .s (.load 6 false 1 (.t 5)), .s (.fa 7 (.t 3) 0), .s (.load 8 false 1 (.t 7)), .s (.bin 9 .neq (.t 6) (.t 8))]) (.cond (.t 9) (.seq (.reg [.s (.mv 4 (.k (.v (.c .ff))))]) (.ret)) (.skip))) (.seq (.seq (.reg [.s (.fa 10 (.t 2) 1), .s (.load 11 false 1 (.t 10)), .s (.fa 12 (.t 3) 1), .s (.load 13 false 1 (.t 12)), .s (.bin 14 .neq (.t 11) (.t 13))]) (.cond (.t 14) (.seq (.reg [.s (.mv 4 (.k (.v (.c .ff))))]) (.ret)) (.skip))) (.seq (.seq (.reg [.s (.fa 15 (.t 2) 2), .s (.load 16 false 1 (.t 15)), .s (.fa 17 (.t 3) 2), .s (.load 18 false 1 (.t 17)), .s (.bin 19 .neq (.t 16) (.t 18))]) (.cond (.t 19) (.seq (.reg [.s (.mv 4 (.k (.v (.c .ff))))]) (.ret)) (.skip))) (.seq (.seq (.reg [.s (.fa 20 (.t 2) 3), .s (.load 21 false 1 (.t 20)), .s (.fa 22 (.t 3) 3), .s (.load 23 false 1 (.t 22)), .s (.bin 24 .neq (.t 21) (.t 23))]) (.cond (.t 24) (.seq (.reg [.s (.mv 4 (.k (.v (.c .ff))))]) (.ret)) (.skip))) (.seq (.reg [.s (.mv 4 (.k (.v (.c .tt))))]) (.ret))))))⟩
def c_laws_eqSeen : Fun := ⟨110, [], fun ts K => as2 ts fun t0 t1 => arG pSeenT t0 fun a => arG pSeenT t1 fun b => K (tB (decide (a = b))) []⟩
theorem run_laws_eqSeen (a : Seen) (b : Seen) : runK [] (0) [] pf_laws_eqSeen [tG (a.tc []), tG (b.tc [])] fun r o => r = tB (decide (a = b)) ∧ o = [] := by
  obtain ⟨a1, a2, a3, a4⟩ := a
  obtain ⟨b1, b2, b3, b4⟩ := b
  conv => whnf
  repeat' (first | (refine sel_i (fun h => ?_) (fun h => ?_) <;> conv => whnf) | (refine chk_c ?_ ?_ <;> conv => whnf) | (refine And.intro ?_ rfl) | (refine And.intro ?_ ?_ <;> conv => whnf))
  all_goals (simp at *; simp [*])
theorem ok_laws_eqSeen : FunOk Try.prog c_laws_eqSeen := funOk (E := []) (envOk_nil) mixd Try.func110 (pf := pf_laws_eqSeen) (by kernel_rfl) fun ts K h => by
  obtain ⟨t0, t1, e0, h⟩ := as2_out h
  subst e0
  obtain ⟨a, e1, hq⟩ := arG_out rd_seen h
  clear h
  subst e1
  have h := hq
  clear hq
  obtain ⟨b, e1, hq⟩ := arG_out rd_seen h
  clear h
  subst e1
  have h := hq
  clear hq
  exact ⟨_, _, h, Nat.le_of_ble_eq_true (show Nat.ble 2 Try.f110.ntmps = true by kernel_rfl), _, run_laws_eqSeen a b⟩

theorem workE_0 {x : Inst} {pc a b got : Word} (h : (workE x pc a b got).trap = 0) :
    (workE x pc a b got).r = setsI x ∧ (workE x pc a b got).addr = if x.op = 11 then IntKind.i64.wrap (a.n + x.n) else -1 := by
  by_cases h1 : x.op = 11
  · have e : setsI x = -1 := by unfold setsI; rw [h1, if_pos (by decide)]
    rw [e]; unfold workE; rw [if_pos h1, if_pos h1]; exact ⟨rfl, rfl⟩
  rw [if_neg h1]
  by_cases h2 : x.op = 12
  · have e : setsI x = x.r := by unfold setsI; rw [h2, if_neg (by decide)]
    rw [e]; unfold workE at h ⊢; rw [if_neg h1, if_pos h2] at h ⊢
    by_cases h3 : tryW a a.n 4 ≠ 0
    · rw [if_pos h3] at h; exact absurd h h3
    · rw [if_neg h3]; exact ⟨rfl, rfl⟩
  by_cases h3 : x.op = 13
  · have e : setsI x = -1 := by unfold setsI; rw [h3, if_pos (by decide)]
    rw [e]; unfold workE; rw [if_neg h1, if_neg h2, if_pos h3]; exact ⟨rfl, rfl⟩
  by_cases h4 : x.op = 14
  · have e : setsI x = -1 := by unfold setsI; rw [h4, if_pos (by decide)]
    rw [e]; unfold workE at h ⊢; rw [if_neg h1, if_neg h2, if_neg h3, if_pos h4] at h ⊢
    by_cases h5 : tryW a a.n 32 ≠ 0
    · rw [if_pos h5] at h; exact absurd h h5
    · rw [if_neg h5]; exact ⟨rfl, rfl⟩
  by_cases h5 : x.op = 15
  · unfold workE at h; rw [if_neg h1, if_neg h2, if_neg h3, if_neg h4, if_pos h5] at h; cases h
  by_cases h6 : 0 ≤ setsI x
  · rw [workE_pos h1 h2 h3 h4 h5 h6]; exact ⟨rfl, rfl⟩
  · rw [workE_neg h1 h2 h3 h4 h5 h6]; exact ⟨rfl, rfl⟩
theorem workE_t {x : Inst} {pc a b got : Word} (h : ¬ (workE x pc a b got).trap = 0) : (workE x pc a b got).r = -1 ∧ (workE x pc a b got).addr = -1 := by
  unfold workE at h ⊢
  repeat' (first | (exact ⟨rfl, rfl⟩) | (exact absurd rfl h) | split at h)
  all_goals simp_all [trapE]
theorem effE_0 {l : List Inst} {s : State} (h : (effE l s).trap = 0) : (fetchI l s.pc).2 = 0 ∧ (effE l s).r = setsI (fetchI l s.pc).1 ∧
    (effE l s).addr = if (fetchI l s.pc).1.op = 11 then IntKind.i64.wrap ((s.regs.getD (fetchI l s.pc).1.a.toNat (FT.zero .word)).n + (fetchI l s.pc).1.n) else -1 := by
  by_cases h1 : (fetchI l s.pc).2 = 0
  · refine ⟨h1, ?_⟩
    unfold effE at h ⊢
    simp only at h ⊢
    rw [if_neg (by simpa using h1)] at h ⊢
    split at h
    · rename_i h2; exact absurd h h2
    · rename_i h2; rw [if_neg h2]; exact workE_0 h
  · unfold effE at h; simp only at h; rw [if_pos h1] at h; exact absurd h h1
theorem effE_t {l : List Inst} {s : State} (h : ¬ (effE l s).trap = 0) : (effE l s).r = -1 ∧ (effE l s).addr = -1 := by
  unfold effE at h ⊢
  simp only at h ⊢
  split at h
  · rename_i h1; rw [if_pos h1]; exact ⟨rfl, rfl⟩
  · rename_i h1; rw [if_neg h1]
    split at h
    · rename_i h2; rw [if_pos h2]; exact ⟨rfl, rfl⟩
    · rename_i h2; rw [if_neg h2]; exact workE_t h
theorem stepS_tr {l : List Inst} {s : State} (h : stateOk s = true) (h2 : s.trap = 0) : (stepS l s).trap = (effE l s).trap := by
  by_cases h3 : (effE l s).trap = 0
  · rw [stepS_0 h h2 h3, h3]; exact h2
  · rw [stepS_e h h2 h3]

def setSide (t : Two) (s : State) (who : Int) : Two :=
  if who = 1 then ⟨s.mem, t.a, ⟨s.regs, s.pc, s.trap⟩⟩ else ⟨s.mem, ⟨s.regs, s.pc, s.trap⟩, t.b⟩
def twoStep (a b : List Inst) (t : Two) (who : Int) : Two × Bool :=
  if twoOk t = false ∨ inR who 0 1 = false then (t, false) else (setSide t (stepS (if who = 1 then b else a) (sideState t who)) who, true)
theorem twoStep_no {a b : List Inst} {t : Two} {who : Int} (h : twoOk t = false) : twoStep a b t who = (t, false) := if_pos (.inl h)
theorem twoStep_w {a b : List Inst} {t : Two} {who : Int} (h : inR who 0 1 = false) : twoStep a b t who = (t, false) := if_pos (.inr h)
theorem twoStep_ok {a b : List Inst} {t : Two} {who : Int} (h : twoOk t = true) (h2 : inR who 0 1 = true) : twoStep a b t who = (setSide t (stepS (if who = 1 then b else a) (sideState t who)) who, true) :=
  if_neg (by rw [h, h2]; simp)
theorem twoStep_1 {a b : List Inst} {t : Two} {who : Int} (h : twoOk t = true) (h2 : inR who 0 1 = true) (h3 : who = 1) : twoStep a b t who = (⟨(stepS b (sideState t who)).mem, t.a, ⟨(stepS b (sideState t who)).regs, (stepS b (sideState t who)).pc, (stepS b (sideState t who)).trap⟩⟩, true) := by
  rw [twoStep_ok h h2, if_pos h3]; unfold setSide; rw [if_pos h3]
theorem twoStep_0 {a b : List Inst} {t : Two} {who : Int} (h : twoOk t = true) (h2 : inR who 0 1 = true) (h3 : ¬ who = 1) : twoStep a b t who = (⟨(stepS a (sideState t who)).mem, ⟨(stepS a (sideState t who)).regs, (stepS a (sideState t who)).pc, (stepS a (sideState t who)).trap⟩, t.b⟩, true) := by
  rw [twoStep_ok h h2, if_neg h3]; unfold setSide; rw [if_neg h3]

theorem setSide_len {t : Two} {s : State} {who : Int} {n : Nat} (h : LTwo t n) (hs : LState s n) : LTwo (setSide t s who) n := by
  unfold setSide; split
  · exact ⟨hs.2, h.2.1, hs.1⟩
  · exact ⟨hs.2, hs.1, h.2.2⟩
theorem putE_len {s : State} {e : Eff} {n : Nat} (h : LState s n) : LState (putE s e) n := by
  obtain ⟨h1, h2, h3⟩ := h
  unfold putE
  refine ⟨?_, ?_, ?_⟩
  · dsimp only; split
    · rw [List.length_set]; exact h1
    · exact h1
  · dsimp only; split
    · rw [List.length_set]; exact h2
    · exact h2
  · dsimp only; split
    · rw [List.length_set]; exact h3
    · exact h3
theorem stepS_len {l : List Inst} {s : State} {n : Nat} (h : LState s n) : LState (stepS l s) n := by
  unfold stepS
  split
  · exact ⟨Nat.zero_le _, Nat.zero_le _, Nat.zero_le _⟩
  · split
    · exact h
    · split
      · exact h
      · exact putE_len h
theorem twoStep_len {a b : List Inst} {t : Two} {who : Int} {n : Nat} (h : LTwo t n) : LTwo (twoStep a b t who).1 n := by
  unfold twoStep
  split
  · exact h
  · exact setSide_len h (stepS_len (sideState_len h))
theorem etaMTwo (m : Two) (k : Int) : (⟨(markTwo m k).mem, ⟨(markTwo m k).a.regs, m.a.pc, m.a.trap⟩, ⟨(markTwo m k).b.regs, m.b.pc, m.b.trap⟩⟩ : Two) = markTwo m k := rfl

def twoRunGo (a b : List Inst) : List Int → Two → Two
  | [], t => t
  | w :: ws, t => twoRunGo a b ws (twoStep a b t w).1
def twoRun (a b : List Inst) (t : Two) (o : List Int) : Two := if 600 < o.length then t else twoRunGo a b o t
theorem twoRunGo_len {a b : List Inst} {n : Nat} : ∀ {o : List Int} {t : Two}, LTwo t n → LTwo (twoRunGo a b o t) n
  | [], _, h => h
  | _ :: ws, _, h => twoRunGo_len (o := ws) (twoStep_len h)
theorem twoRun_len {a b : List Inst} {o : List Int} {t : Two} {n : Nat} (h : LTwo t n) : LTwo (twoRun a b t o) n := by
  unfold twoRun; split
  · exact h
  · exact twoRunGo_len h
theorem twoRunGo_step {a b : List Inst} {o : List Int} {t : Two} {i : Nat} (h : i < o.length) : twoRunGo a b (o.drop i) t = twoRunGo a b (o.drop (i + 1)) (twoStep a b t (o.getD i 0)).1 := by
  rw [List.drop_eq_getElem_cons h, List.getD_eq_getElem?_getD, List.getElem?_eq_getElem h]; rfl
theorem twoRun_end {a b : List Inst} {o : List Int} {t v : Two} {i : Nat} (h : ¬ (i : Int) < o.length) (hx : twoRunGo a b (o.drop i) v = twoRun a b t o) : twoRun a b t o = v := by
  rw [← hx, List.drop_eq_nil_of_le (by omega)]; rfl
theorem twoRun_big {a b : List Inst} {o : List Int} {t : Two} (h : 600 < o.length) : twoRun a b t o = t := if_pos h

theorem digits_rel : ∀ (n t : Nat) (acc : Array Value) (zs : List Int), acc.toList = zs.map (Value.int .u8) → ∃ ys, (Extern.BytealgMakeNoZero.digits n t acc).toList = (zs ++ ys).map (Value.int .u8) ∧ ys.length = n
  | 0, t, acc, zs, h => ⟨[], by rw [List.append_nil]; exact h, rfl⟩
  | n + 1, t, acc, zs, h => by
    obtain ⟨ys, h1, h2⟩ := digits_rel n (t / 256) (acc.push (.int .u8 (Int.ofNat (t % 256)))) (zs ++ [Int.ofNat (t % 256)]) (by simp [h])
    exact ⟨Int.ofNat (t % 256) :: ys, by rw [Extern.BytealgMakeNoZero.digits, h1]; simp, by simp [h2]⟩
theorem run_mnz {P : Program} (w : World) (ps : Array TypeId) (t e : TypeId) (ht : P.underlying t = some (.slice e)) (n : Nat) (hn : n ≤ 281474976710656) :
    ∃ (cs : Array Value) (zs : List Int), (Extern.BytealgMakeNoZero.makeNoZero ps #[t] #[.int .i64 n]).run P w = .ok (.slice (some ⟨w.heap.size, 0, none⟩) n cs.size) (w.drew.drew.alloc (.cells cs e)) ∧ n ≤ cs.size ∧ cs.toList = zs.map (Value.int .u8) := by
  obtain ⟨ys, h1, h2⟩ := digits_rel (grownCap w n 0 e) ((Question.extern "internal/bytealg.MakeNoZero.bytes" 0).cut (w.tape (w.drawn + 1) (.extern "internal/bytealg.MakeNoZero.bytes" 0))) #[] [] rfl
  have hsz := Lib.size_digits (grownCap w n 0 e) ((Question.extern "internal/bytealg.MakeNoZero.bytes" 0).cut (w.tape (w.drawn + 1) (.extern "internal/bytealg.MakeNoZero.bytes" 0))) #[]
  refine ⟨Extern.BytealgMakeNoZero.digits (grownCap w n 0 e) ((Question.extern "internal/bytealg.MakeNoZero.bytes" 0).cut (w.tape (w.drawn + 1) (.extern "internal/bytealg.MakeNoZero.bytes" 0))) #[], ys, ?_, ?_, by simpa using h1⟩
  · have k1 : ¬ (n : Int) < 0 := by omega
    have k2 : ¬ (281474976710656 : Int) < (n : Int) := by omega
    have hdef : Extern.BytealgMakeNoZero.makeNoZero ps #[t] #[.int .i64 n] =
      (do
        let .slice elem ← underlying t | stuck "bytealg.MakeNoZero: slice type expected"
        if (n : Int) < 0 || (n : Int) > 2 ^ 48 then runtimePanic (.error "makeslice: len out of range")
        let cap ← choose (.appendCap (n : Int).toNat 0 elem)
        askRoom cap
        let bytes ← choose (.extern "internal/bytealg.MakeNoZero.bytes" 0)
        let a ← newRow elem (Extern.BytealgMakeNoZero.digits cap bytes #[])
        pure (.slice (some a) (n : Int).toNat cap)) := rfl
    rw [hdef]
    simp [run_underlying ht, k1, k2, Question.forced, newRow, Lib.size_digits, grownCap]
  · rw [hsz]; simpa using grownCap_ge w n 0 e
def mnzFun (f : Nat) : Fun := ⟨f, [], fun ts K => as1 ts fun t0 => arC (pI .i64) t0 fun n => chk (0 ≤ n ∧ n ≤ 1000000) (∀ zs : List Int, zs.length = n.toNat → K (tL true (.int .u8) zs) [])⟩
theorem mnz_ok {P : Program} {f : Nat} {fn : Func} {ps : Array TypeId} {t e : TypeId} (hf : P.funcs[f]? = some fn) (hname : (fn.name == "runtime.NumGoroutine") = false)
    (hb : fn.body.isNone = true) (hn : Extern.findNext fn = none) (he : Extern.find fn = some (Extern.BytealgMakeNoZero.makeNoZero ps #[t])) (ht : P.underlying t = some (.slice e)) : FunOk P (mnzFun f) := by
  intro ts K h
  obtain ⟨t0, e0, h⟩ := as1_out h
  subst e0
  obtain ⟨n, e1, h⟩ := arC_out (rd_int .i64) h
  subst e1
  obtain ⟨⟨h0, h1⟩, h⟩ := chk_o h
  intro w vs F G hrep _ _ _
  obtain ⟨v, vs', hvs⟩ : ∃ v vs', vs = v :: vs' := by cases vs with
    | nil => exact hrep.elim
    | cons v vs' => exact ⟨v, vs', rfl⟩
  subst hvs
  obtain ⟨F1, F2, G1, G2, hv, hr, rfl, rfl⟩ := hrep
  have hv' : v = .int .i64 n ∧ F1 = [] ∧ G1 = [] := hv
  obtain ⟨rfl, rfl, rfl⟩ := hv'
  cases vs' with
  | cons _ _ => exact hr.elim
  | nil =>
  obtain ⟨rfl, rfl⟩ := hr
  obtain ⟨m, rfl⟩ : ∃ m : Nat, n = m := ⟨n.toNat, by omega⟩
  obtain ⟨cs, zs, hrun, hle, hcs⟩ := run_mnz (P := P) w ps t e ht m (by omega)
  have hzl : zs.length = cs.size := by rw [← Array.length_toList, hcs]; simp
  have g := Grown.alloc w.drew.drew cs e
  refine .inr ⟨_, _, (run_callFunc_extern hf hname hb hn he #[.int .i64 (m : Int)] w).trans (by rw [hrun]; rfl), tL true (.int .u8) (zs.take m), [], h _ (by simp; omega), ?_⟩
  have hsz : w.drew.drew.heap.size = w.heap.size := rfl
  have hcell : CellsR none0 (flats (.int .u8) (zs.take m)) (cs.toList.take m) := by
    rw [hcs, ← List.map_take]
    generalize zs.take m = ys
    induction ys with
    | nil => trivial
    | cons y ys ih => exact ⟨rfl, ih⟩
  have hlen : (zs.take m).length = m := by simp; omega
  have hB : BlkR (w.drew.drew.alloc (.cells cs e)) none0 ⟨w.heap.size, 0, cs.size, m⟩ (.flat true (.int .u8) none (zs.take m)) :=
    ⟨hlen.symm, hle, (fun _ e => by cases e), ⟨_, fun j v hj => by
      have hj2 : cs.toList[j]? = some v := by rw [List.getElem?_take] at hj; split at hj <;> first | exact hj | cases hj
      have := g.cell j
      rw [Nat.zero_add]
      exact this.trans (by simpa using hj2), hcell⟩, fun _ => ⟨fun j hj => by
        have hj' : j < cs.size := by simpa [FT.sz] using hj
        rw [Nat.zero_add]
        exact ⟨by rw [show (w.drew.drew.alloc (.cells cs e)).cell? ⟨w.heap.size, j, none⟩ = cs[j]? from g.cell j]; simp [hj'], g.frz j hj'⟩, fun _ => g.free.le (by simp [FT.sz])⟩⟩
  refine ⟨.slice (some ⟨w.heap.size, 0, none⟩) m cs.size, (Blk.flat true (.int .u8) none (zs.take m)).foot ⟨w.heap.size, 0, cs.size, m⟩, [], [], [], rfl, ⟨⟨w.heap.size, 0, cs.size, m⟩, some ⟨w.heap.size, 0, none⟩, ⟨rfl, (fun e => by cases e), fun _ => rfl⟩, hB, rfl, rfl⟩, ⟨rfl, rfl⟩, ?_, fun x hx => ?_, (fun x hx => by cases hx), ?_⟩
  · simp only [Blk.foot, List.nil_append]; split <;> simp
  · simp only [Blk.foot, List.nil_append] at hx
    split at hx
    · simp only [List.mem_singleton] at hx
      subst hx
      exact ⟨by have := g.size; rw [this]; show w.heap.size < w.heap.size + 1; omega, .inr (Nat.le_refl _)⟩
    · cases hx
  · exact g.fr

def c_bytealg_MakeNoZero : Fun := mnzFun 120
theorem ok_bytealg_MakeNoZero : FunOk Try.prog c_bytealg_MakeNoZero := mnz_ok (ps := #[3]) (t := 26) (e := 5) Try.func120 (by kernel_rfl) (by kernel_rfl) (by kernel_rfl) (by kernel_rfl) (by kernel_rfl)
end Go.Pi
