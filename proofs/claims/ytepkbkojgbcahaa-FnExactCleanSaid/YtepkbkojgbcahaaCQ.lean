/- Contracts of functions, each out of its run by PI. No conditions. -/
import Derived.Test.YtepkbkojgbcahaaCP
namespace Go.Pi
open Go.Proofs
set_option linter.unusedVariables false
set_option linter.unusedSimpArgs false
set_option maxRecDepth 100000
attribute [local irreducible] iterN
def allR (f : Nat → Bool) (n : Nat) : Bool := (List.range n).all f
theorem allR_yes {f : Nat → Bool} {i : Nat} (h : allR f i = true) (h2 : f i = true) : allR f (i + 1) = true := by simp only [allR, List.range_succ, List.all_append, List.all_cons, List.all_nil, h2, Bool.and_true]; exact h
theorem allR_no {f : Nat → Bool} {i n : Nat} (h : i < n) (h2 : f i = false) : allR f n = false := by
  unfold allR
  rw [Bool.eq_false_iff]
  intro hh
  have := List.all_eq_true.1 hh i (by simpa using h)
  rw [h2] at this; cases this
theorem allR_iff {f : Nat → Bool} {n : Nat} : allR f n = true ↔ ∀ c, c < n → f c = true := by simp [allR]
def cnt (l : List Span) (c : Nat) : Nat := l.countP (fun s => inS s c)
def heapOk (h : Heap) : Bool := memoryOk h.mem && spansOk h.live && spansOk h.waits && allR (fun c => decide (cnt h.live c + cnt h.waits c ≤ 1) && (h.mem.gone.getD c false == decide (0 < cnt h.waits c))) 24
theorem markedGo_len (l : List Span) : ∀ (n i : Nat) (u : List Bool), (markedGo l n i u).2.length = u.length
  | 0, _, _ => rfl
  | n + 1, i, u => by
    unfold markedGo
    split
    · split
      · rw [markedGo_len l n (i + 1), markRun_len]
      · rw [markRun_len]
    · rfl
theorem bool_ext {a b : Bool} (h : a = true ↔ b = true) : a = b := by cases a <;> cases b <;> simp_all
theorem markRun_spec : ∀ (n a : Nat) (u : List Bool), u.length = 24 → a + n ≤ 24 →
    ((markRun n a u).1 = true ↔ ∀ c, a ≤ c → c < a + n → u.getD c false = false) ∧ ((markRun n a u).1 = true → ∀ c, c < 24 → (markRun n a u).2.getD c false = (u.getD c false || (decide (a ≤ c) && decide (c < a + n))))
  | 0, a, u, hu, _ => by
    refine ⟨⟨fun _ c h1 h2 => by omega, fun _ => rfl⟩, fun _ c hc => ?_⟩
    have : (decide (a ≤ c) && decide (c < a + 0)) = false := by
      rw [Bool.eq_false_iff]; intro h; simp only [Bool.and_eq_true, decide_eq_true_eq] at h; omega
    rw [this, Bool.or_false]; rfl
  | n + 1, a, u, hu, ha => by
    unfold markRun
    by_cases e : u.getD a false = true
    · rw [if_pos e]
      refine ⟨⟨fun h => (by cases h), fun h => ?_⟩, fun h => (by cases h)⟩
      rw [h a (Nat.le_refl _) (by omega)] at e; cases e
    · rw [if_neg e]
      obtain ⟨h1, h2⟩ := markRun_spec n (a + 1) (u.set a true) (by simpa using hu) (by omega)
      have hset : ∀ c, c < 24 → (u.set a true).getD c false = if a = c then true else u.getD c false := fun c hc => getD_set _ _ _ _ _ (by omega)
      refine ⟨⟨fun h c hc hc2 => ?_, fun h => h1.2 fun c hc hc2 => ?_⟩, fun h c hc => ?_⟩
      · by_cases e2 : a = c
        · subst e2; simpa using e
        · have := h1.1 h c (by omega) (by omega)
          rw [hset c (by omega), if_neg e2] at this
          exact this
      · rw [hset c (by omega), if_neg (by omega)]
        exact h c (by omega) (by omega)
      · rw [h2 h c hc, hset c hc]
        by_cases e2 : a = c
        · subst e2
          rw [if_pos rfl, decide_eq_true (Nat.le_refl a), decide_eq_true (show a < a + (n + 1) by omega)]; simp
        · rw [if_neg e2, decide_eq_decide.2 (show a + 1 ≤ c ↔ a ≤ c by omega), decide_eq_decide.2 (show c < a + 1 + n ↔ c < a + (n + 1) by omega)]
theorem inS_nat {s : Span} (h : spanOk s = true) (c : Nat) : inS s c = (decide (s.at_.toNat ≤ c) && decide (c < s.at_.toNat + s.len.toNat)) := by
  simp only [spanOk, Bool.and_eq_true, inR_t] at h
  unfold inS inR
  rw [decide_eq_decide.2 (show s.at_ ≤ (c : Int) ↔ s.at_.toNat ≤ c by omega), decide_eq_decide.2 (show (c : Int) ≤ s.at_ + s.len - 1 ↔ c < s.at_.toNat + s.len.toNat by omega)]
theorem spanChk_ok {l : List Span} {i : Nat} (h : spanChk l i = true) : spanOk (l.getD i (FT.zero .span)) = true := by
  simp only [spanChk, Bool.and_eq_true] at h; exact h.1
theorem drop_getD {α : Type} {l : List α} {i : Nat} (z : α) (h : i < l.length) : l.drop i = l.getD i z :: l.drop (i + 1) := by
  have e : l.getD i z = l[i] := by simp [List.getD_eq_getElem?_getD, h]
  rw [List.drop_eq_getElem_cons h, e]
theorem cnt_cons (s : Span) (l : List Span) (c : Nat) : cnt (s :: l) c = (if inS s c then 1 else 0) + cnt l c := by
  simp only [cnt, List.countP_cons]; omega
theorem markedGo_spec (l : List Span) : ∀ (n i : Nat) (u : List Bool), n = l.length - i → u.length = 24 →
    ((markedGo l n i u).1 = true ↔ (∀ j, i ≤ j → j < l.length → spanChk l j = true) ∧ ∀ c, c < 24 → (if u.getD c false then 1 else 0) + cnt (l.drop i) c ≤ 1) ∧
    ((markedGo l n i u).1 = true → ∀ c, c < 24 → (markedGo l n i u).2.getD c false = (u.getD c false || decide (0 < cnt (l.drop i) c)))
  | 0, i, u, hn, hu => by
    have hd : l.drop i = [] := List.drop_eq_nil_of_le (by omega)
    refine ⟨⟨fun _ => ⟨fun j h1 h2 => by omega, fun c _ => ?_⟩, fun _ => rfl⟩, fun _ c hc => ?_⟩
    · rw [hd]; simp only [cnt, List.countP_nil]; split <;> omega
    · rw [hd]; simp [cnt, markedGo]
  | n + 1, i, u, hn, hu => by
    have hlt : i < l.length := by omega
    have hd := drop_getD (FT.zero .span) hlt
    unfold markedGo
    by_cases hc : spanChk l i = true
    · rw [if_pos hc]
      have hok := spanChk_ok hc
      have hin := inS_nat hok
      have hb : (l.getD i (FT.zero .span)).at_.toNat + (l.getD i (FT.zero .span)).len.toNat ≤ 24 := by
        simp only [spanOk, Bool.and_eq_true, inR_t] at hok; omega
      rw [hd]
      generalize l.getD i (FT.zero .span) = s at *
      obtain ⟨m1, m2⟩ := markRun_spec s.len.toNat s.at_.toNat u hu hb
      have ml := markRun_len s.len.toNat s.at_.toNat u
      generalize markRun s.len.toNat s.at_.toNat u = r at *
      by_cases hr : r.1 = true
      · rw [if_pos hr]
        obtain ⟨g1, g2⟩ := markedGo_spec l n (i + 1) r.2 (by omega) (by omega)
        have hr2 := m2 hr
        have hfree := m1.1 hr
        have hsum : ∀ c, c < 24 → ((if r.2.getD c false then 1 else 0) + cnt (l.drop (i + 1)) c = (if u.getD c false then 1 else 0) + cnt (s :: l.drop (i + 1)) c) := fun c hc24 => by
          rw [cnt_cons, hr2 c hc24, hin c]
          by_cases e : s.at_.toNat ≤ c ∧ c < s.at_.toNat + s.len.toNat
          · rw [hfree c e.1 e.2, decide_eq_true e.1, decide_eq_true e.2]; simp
          · have : (decide (s.at_.toNat ≤ c) && decide (c < s.at_.toNat + s.len.toNat)) = false := by rw [Bool.eq_false_iff]; simp; omega
            rw [this]; simp
        refine ⟨⟨fun h => ?_, fun h => g1.2 ⟨fun j h1 h2 => h.1 j (by omega) h2, fun c hc24 => by rw [hsum c hc24]; exact h.2 c hc24⟩⟩, fun h c hc24 => ?_⟩
        · obtain ⟨a1, a2⟩ := g1.1 h
          refine ⟨fun j h1 h2 => ?_, fun c hc24 => by rw [← hsum c hc24]; exact a2 c hc24⟩
          by_cases e : j = i
          · rw [e]; exact hc
          · exact a1 j (by omega) h2
        · rw [g2 h c hc24, hr2 c hc24, cnt_cons, hin c]
          cases u.getD c false <;> cases (decide (s.at_.toNat ≤ c) && decide (c < s.at_.toNat + s.len.toNat)) <;> simp <;> omega
      · rw [if_neg hr]
        refine ⟨⟨fun h => absurd h hr, fun h => absurd (m1.2 fun c h1 h2 => ?_) hr⟩, fun h => absurd h hr⟩
        have := h.2 c (by omega)
        rw [cnt_cons, hin c, decide_eq_true h1, decide_eq_true h2] at this
        cases e : u.getD c false with
        | false => rfl
        | true => rw [e] at this; simp at this; omega
    · rw [if_neg hc]
      refine ⟨⟨fun h => (by cases h), fun h => absurd (h.1 i (Nat.le_refl _) hlt) hc⟩, fun h => (by cases h)⟩
theorem spansOk_iff {l : List Span} : spansOk l = true ↔ ∀ j, j < l.length → spanChk l j = true := by simp [spansOk, okTo]
theorem spansOk_mem {l : List Span} (h : spansOk l = true) : ∀ s ∈ l, spanOk s = true := fun s hs => by
  obtain ⟨i, hi, rfl⟩ := List.getElem_of_mem hs
  have := spanChk_ok (spansOk_iff.1 h i hi)
  rw [show l.getD i (FT.zero .span) = l[i] by simp [List.getD_eq_getElem?_getD, hi]] at this
  exact this
theorem markedF_spec (l : List Span) :
    ((markedF (List.replicate 24 false) l).1 = true ↔ spansOk l = true ∧ ∀ c, c < 24 → cnt l c ≤ 1) ∧
    ((markedF (List.replicate 24 false) l).1 = true → ∀ c, c < 24 → (markedF (List.replicate 24 false) l).2.getD c false = decide (0 < cnt l c)) := by
  obtain ⟨h1, h2⟩ := markedGo_spec l l.length 0 (List.replicate 24 false) (by simp) (by simp)
  refine ⟨⟨fun h => ?_, fun h => h1.2 ⟨fun j _ hj => spansOk_iff.1 h.1 j hj, fun c hc => ?_⟩⟩, fun h c hc => ?_⟩
  · obtain ⟨a1, a2⟩ := h1.1 h
    refine ⟨spansOk_iff.2 fun j hj => a1 j (Nat.zero_le _) hj, fun c hc => ?_⟩
    have := a2 c hc
    rw [rep_getD hc] at this
    simpa using this
  · rw [rep_getD hc]; simpa using h.2 c hc
  · have := h2 h c hc
    rw [rep_getD hc, Bool.false_or] at this
    exact this
theorem ownRun_spec (s : Span) (hs : spanOk s = true) : ∀ (n c : Nat) (u : List Int), n = 24 - c → u.length = 24 → s.at_ ≤ c →
    ∀ j, j < 24 → (ownRun s n c u).getD j 0 = if c ≤ j ∧ inS s j = true then IntKind.i64.wrap (u.getD j 0 + 1) else u.getD j 0
  | 0, c, u, hn, hu, hc => fun j hj => by
    rw [if_neg (by omega)]; rfl
  | n + 1, c, u, hn, hu, hc => fun j hj => by
    have hok := hs
    simp only [spanOk, Bool.and_eq_true, inR_t] at hok
    unfold ownRun
    rw [wrap_id (n := (c : Int) - s.at_) (by omega) (by omega)]
    have hin : inS s j = true ↔ s.at_ ≤ j ∧ (j : Int) ≤ s.at_ + s.len - 1 := by unfold inS; exact inR_t
    by_cases e : (c : Int) - s.at_ < s.len
    · rw [decide_eq_true e, if_pos rfl, ownRun_spec s hs n (c + 1) _ (by omega) (by simpa using hu) (by omega) j hj, getD_set _ _ _ _ _ (by omega)]
      by_cases e2 : c = j
      · subst e2
        rw [if_pos rfl, if_neg (by omega), if_pos ⟨Nat.le_refl _, hin.2 (by omega)⟩]
      · rw [if_neg e2]
        by_cases e3 : c + 1 ≤ j ∧ inS s j = true
        · rw [if_pos e3, if_pos ⟨by omega, e3.2⟩]
        · rw [if_neg e3, if_neg (fun h => e3 ⟨by omega, h.2⟩)]
    · rw [decide_eq_false e, if_neg (by decide), if_neg (fun h => by have := hin.1 h.2; omega)]
theorem ownOne_spec {s : Span} (hs : spanOk s = true) {u : List Int} (hu : u.length = 24) {j : Nat} (hj : j < 24) : (ownOne u s).getD j 0 = if inS s j = true then IntKind.i64.wrap (u.getD j 0 + 1) else u.getD j 0 := by
  have hok := hs
  simp only [spanOk, Bool.and_eq_true, inR_t] at hok
  unfold ownOne
  rw [ownRun_spec s hs _ _ u (by omega) hu (by omega) j hj]
  have hin : inS s j = true → s.at_ ≤ j := fun h => by unfold inS at h; exact (inR_t.1 h).1
  by_cases e : inS s j = true
  · rw [if_pos e, if_pos ⟨by have := hin e; omega, e⟩]
  · rw [if_neg e, if_neg (fun h => e h.2)]
theorem owners_go : ∀ (l : List Span) (u : List Int) (K : Nat), (∀ s ∈ l, spanOk s = true) → u.length = 24 → (∀ j, j < 24 → 0 ≤ u.getD j 0 ∧ u.getD j 0 ≤ K) → K + l.length ≤ 1000000000 →
    ∀ j, j < 24 → (l.foldl ownOne u).getD j 0 = u.getD j 0 + (cnt l j : Int)
  | [], u, K, _, _, _, _ => fun j hj => by simp [cnt]
  | s :: l, u, K, hl, hu, hk, hK => fun j hj => by
    have hs := hl s (by simp)
    have ho : ∀ j, j < 24 → (ownOne u s).getD j 0 = u.getD j 0 + (if inS s j then 1 else 0) := fun j hj => by
      rw [ownOne_spec hs hu hj]
      have := hk j hj
      split
      · simp only [List.length_cons] at hK; exact wrap_id (by omega) (by omega)
      · omega
    rw [List.foldl_cons, owners_go l (ownOne u s) (K + 1) (fun x hx => hl x (by simp [hx])) (by unfold ownOne; rw [ownRun_len]; exact hu) (fun j hj => by
      rw [ho j hj]; have := hk j hj; split <;> omega) (by simp only [List.length_cons] at hK; omega) j hj, ho j hj, cnt_cons]
    split <;> omega
theorem owners_spec {l : List Span} (h : ∀ s ∈ l, spanOk s = true) (hl : l.length ≤ 100000000) {j : Nat} (hj : j < 24) : (owners l).getD j 0 = (cnt l j : Int) := by
  unfold owners
  rw [owners_go l _ 0 h (by simp) (fun j hj => by rw [rep_getD hj]; omega) (by omega) j hj, rep_getD hj]
  omega
theorem owners_len (l : List Span) : (owners l).length = 24 := by
  have key : ∀ (l : List Span) (u : List Int), (l.foldl ownOne u).length = u.length := fun l => by
    induction l with
    | nil => intro u; rfl
    | cons s l ih => intro u; rw [List.foldl_cons, ih]; unfold ownOne; rw [ownRun_len]
  unfold owners; rw [key]; simp
theorem inRaw_eq {s : Span} (hs : spanOk s = true) (c : Nat) : inRaw s c = inS s c := by
  simp only [spanOk, Bool.and_eq_true, inR_t] at hs
  unfold inRaw inS
  rw [wrap_id (n := s.at_ + s.len) (by omega) (by omega), wrap_id (by omega) (by omega)]
theorem inL_eq {l : List Span} (h : ∀ s ∈ l, spanOk s = true) (c : Nat) : inL l c = decide (0 < cnt l c) := by
  unfold inL cnt
  rw [Bool.eq_iff_iff, List.any_eq_true, decide_eq_true_eq, List.countP_pos_iff]
  constructor
  · rintro ⟨s, hs, e⟩; exact ⟨s, hs, by rw [inRaw_eq (h s hs)] at e; exact e⟩
  · rintro ⟨s, hs, e⟩; exact ⟨s, hs, by rw [inRaw_eq (h s hs)]; exact e⟩
theorem cnt_app (a b : List Span) (c : Nat) : cnt (a ++ b) c = cnt a c + cnt b c := by simp [cnt]
def heapOkI (h : Heap) : Bool := memoryOk h.mem && (markedF (List.replicate 24 false) h.waits).1 && (markedF (List.replicate 24 false) h.live).1 &&
  allR (fun c => !((markedF (List.replicate 24 false) h.waits).2.getD c false && (markedF (List.replicate 24 false) h.live).2.getD c false) && ((markedF (List.replicate 24 false) h.waits).2.getD c false == h.mem.gone.getD c false)) 24
def heapOkS (h : Heap) : Bool := memoryOk h.mem && spansOk h.live && spansOk h.waits && allR (fun c => decide ((owners (h.live ++ h.waits)).getD c 0 ≤ 1) && (h.mem.gone.getD c false == inL h.waits c)) 24
theorem heapOkI_eq (h : Heap) : heapOkI h = heapOk h := by
  obtain ⟨w1, w2⟩ := markedF_spec h.waits
  obtain ⟨l1, l2⟩ := markedF_spec h.live
  apply bool_ext
  unfold heapOkI heapOk
  simp only [Bool.and_eq_true, allR_iff]
  constructor
  · rintro ⟨⟨⟨hm, hw⟩, hl⟩, hc⟩
    refine ⟨⟨⟨hm, (l1.1 hl).1⟩, (w1.1 hw).1⟩, fun c hc24 => ?_⟩
    have h1 := (hc c hc24).1
    have h2 := (hc c hc24).2
    rw [w2 hw c hc24] at h1 h2
    rw [l2 hl c hc24] at h1
    have := (l1.1 hl).2 c hc24
    have := (w1.1 hw).2 c hc24
    simp only [Bool.not_eq_true', Bool.and_eq_false_iff, decide_eq_false_iff_not, beq_iff_eq] at h1 h2
    exact ⟨decide_eq_true (by omega), by rw [h2]; simp⟩
  · rintro ⟨⟨⟨hm, hl⟩, hw⟩, hc⟩
    have hb : ∀ c, c < 24 → cnt h.live c + cnt h.waits c ≤ 1 := fun c hc24 => by simpa using (hc c hc24).1
    have hl1 := l1.2 ⟨hl, fun c hc24 => by have := hb c hc24; omega⟩
    have hw1 := w1.2 ⟨hw, fun c hc24 => by have := hb c hc24; omega⟩
    refine ⟨⟨⟨hm, hw1⟩, hl1⟩, fun c hc24 => ?_⟩
    rw [w2 hw1 c hc24, l2 hl1 c hc24]
    have h2 := (hc c hc24).2
    have := hb c hc24
    simp only [beq_iff_eq] at h2
    refine ⟨?_, by rw [h2]; simp⟩
    simp only [Bool.not_eq_true', Bool.and_eq_false_iff, decide_eq_false_iff_not]; omega
theorem heapOkS_eq {h : Heap} (hl : LHeap h 1048576) : heapOkS h = heapOk h := by
  apply bool_ext
  unfold heapOkS heapOk
  simp only [Bool.and_eq_true, allR_iff]
  have key : spansOk h.live = true → spansOk h.waits = true → ∀ c, c < 24 → (decide ((owners (h.live ++ h.waits)).getD c 0 ≤ 1) = decide (cnt h.live c + cnt h.waits c ≤ 1) ∧ inL h.waits c = decide (0 < cnt h.waits c)) := fun a b c hc => by
    refine ⟨?_, inL_eq (spansOk_mem b) c⟩
    rw [owners_spec (fun s hs => by rcases List.mem_append.1 hs with h | h; · exact spansOk_mem a s h
                                    · exact spansOk_mem b s h) (by rw [List.length_append]; have := hl.2.1; have := hl.2.2; omega) hc, cnt_app]
    exact decide_eq_decide.2 (by omega)
  constructor
  · rintro ⟨⟨⟨hm, a⟩, b⟩, hc⟩
    exact ⟨⟨⟨hm, a⟩, b⟩, fun c hc24 => by rw [← (key a b c hc24).1, ← (key a b c hc24).2]; exact hc c hc24⟩
  · rintro ⟨⟨⟨hm, a⟩, b⟩, hc⟩
    exact ⟨⟨⟨hm, a⟩, b⟩, fun c hc24 => by rw [(key a b c hc24).1, (key a b c hc24).2]; exact hc c hc24⟩

def lb_spec_HeapOk_0 : PC := .seq (.seq (.reg [.s (.mv 23 (.t 4)), .s (.bin 24 .lss (.t 23) (.k (.v (.c (.int .i64 24)))))]) (.cond (.t 24) (.skip) (.exit 0))) (.seq (.blk 1 (.seq (.rgd [.s (.mv 27 (.t 3)), .s (.mv 28 (.t 4)), .s (.ia 29 (.int .i64) (.t 27) (.t 28)), .s (.load 30 false 1 (.t 29)), .s (.bin 31 .gtr (.t 30) (.k (.v (.c (.int .i64 1))))), .s (.mv 32 (.t 31)), .g 32 false (some 33) (.fa 33 (.t 1) 0), .g 32 false (some 34) (.fa 34 (.t 33) 1), .g 32 false (some 35) (.load 35 false 1 (.t 34)), .g 32 false (some 36) (.mv 36 (.t 4)), .g 32 false (some 37) (.ia 37 .bool (.t 35) (.t 36)), .g 32 false (some 38) (.load 38 false 1 (.t 37)), .g 32 false (some 39) (.fa 39 (.t 1) 3), .g 32 false (some 40) (.load 40 false 1 (.t 39)), .g 32 false (some 41) (.mv 41 (.t 4)), .g 32 false (some 42) (.call (some 42) 69 [(.t 40), (.t 41)]), .g 32 false (some 43) (.eqs 43 false [.b] true (.t 38) (.t 42)), .s (.pick 44 (.t 32) (.k (.v (.c .tt))) (.t 43))] (.tk 0 (.tk 1 (.tk 2 (.tk 3 (.tk 4 (.tk 5 (.tk 6 (.tk 7 (.tk 8 (.tk 9 (.tk 10 (.tk 11 (.tk 12 (.tk 13 (.tk 14 (.one 15 false (.tk 16 (.tk 17 (.done none)))))))))))))))))))) (.cond (.t 44) (.seq (.reg [.s (.mv 2 (.k (.v (.c .ff))))]) (.ret)) (.skip)))) (.reg [.s (.mv 25 (.t 4)), .s (.bin 26 .add (.t 25) (.k (.v (.c (.int .i64 1))))), .s (.mv 4 (.t 26))]))
def pf_spec_HeapOk : PF := ⟨[.t 2], .seq (.reg [.s (.box 1 (.t 0)), .s (.mv 2 (.k (.v (.c .ff))))]) (.seq (.seq (.reg [.s (.fa 5 (.t 1) 0), .s (.load 6 true 2 (.t 5)), .s (.call (some 7) 52 [(.t 6)]), .s (.bnot 8 (.t 7)), .s (.mv 9 (.t 8)), .g 9 false (some 10) (.fa 10 (.t 1) 2), .g 9 false (some 11) (.load 11 false 1 (.t 10)), .g 9 false (some 12) (.call (some 12) 67 [(.t 11)]), .g 9 false (some 13) (.bnot 13 (.t 12)), .s (.pick 14 (.t 9) (.k (.v (.c .tt))) (.t 13)), .s (.mv 15 (.t 14)), .g 15 false (some 16) (.fa 16 (.t 1) 3), .g 15 false (some 17) (.load 17 false 1 (.t 16)), .g 15 false (some 18) (.call (some 18) 67 [(.t 17)]), .g 15 false (some 19) (.bnot 19 (.t 18)), .s (.pick 20 (.t 15) (.k (.v (.c .tt))) (.t 19))]) (.cond (.t 20) (.seq (.reg [.s (.mv 2 (.k (.v (.c .ff))))]) (.ret)) (.skip))) (.seq (.reg [.s (.load 21 true 4 (.t 1)), .s (.call (some 22) 68 [(.t 21)]), .s (.mv 3 (.t 22))]) (.seq (.seq (.reg [.s (.mv 4 (.k (.v (.c (.int .i64 0)))))]) (.blk 0 (.loop [1, 3, 4] lb_spec_HeapOk_0))) (.seq (.reg [.s (.mv 2 (.k (.v (.c .tt))))]) (.ret)))))⟩
def c_spec_HeapOk : Fun := ⟨24, [], fun ts K => as1 ts fun t0 => arG pHeapT t0 fun t => chk (LHeap t 1048576) (K (tB (heapOk t)) [])⟩
theorem run_spec_HeapOk (t : Heap) (hpre : LHeap t 1048576) : runK [c_spec_MemoryOk, c_spec_l23Spans, c_spec_l23Owners, c_spec_l23In] (30) [] pf_spec_HeapOk [tG (t.tc false [])] fun r o => r = tB (heapOk t) ∧ o = [] := by
  rw [← heapOkS_eq hpre]
  have l2 := hpre.2.1
  have l3 := hpre.2.2
  conv => whnf
  repeat' (first | (refine sel_i (fun h => ?_) (fun h => ?_) <;> conv => whnf) | (refine chk_c ?_ ?_ <;> conv => whnf) | (refine And.intro ?_ rfl) | (refine And.intro ?_ ?_ <;> conv => whnf))
  all_goals (try simp only [etaMemory, etaHeap, Bool.not_eq_true', Bool.not_eq_false'] at *)
  all_goals first
    | (refine ⟨?_⟩; assumption)
    | (refine ⟨?_⟩; omega)
    | (simp only [heapOkS, *, Bool.false_and, Bool.and_false]; done)
    | skip
  rename_i h1 h2
  have hm : memoryOk t.mem = true := by assumption
  obtain ⟨m1, m2, m3⟩ := memoryOk_n hm
  have hol := owners_len (t.live ++ t.waits)
  have hh : heapOkS t = allR (fun c => decide ((owners (t.live ++ t.waits)).getD c 0 ≤ 1) && (t.mem.gone.getD c false == inL t.waits c)) 24 := by
    simp only [heapOkS, *, Bool.true_and]
  rw [hh]
  clear hh
  generalize owners (t.live ++ t.waits) = ow at *
  refine loop (α := Nat) (fun c => ⟨[(1, .v (.c (.ptr 0 0))), (3, .v (.c (.sl false (.int .i64) 5))), (4, .v (.c (.int .i64 (c : Int))))],
        [(5, some (.flat true (.int .i64) none ow)), (4, some (.flat false .span none t.waits)), (3, some (.flat false .span none t.live)), (2, some (.flat false .bool none t.mem.gone)), (1, some (.flat false .word none t.mem.words)), (0, some (.box true [.sl false .word 1, .sl false .bool 2, .sl false .span 3, .sl false .span 4]))], nums.tail.tail.tail.tail.tail.tail, [], false, []⟩)
      (fun c => c ≤ 24 ∧ allR (fun c => decide (ow.getD c 0 ≤ 1) && (t.mem.gone.getD c false == inL t.waits c)) c = true) (fun c => 24 - c) (fun c R hI hR => ?_) 0 _ ⟨by simp, rfl⟩ (by omega)
  obtain ⟨hc, hx⟩ := hI
  conv => whnf
  repeat' (first | (refine sel_i (fun h => ?_) (fun h => ?_) <;> conv => whnf) | (refine chk_c ?_ ?_ <;> conv => whnf) | (refine And.intro ?_ rfl) | (refine And.intro ?_ ?_ <;> conv => whnf))
  all_goals (try simp only [etaMemory, etaHeap, Int.toNat_natCast, Bool.not_eq_true', Bool.not_eq_false', decide_eq_true_eq, decide_eq_false_iff_not] at *)
  all_goals first
    | (refine ⟨?_⟩; omega)
    | skip
  · have h' : ow.getD c 0 > 1 := h
    rw [allR_no (i := c) (by omega) (by rw [decide_eq_false (show ¬ ow.getD c 0 ≤ 1 by omega)]; rfl)]
  · have h' : (t.mem.gone.getD c false == inL t.waits c) = false := h
    rw [allR_no (i := c) (by omega) (by rw [h', Bool.and_false])]
  · rename_i g1 g2
    have h' : (t.mem.gone.getD c false == inL t.waits c) = true := h
    have g' : ¬ ow.getD c 0 > 1 := g2
    rw [wrap_id (n := (c : Int) + 1) (by omega) (by omega)]
    exact hR (c + 1) ⟨by omega, allR_yes hx (by rw [decide_eq_true (show ow.getD c 0 ≤ 1 by omega), h']; rfl)⟩ (by omega)
  · rw [show 24 = c by omega, hx]
theorem ok_spec_HeapOk : FunOk Try.prog c_spec_HeapOk := funOk (E := [c_spec_MemoryOk, c_spec_l23Spans, c_spec_l23Owners, c_spec_l23In]) (envOk_cons ok_spec_MemoryOk (envOk_cons ok_spec_l23Spans (envOk_cons ok_spec_l23Owners (envOk_cons ok_spec_l23In (envOk_nil))))) mixd Try.func24 (pf := pf_spec_HeapOk) (by kernel_rfl) fun ts K h => by
  obtain ⟨t0, e0, h⟩ := as1_out h
  subst e0
  obtain ⟨t, e1, hq⟩ := arG_out rd_heap h
  clear h
  subst e1
  have h := hq
  clear hq
  obtain ⟨hpre, h⟩ := chk_o h
  exact ⟨_, _, h, Nat.le_of_ble_eq_true (show Nat.ble 1 Try.f24.ntmps = true by kernel_rfl), _, run_spec_HeapOk t hpre⟩

def lb_impl_HeapOk_0 : PC := .seq (.reg [.s (.bin 30 .lss (.t 29) (.t 28))]) (.seq (.cond (.t 30) (.skip) (.exit 0)) (.seq (.blk 1 (.seq (.reg [.s (.mv 31 (.t 29)), .s (.ia 32 .bool (.t 27) (.t 29)), .s (.load 33 false 1 (.t 32)), .s (.mv 5 (.t 31)), .s (.mv 6 (.t 33))]) (.seq (.reg [.s (.mv 34 (.t 6)), .s (.mv 35 (.t 34)), .g 35 true (some 36) (.mv 36 (.t 4)), .g 35 true (some 37) (.mv 37 (.t 5)), .g 35 true (some 38) (.ia 38 .bool (.t 36) (.t 37)), .g 35 true (some 39) (.load 39 false 1 (.t 38)), .s (.pick 40 (.t 35) (.t 39) (.k (.v (.c .ff)))), .s (.mv 41 (.t 40)), .g 41 false (some 42) (.mv 42 (.t 6)), .g 41 false (some 43) (.fa 43 (.t 1) 0), .g 41 false (some 44) (.fa 44 (.t 43) 1), .g 41 false (some 45) (.load 45 false 1 (.t 44)), .g 41 false (some 46) (.mv 46 (.t 5)), .g 41 false (some 47) (.ia 47 .bool (.t 45) (.t 46)), .g 41 false (some 48) (.load 48 false 1 (.t 47)), .g 41 false (some 49) (.eqs 49 false [.b] true (.t 42) (.t 48)), .s (.pick 50 (.t 41) (.k (.v (.c .tt))) (.t 49))]) (.cond (.t 50) (.seq (.reg [.s (.mv 2 (.k (.v (.c .ff))))]) (.ret)) (.skip))))) (.reg [.s (.bin 51 .add (.t 29) (.k (.v (.c (.int .i64 1))))), .s (.mv 29 (.t 51))])))
def pf_impl_HeapOk : PF := ⟨[.t 2], .seq (.reg [.s (.box 1 (.t 0)), .s (.mv 2 (.k (.v (.c .ff))))]) (.seq (.rgd [.s (.mkS 7 .bool (.k (.v (.c (.int .i64 24))))), .s (.mkS 8 .bool (.k (.v (.c (.int .i64 24))))), .s (.mv 3 (.t 7)), .s (.mv 4 (.t 8))] (.alt 0 (.tk 2 (.one 1 false (.tk 3 (.done (some [1, 3, 4]))))) (.alt 1 (.one 0 false (.tk 2 (.tk 3 (.done (some [1, 3, 4]))))) (.nil)))) (.seq (.seq (.reg [.s (.fa 9 (.t 1) 0), .s (.load 10 true 2 (.t 9)), .s (.call (some 11) 58 [(.t 10)]), .s (.bnot 12 (.t 11)), .s (.mv 13 (.t 12)), .g 13 false (some 14) (.mv 14 (.t 3)), .g 13 false (some 15) (.fa 15 (.t 1) 3), .g 13 false (some 16) (.load 16 false 1 (.t 15)), .g 13 false (some 17) (.call (some 17) 71 [(.t 14), (.t 16)]), .g 13 false (some 18) (.bnot 18 (.t 17)), .s (.pick 19 (.t 13) (.k (.v (.c .tt))) (.t 18)), .s (.mv 20 (.t 19)), .g 20 false (some 21) (.mv 21 (.t 4)), .g 20 false (some 22) (.fa 22 (.t 1) 2), .g 20 false (some 23) (.load 23 false 1 (.t 22)), .g 20 false (some 24) (.call (some 24) 71 [(.t 21), (.t 23)]), .g 20 false (some 25) (.bnot 25 (.t 24)), .s (.pick 26 (.t 20) (.k (.v (.c .tt))) (.t 25))]) (.cond (.t 26) (.seq (.reg [.s (.mv 2 (.k (.v (.c .ff))))]) (.ret)) (.skip))) (.seq (.seq (.reg [.s (.mv 27 (.t 3)), .s (.len 28 false (.t 27)), .s (.mv 29 (.k (.v (.c (.int .i64 0)))))]) (.blk 0 (.loop [1, 4, 27, 28, 29] lb_impl_HeapOk_0))) (.seq (.reg [.s (.mv 2 (.k (.v (.c .tt))))]) (.ret)))))⟩
def c_impl_HeapOk : Fun := ⟨26, [], fun ts K => as1 ts fun t0 => arG pHeapT t0 fun t => chk (LHeap t 1048576) (K (tB (heapOk t)) [])⟩
theorem run_impl_HeapOk (t : Heap) (hpre : LHeap t 1048576) : runK [c_impl_MemoryOk, c_impl_marked] (30) [] pf_impl_HeapOk [tG (t.tc false [])] fun r o => r = tB (heapOk t) ∧ o = [] := by
  rw [← heapOkI_eq]
  have l2 := hpre.2.1
  have l3 := hpre.2.2
  have lm : LMem t.mem 2147483647 := (hpre.mono (by decide)).1
  have hwl : (markedF (List.replicate 24 false) t.waits).2.length = 24 := by unfold markedF; rw [markedGo_len]; simp
  have hll : (markedF (List.replicate 24 false) t.live).2.length = 24 := by unfold markedF; rw [markedGo_len]; simp
  have hmi : heapOkI t = (memoryOk t.mem && (markedF (List.replicate 24 false) t.waits).1 && (markedF (List.replicate 24 false) t.live).1 && allR (fun c => !((markedF (List.replicate 24 false) t.waits).2.getD c false && (markedF (List.replicate 24 false) t.live).2.getD c false) && ((markedF (List.replicate 24 false) t.waits).2.getD c false == t.mem.gone.getD c false)) 24) := rfl
  rw [hmi]
  clear hmi
  conv => whnf
  repeat' (first | (refine sel_i (fun h => ?_) (fun h => ?_) <;> conv => whnf) | (refine chk_c ?_ ?_ <;> conv => whnf) | (refine And.intro ?_ rfl) | (refine And.intro ?_ ?_ <;> conv => whnf))
  all_goals (try simp only [etaMemory, etaHeap, Bool.not_eq_true', Bool.not_eq_false', show Int.toNat 24 = 24 from rfl, show FT.zero .bool = false from rfl, List.length_replicate] at *)
  all_goals generalize markedF (List.replicate 24 false) t.waits = W at *
  all_goals generalize markedF (List.replicate 24 false) t.live = L at *
  all_goals first
    | (refine ⟨?_⟩; assumption)
    | (refine ⟨?_⟩; omega)
    | (refine ⟨?_⟩; exact ⟨trivial, trivial⟩)
    | (refine ⟨?_⟩; exact ⟨by omega, trivial⟩)
    | (simp only [*, Bool.false_and, Bool.and_false]; done)
    | skip
  have hm : memoryOk t.mem = true := by assumption
  obtain ⟨m1, m2, m3⟩ := memoryOk_n hm
  rename_i g1 g2
  rw [hm, g2, h, Bool.true_and, Bool.true_and, Bool.true_and]
  refine loop (α := Nat) (fun c => ⟨[(1, .v (.c (.ptr 0 0))), (4, .v (.c (.sl true .bool 5))), (27, .v (.c (.sl true .bool 6))), (28, .v (.c (.int .i64 (W.2.length : Int)))), (29, .v (.c (.int .i64 (c : Int))))],
        [(6, some (.flat true .bool none W.2)), (5, some (.flat true .bool none L.2)), (4, some (.flat false .span none t.waits)), (3, some (.flat false .span none t.live)), (2, some (.flat false .bool none t.mem.gone)), (1, some (.flat false .word none t.mem.words)), (0, some (.box true [.sl false .word 1, .sl false .bool 2, .sl false .span 3, .sl false .span 4]))], nums.tail.tail.tail.tail.tail.tail.tail, [], false, []⟩)
      (fun c => c ≤ 24 ∧ allR (fun c => !(W.2.getD c false && L.2.getD c false) && (W.2.getD c false == t.mem.gone.getD c false)) c = true) (fun c => 24 - c) (fun c R hI hR => ?_) 0 _ ⟨by simp, rfl⟩ (by omega)
  obtain ⟨hc, hx⟩ := hI
  conv => whnf
  repeat' (first | (refine sel_i (fun h => ?_) (fun h => ?_) <;> conv => whnf) | (refine chk_c ?_ ?_ <;> conv => whnf) | (refine And.intro ?_ rfl) | (refine And.intro ?_ ?_ <;> conv => whnf))
  all_goals (try simp only [etaMemory, etaHeap, show FT.zero .bool = false from rfl, Int.toNat_natCast, Bool.not_eq_true', Bool.not_eq_false', decide_eq_true_eq, decide_eq_false_iff_not] at *)
  all_goals first
    | (refine ⟨?_⟩; omega)
    | (rw [allR_no (i := c) (by omega) (by rw [h, Bool.and_false])]; done)
    | (rw [allR_no (i := c) (by omega) (by simp only [*]; rfl)]; done)
    | (rw [wrap_id (n := (c : Int) + 1) (by omega) (by omega)]
       exact hR (c + 1) ⟨by omega, allR_yes hx (by rw [h, Bool.and_true]; simp only [*]; rfl)⟩ (by omega))
    | (rw [show 24 = c by omega, hx]; done)
    | (rw [show 24 = c by omega]; rw [hx]; done)
    | (rw [show 24 = c by omega, hx]; done)
    | trace_state
theorem ok_impl_HeapOk : FunOk Try.prog c_impl_HeapOk := funOk (E := [c_impl_MemoryOk, c_impl_marked]) (envOk_cons ok_impl_MemoryOk (envOk_cons ok_impl_marked (envOk_nil))) mixd Try.func26 (pf := pf_impl_HeapOk) (by kernel_rfl) fun ts K h => by
  obtain ⟨t0, e0, h⟩ := as1_out h
  subst e0
  obtain ⟨t, e1, hq⟩ := arG_out rd_heap h
  clear h
  subst e1
  have h := hq
  clear hq
  obtain ⟨hpre, h⟩ := chk_o h
  exact ⟨_, _, h, Nat.le_of_ble_eq_true (show Nat.ble 1 Try.f26.ntmps = true by kernel_rfl), _, run_impl_HeapOk t hpre⟩
end Go.Pi
