/- Contracts of functions, each out of its run by PI. No conditions. -/
import Derived.Test.YthpjpaginggjaaaGreatC3
namespace Go.Pi
open Go.Proofs
set_option linter.unusedVariables false
set_option linter.unusedSimpArgs false
set_option maxRecDepth 100000
attribute [local irreducible] iterN
def putS (l : List Span) (x : Span) : List Span := l.takeWhile (fun s => decide (s.at_ < x.at_)) ++ x :: l.dropWhile (fun s => decide (s.at_ < x.at_))
theorem putS_at : ∀ {l : List Span} {x : Span} {k : Nat}, k ≤ l.length → (∀ j, j < k → (l.getD j (FT.zero .span)).at_ < x.at_) → (k = l.length ∨ ¬ (l.getD k (FT.zero .span)).at_ < x.at_) → putS l x = l.take k ++ x :: l.drop k
  | [], x, k, h, _, _ => by have : k = 0 := by simpa using h
                            subst this; rfl
  | s :: l, x, 0, _, _, h => by
    rcases h with h | h
    · simp at h
    · have h : ¬ s.at_ < x.at_ := h
      simp [putS, List.takeWhile_cons, List.dropWhile_cons, h]
  | s :: l, x, k + 1, hk, h1, h2 => by
    have h0 : s.at_ < x.at_ := h1 0 (by omega)
    have ih := putS_at (l := l) (x := x) (k := k) (by simpa using hk) (fun j hj => h1 (j + 1) (by omega)) (h2.imp (fun h => by simpa using h) (fun h => h))
    have e : putS (s :: l) x = s :: putS l x := by simp [putS, List.takeWhile_cons, List.dropWhile_cons, h0]
    rw [e, ih]; rfl
theorem putS_mem {l : List Span} {x s : Span} : s ∈ putS l x ↔ s = x ∨ s ∈ l := by
  have : s ∈ l ↔ s ∈ l.takeWhile (fun s => decide (s.at_ < x.at_)) ∨ s ∈ l.dropWhile (fun s => decide (s.at_ < x.at_)) := by
    rw [← List.mem_append, List.takeWhile_append_dropWhile]
  rw [this]
  simp only [putS, List.mem_append, List.mem_cons]
  constructor
  · rintro (h | h | h) <;> simp [h]
  · rintro (h | h | h) <;> simp [h]
theorem putS_cnt (l : List Span) (x : Span) (c : Nat) : cnt (putS l x) c = cnt l c + (if inS x c then 1 else 0) := by
  have e : cnt l c = cnt (l.takeWhile (fun s => decide (s.at_ < x.at_))) c + cnt (l.dropWhile (fun s => decide (s.at_ < x.at_))) c := by
    rw [← cnt_app, List.takeWhile_append_dropWhile]
  unfold putS
  rw [cnt_app, cnt_cons, e]; omega
/-! spans that are right: each one, and in order -/
def Ord (l : List Span) : Prop := l.Pairwise (fun a b => a.at_ < b.at_)
theorem ord_of {l : List Span} (h : ∀ j, 0 < j → j < l.length → (l.getD (j - 1) (FT.zero .span)).at_ < (l.getD j (FT.zero .span)).at_) : Ord l := by
  have key : ∀ d i : Nat, i + d + 1 < l.length → (l.getD i (FT.zero .span)).at_ < (l.getD (i + d + 1) (FT.zero .span)).at_ := by
    intro d
    induction d with
    | zero => intro i hi; have := h (i + 1) (by omega) hi; simpa using this
    | succ d ih =>
      intro i hi
      have h1 := ih i (by omega)
      have h2 := h (i + (d + 1) + 1) (by omega) hi
      rw [show i + (d + 1) + 1 - 1 = i + d + 1 by omega] at h2
      omega
  refine List.pairwise_iff_getElem.2 fun i j hi hj hij => ?_
  have := key (j - i - 1) i (by omega)
  rw [show i + (j - i - 1) + 1 = j by omega] at this
  simpa [List.getD_eq_getElem?_getD, hi, hj] using this
theorem ord_step {l : List Span} (h : Ord l) {j : Nat} (h0 : 0 < j) (hj : j < l.length) : (l.getD (j - 1) (FT.zero .span)).at_ < (l.getD j (FT.zero .span)).at_ := by
  have := List.pairwise_iff_getElem.1 h (j - 1) j (by omega) hj (by omega)
  simpa [List.getD_eq_getElem?_getD, hj, show j - 1 < l.length by omega] using this
theorem spansOk_ord {l : List Span} : spansOk l = true ↔ (∀ s ∈ l, spanOk s = true) ∧ Ord l := by
  rw [spansOk_iff]
  constructor
  · intro h
    refine ⟨spansOk_mem (spansOk_iff.2 h), ord_of fun j h0 hj => ?_⟩
    have := ((spanChk_iff l j).1 (h j hj)).2
    omega
  · rintro ⟨h1, h2⟩ j hj
    have hs := h1 _ (spanD_mem hj)
    rw [spanChk_iff]
    simp only [spanOk, Bool.and_eq_true, inR_t] at hs
    refine ⟨hs, ?_⟩
    by_cases h0 : j = 0
    · exact .inl h0
    · exact .inr (ord_step h2 (by omega) hj)
theorem takeWhile_all {α : Type} {p : α → Bool} : ∀ {l : List α} {s : α}, s ∈ l.takeWhile p → p s = true
  | [], _, h => by cases h
  | a :: l, s, h => by
    rw [List.takeWhile_cons] at h
    split at h
    · rename_i ha
      rcases List.mem_cons.1 h with rfl | h
      · exact ha
      · exact takeWhile_all h
    · cases h
theorem putS_ord {l : List Span} {x : Span} (h : Ord l) (hx : ∀ s ∈ l, s.at_ ≠ x.at_) : Ord (putS l x) := by
  have hl : Ord (l.takeWhile (fun s => decide (s.at_ < x.at_)) ++ l.dropWhile (fun s => decide (s.at_ < x.at_))) := by rw [List.takeWhile_append_dropWhile]; exact h
  obtain ⟨a1, a2, a3⟩ := List.pairwise_append.1 hl
  have hm : ∀ s ∈ l.dropWhile (fun s => decide (s.at_ < x.at_)), s ∈ l := fun s hs => (List.dropWhile_sublist _).subset hs
  have hlt : ∀ s ∈ l.takeWhile (fun s => decide (s.at_ < x.at_)), s.at_ < x.at_ := fun s hs => by
    have := takeWhile_all (p := fun s : Span => decide (s.at_ < x.at_)) hs
    simpa using this
  have hgt : ∀ s ∈ l.dropWhile (fun s => decide (s.at_ < x.at_)), x.at_ < s.at_ := by
    cases hd : l.dropWhile (fun s => decide (s.at_ < x.at_)) with
    | nil => intro s hs; cases hs
    | cons d r =>
      have hdn : ¬ d.at_ < x.at_ := by
        have := List.head?_dropWhile_not (fun s : Span => decide (s.at_ < x.at_)) l
        rw [hd] at this
        simpa using this
      have hdx : d.at_ ≠ x.at_ := hx d (hm d (by rw [hd]; simp))
      rw [hd] at a2
      intro s hs
      rcases List.mem_cons.1 hs with rfl | hs
      · omega
      · have := (List.pairwise_cons.1 a2).1 s hs
        omega
  exact List.pairwise_append.2 ⟨a1, List.pairwise_cons.2 ⟨hgt, a2⟩, fun a ha b hb => by
    rcases List.mem_cons.1 hb with rfl | hb
    · exact hlt a ha
    · exact a3 a ha b hb⟩

def lb_spec_l23Put_0 : PC := .seq (.seq (.rgd [] [.s (.mv 7 (.t 5)), .s (.mv 8 (.t 0)), .s (.len 9 false (.t 8)), .s (.bin 10 .lss (.t 7) (.t 9)), .s (.mv 11 (.t 10)), .g 11 true (some 12) (.mv 12 (.t 0)), .g 11 true (some 13) (.mv 13 (.t 5)), .g 11 true (some 14) (.ia 14 .span (.t 12) (.t 13)), .g 11 true (some 15) (.fa 15 (.t 14) 0), .g 11 true (some 16) (.load 16 false 1 (.t 15)), .g 11 true (some 17) (.fa 17 (.t 3) 0), .g 11 true (some 18) (.load 18 false 1 (.t 17)), .g 11 true (some 19) (.bin 19 .lss (.t 16) (.t 18)), .s (.pick 20 (.t 11) (.t 19) (.k (.v (.c .ff))))] (.tk 0 (.tk 1 (.tk 2 (.tk 3 (.tk 4 (.tk 5 (.tk 6 (.tk 7 (.tk 8 (.tk 9 (.tk 10 (.tk 11 (.tk 12 (.tk 13 (.done none)))))))))))))))) (.cond (.t 20) (.skip) (.exit 0))) (.blk 1 (.reg [.s (.mv 21 (.t 5)), .s (.bin 22 .add (.t 21) (.k (.v (.c (.int .i64 1))))), .s (.mv 5 (.t 22))]))
def pf_spec_l23Put : PF := ⟨[.t 4], .seq (.reg [.s (.box 3 (.t 1)), .s (.mv 4 (.k (.v (.c (.nils .span)))))]) (.seq (.reg [.s (.mv 5 (.k (.v (.c (.int .i64 0)))))]) (.seq (.blk 0 (.loop [0, 3, 5] lb_spec_l23Put_0)) (.seq (.reg [.s (.bs 23 .span []), .s (.mv 24 (.t 0)), .s (.mv 25 (.t 5)), .s (.slc 26 .span (.t 24) none (some (.t 25))), .s (.app 27 .span (.t 23) (.t 26)), .s (.mv 6 (.t 27))]) (.seq (.reg [.s (.mv 28 (.t 6)), .s (.load 29 true 2 (.t 3)), .s (.bs 30 .span [(.t 29)]), .s (.app 31 .span (.t 28) (.t 30)), .s (.mv 6 (.t 31))]) (.seq (.reg [.s (.mv 32 (.t 6)), .s (.mv 33 (.t 0)), .s (.mv 34 (.t 5)), .s (.slc 35 .span (.t 33) (some (.t 34)) none), .s (.app 36 .span (.t 32) (.t 35)), .s (.mv 4 (.t 36))]) (.ret))))))⟩
def c_spec_l23Put : Fun := ⟨36, [], fun ts K => as2 ts fun t0 t1 => arC (pL .span) t0 fun l => arG pSpanT t1 fun x => chk (l.length ≤ 1048576) (K (tL true .span (putS l x)) [])⟩
theorem run_spec_l23Put (l : List (FT.Ty .span)) (x : Span) (hpre : l.length ≤ 1048576) : runK [] (l.length + 1) [] pf_spec_l23Put [tL false .span l, tG (x.tc [])] fun r o => r = tL true .span (putS l x) ∧ o = [] := by
  conv => whnf
  refine loop (α := Nat) (fun k => ⟨[(0, .v (.c (.sl false .span 0))), (3, .v (.c (.ptr 1 0))), (5, .v (.c (.int .i64 (k : Int))))], [(1, some (.box true [.int .i64 x.at_, .int .i64 x.len])), (0, some (.flat false .span none l))], nums.tail.tail, [], false, []⟩)
      (fun k => k ≤ l.length ∧ ∀ j, j < k → (l.getD j (FT.zero .span)).at_ < x.at_) (fun k => l.length - k) (fun k R hI hR => ?_) 0 _ ⟨Nat.zero_le _, fun j hj => absurd hj (by omega)⟩ (by show l.length - 0 < l.length + 1; omega)
  obtain ⟨hk, hj⟩ := hI
  have e1 : win l 0 k = l.take k := by simp [win]
  have e2 : win l (0 + k) ((l.length : Int) - (k : Int)).toNat = l.drop k := by
    unfold win; rw [Nat.zero_add, List.take_of_length_le (by rw [List.length_drop]; omega)]
  conv => whnf
  repeat' (first | (refine sel_i (fun h => ?_) (fun h => ?_) <;> conv => whnf) | (refine chk_c ?_ ?_ <;> conv => whnf) | (refine And.intro ?_ rfl) | (refine And.intro ?_ ?_ <;> conv => whnf))
  all_goals (try simp only [etaSpan, Int.toNat_natCast, decide_eq_true_eq, decide_eq_false_iff_not] at *)
  all_goals first
    | (refine ⟨?_⟩; omega)
    | (rw [wrap_id (n := (k : Int) + 1) (by omega) (by omega)]
       refine hR (k + 1) ⟨by omega, fun j hjk => ?_⟩ (by omega)
       by_cases e : j = k
       · rw [e]; exact h
       · exact hj j (by omega))
    | (refine ⟨?_⟩; simp only [e1, e2, List.nil_append, List.length_append, List.length_take, List.length_drop, List.length_cons, List.length_nil]; omega)
    | (rw [putS_at hk hj (.inr h)]; simp only [e1, e2, List.nil_append, List.append_assoc]; rfl)
    | (rw [putS_at hk hj (.inl (by omega))]; simp only [e1, e2, List.nil_append, List.append_assoc]; rfl)
    | trace_state
theorem ok_spec_l23Put : FunOk Tryz.prog c_spec_l23Put := funOk (E := []) (envOk_nil) mixd Tryz.func36 (pf := pf_spec_l23Put) (by kernel_rfl) fun ts K h => by
  obtain ⟨t0, t1, e0, h⟩ := as2_out h
  subst e0
  obtain ⟨l, e1, hq⟩ := arC_out (rd_l .span) h
  clear h
  subst e1
  have h := hq
  clear hq
  obtain ⟨x, e1, hq⟩ := arG_out rd_span h
  clear h
  subst e1
  have h := hq
  clear hq
  obtain ⟨hpre, h⟩ := chk_o h
  exact ⟨_, _, h, Nat.le_of_ble_eq_true (show Nat.ble 2 Tryz.f36.ntmps = true by kernel_rfl), _, run_spec_l23Put l x hpre⟩

def freeAt (l : List Span) (n a : Nat) : Bool := (List.range n).all (fun j => cnt l (a + j) == 0)
def firstAt (l : List Span) (n : Nat) : Option Nat := (List.range (25 - n)).find? (fun a => freeAt l n a)
def grantK (a n : Int) : Word := keyWord ⟨a, a + n, 27, 0⟩ 0
def grant (h : Heap) (n : Int) : Heap × Word × Bool :=
  if heapOk h && inR n 1 24 then match firstAt (h.live ++ h.waits) n.toNat with
    | some a => (⟨h.mem, putS h.live ⟨(a : Int), n⟩, h.waits⟩, grantK (a : Int) n, true)
    | none => (h, zW, false)
  else (h, zW, false)
def grantT (x : Heap × Word × Bool) : Tree := .tup [.g (x.1.tc true []), .g (x.2.1.tc []), .c (.bool x.2.2)]
theorem grant_no {h : Heap} {n : Int} (k : (heapOk h && inR n 1 24) = false) : grant h n = (h, zW, false) := by unfold grant; rw [k]; rfl
theorem grant_some {h : Heap} {n : Int} {a : Nat} (k : (heapOk h && inR n 1 24) = true) (f : firstAt (h.live ++ h.waits) n.toNat = some a) : grant h n = (⟨h.mem, putS h.live ⟨(a : Int), n⟩, h.waits⟩, grantK (a : Int) n, true) := by
  unfold grant; rw [k, f]; rfl
theorem grant_none {h : Heap} {n : Int} (k : (heapOk h && inR n 1 24) = true) (f : firstAt (h.live ++ h.waits) n.toNat = none) : grant h n = (h, zW, false) := by
  unfold grant; rw [k, f]; rfl
theorem freeAt_t {l : List Span} {n a : Nat} : freeAt l n a = true ↔ ∀ j, a ≤ j → j < a + n → cnt l j = 0 := by
  unfold freeAt
  rw [List.all_eq_true]
  constructor
  · intro h j h1 h2
    have := h (j - a) (List.mem_range.2 (by omega))
    rw [show a + (j - a) = j by omega] at this
    simpa using this
  · intro h j hj
    have hj := List.mem_range.1 hj
    simp [h (a + j) (by omega) (by omega)]
theorem freeAt_f {l : List Span} {n a j : Nat} (h1 : a ≤ j) (h2 : j < a + n) (h : 0 < cnt l j) : freeAt l n a = false := by
  rw [Bool.eq_false_iff]
  intro hh
  have := freeAt_t.1 hh j h1 h2
  omega
theorem first_some {l : List Span} {n a : Nat} (ha : a + n ≤ 24) (h : freeAt l n a = true) (h2 : ∀ b, b < a → freeAt l n b = false) : firstAt l n = some a := by
  unfold firstAt
  rw [List.find?_range_eq_some]
  exact ⟨h, by rw [List.mem_range]; omega, fun j hj => by rw [h2 j hj]; rfl⟩
theorem first_none {l : List Span} {n : Nat} (h2 : ∀ b, b + n ≤ 24 → freeAt l n b = false) : firstAt l n = none := by
  unfold firstAt
  rw [List.find?_range_eq_none]
  exact fun i hi => by rw [h2 i (by omega)]; rfl
theorem first_out {l : List Span} {n a : Nat} (hn : n ≤ 24) (h : firstAt l n = some a) : a + n ≤ 24 ∧ freeAt l n a = true := by
  unfold firstAt at h
  rw [List.find?_range_eq_some] at h
  have := List.mem_range.1 h.2.1
  exact ⟨by omega, h.1⟩

def lb_spec_Grant_0 : PC := .seq (.seq (.reg [.s (.mv 26 (.t 10)), .s (.bin 27 .lss (.t 26) (.k (.v (.c (.int .i64 24)))))]) (.cond (.t 27) (.skip) (.exit 0))) (.seq (.blk 1 (.seq (.seq (.reg [.s (.mv 30 (.t 8)), .s (.mv 31 (.t 10)), .s (.ia 32 (.int .i64) (.t 30) (.t 31)), .s (.load 33 false 1 (.t 32)), .s (.bin 34 .gtr (.t 33) (.k (.v (.c (.int .i64 0)))))]) (.cond (.t 34) (.seq (.reg [.s (.mv 9 (.k (.v (.c (.int .i64 0)))))]) (.exit 1)) (.skip))) (.seq (.reg [.s (.mv 35 (.t 9)), .s (.bin 36 .add (.t 35) (.k (.v (.c (.int .i64 1))))), .s (.mv 9 (.t 36))]) (.seq (.reg [.s (.mv 37 (.t 9)), .s (.mv 38 (.t 1)), .s (.bin 39 .eql (.t 37) (.t 38))]) (.cond (.t 39) (.seq (.reg [.s (.mv 40 (.t 10)), .s (.mv 41 (.t 1)), .s (.bin 42 .sub (.t 40) (.t 41)), .s (.bin 43 .add (.t 42) (.k (.v (.c (.int .i64 1))))), .s (.mv 11 (.t 43))]) (.seq (.reg [.s (.fa 44 (.t 7) 2), .s (.load 45 false 1 (.t 44)), .s (.mv 46 (.t 11)), .s (.mv 47 (.t 1)), .s (.build 48 [.int .i64 0, .int .i64 0] [(0, 1, (.t 46)), (1, 1, (.t 47))]), .s (.call (some 49) 36 [(.t 45), (.t 48)]), .s (.fa 50 (.t 7) 2), .s (.store 1 (.t 50) (.t 49))]) (.seq (.rgd [] [.s (.load 51 true 4 (.t 7)), .s (.mv 52 (.t 11)), .s (.mv 53 (.t 11)), .s (.mv 54 (.t 1)), .s (.bin 55 .add (.t 53) (.t 54)), .s (.build 56 [.int .i64 0, .int .i64 0, .int .i64 0, .int .i64 0] [(0, 1, (.t 52)), (1, 1, (.t 55)), (2, 1, (.k (.v (.c (.int .i64 27)))))]), .s (.call (some 57) 37 [(.t 56), (.k (.v (.c (.int .i64 0))))]), .s (.store 4 (.t 4) (.t 51)), .s (.store 6 (.t 5) (.t 57)), .s (.mv 6 (.k (.v (.c .tt))))] (.tk 0 (.tk 1 (.tk 2 (.tk 3 (.tk 4 (.tk 5 (.one 6 false (.one 7 true (.one 8 true (.tk 9 (.done none)))))))))))) (.ret)))) (.skip)))))) (.reg [.s (.mv 28 (.t 10)), .s (.bin 29 .add (.t 28) (.k (.v (.c (.int .i64 1))))), .s (.mv 10 (.t 29))]))
def pf_spec_Grant : PF := ⟨[.c 4 true 4, .c 5 true 6, .t 6], .seq (.reg [.s (.box 2 (.t 0)), .s (.alloc 4 [.nils .word, .nils .bool, .nils .span, .nils .span]), .s (.alloc 5 [.int .i64 0, .ff, .int .i64 0, .int .i64 0, .int .i64 0, .int .i64 0]), .s (.mv 6 (.k (.v (.c .ff))))]) (.seq (.reg [.s (.load 12 true 4 (.t 2)), .s (.call (some 13) 33 [(.t 12)]), .s (.alloc 7 [.nils .word, .nils .bool, .nils .span, .nils .span]), .s (.store 4 (.t 7) (.t 13))]) (.seq (.seq (.reg [.s (.load 14 true 4 (.t 2)), .s (.call (some 15) 19 [(.t 14)]), .s (.bnot 16 (.t 15)), .s (.mv 17 (.t 16)), .g 17 false (some 18) (.mv 18 (.t 1)), .g 17 false (some 19) (.call (some 19) 34 [(.t 18), (.k (.v (.c (.int .i64 1)))), (.k (.v (.c (.int .i64 24))))]), .g 17 false (some 20) (.bnot 20 (.t 19)), .s (.pick 21 (.t 17) (.k (.v (.c .tt))) (.t 20))]) (.cond (.t 21) (.seq (.reg [.s (.load 22 true 4 (.t 7)), .s (.build 23 [.int .i64 0, .ff, .int .i64 0, .int .i64 0, .int .i64 0, .int .i64 0] []), .s (.store 4 (.t 4) (.t 22)), .s (.store 6 (.t 5) (.t 23)), .s (.mv 6 (.k (.v (.c .ff))))]) (.ret)) (.skip))) (.seq (.reg [.s (.load 24 true 4 (.t 2)), .s (.call (some 25) 35 [(.t 24)]), .s (.mv 8 (.t 25))]) (.seq (.reg [.s (.mv 9 (.k (.v (.c (.int .i64 0)))))]) (.seq (.seq (.reg [.s (.mv 10 (.k (.v (.c (.int .i64 0)))))]) (.blk 0 (.loop [1, 4, 5, 7, 8, 9, 10] lb_spec_Grant_0))) (.seq (.reg [.s (.load 58 true 4 (.t 7)), .s (.build 59 [.int .i64 0, .ff, .int .i64 0, .int .i64 0, .int .i64 0, .int .i64 0] []), .s (.store 4 (.t 4) (.t 58)), .s (.store 6 (.t 5) (.t 59)), .s (.mv 6 (.k (.v (.c .ff))))]) (.ret)))))))⟩
def c_spec_Grant : Fun := ⟨7, [], fun ts K => as2 ts fun t0 t1 => arG pHeapT t0 fun t => arC (pI .i64) t1 fun n => chk (LHeap t 1048576) (K (grantT (grant t n)) [])⟩
theorem run_spec_Grant (t : Heap) (n : Int) (hpre : LHeap t 1048576) : runK [c_spec_HeapOk, c_spec_l23Copy, c_spec_l1In, c_spec_l23Owners, c_spec_l23Put, c_spec_KeyWord] (30) [] pf_spec_Grant [tG (t.tc false []), tI .i64 n] fun r o => r = grantT (grant t n) ∧ o = [] := by
  have l2 := hpre.2.1
  have l3 := hpre.2.2
  conv => whnf
  repeat' (first | (refine sel_i (fun h => ?_) (fun h => ?_) <;> conv => whnf) | (refine chk_c ?_ ?_ <;> conv => whnf) | (refine And.intro ?_ rfl) | (refine And.intro ?_ ?_ <;> conv => whnf))
  all_goals (try simp only [etaMemory, etaHeap, Bool.not_eq_true', Bool.not_eq_false'] at *)
  all_goals first
    | (refine ⟨?_⟩; exact hpre)
    | (refine ⟨?_⟩; exact hpre.mono (by decide))
    | (refine ⟨?_⟩; exact ⟨hpre.mono (by decide)⟩)
    | (rw [grant_no (by simp [*])]; rfl)
    | skip
  have hk : heapOk t = true := by assumption
  have hn1 := inR_t.1 h
  obtain ⟨N, rfl⟩ := Int.eq_ofNat_of_zero_le (show 0 ≤ n by omega)
  have hg : (heapOk t && inR (N : Int) 1 24) = true := by rw [hk, h]; rfl
  have how := owners_len (t.live ++ t.waits)
  have hos : ∀ j, j < 24 → (owners (t.live ++ t.waits)).getD j 0 = (cnt (t.live ++ t.waits) j : Int) := fun j hj => owners_spec (heapOk_spans hk) (by rw [List.length_append]; omega) hj
  have hfs := fun a (h1 : a + N ≤ 24) h2 h3 => grant_some (h := t) (n := (N : Int)) (a := a) hg (first_some (n := N) h1 h2 h3)
  have hfn := fun h2 => grant_none (h := t) (n := (N : Int)) hg (first_none (n := N) h2)
  clear h
  generalize owners (t.live ++ t.waits) = ow at *
  generalize t.live ++ t.waits = all at *
  refine loop (α := Nat × Nat) (fun q => ⟨[(1, .v (.c (.int .i64 (N : Int)))), (4, .v (.c (.ptr 0 0))), (5, .v (.c (.ptr 1 0))), (7, .v (.c (.ptr 2 0))), (8, .v (.c (.sl false (.int .i64) 7))), (9, .v (.c (.int .i64 (q.2 : Int)))), (10, .v (.c (.int .i64 (q.1 : Int))))],
        [(7, some (.flat true (.int .i64) none ow)), (6, some (.flat true .span none t.waits)), (5, some (.flat true .span none t.live)), (4, some (.flat true .bool none t.mem.gone)), (3, some (.flat true .word none t.mem.words)), (2, some (.box true [.sl false .word 3, .sl false .bool 4, .sl false .span 5, .sl false .span 6])), (1, some (.box true [.int .i64 0, .ff, .int .i64 0, .int .i64 0, .int .i64 0, .int .i64 0])), (0, some (.box true [.nils .word, .nils .bool, .nils .span, .nils .span]))], nums.tail.tail.tail.tail.tail.tail.tail.tail, [], false, []⟩)
      (fun q => (q.1 ≤ 24 ∧ q.2 ≤ q.1 ∧ q.2 < N) ∧ (∀ j, q.1 - q.2 ≤ j → j < q.1 → cnt all j = 0) ∧ (q.2 < q.1 → 0 < cnt all (q.1 - q.2 - 1)) ∧ ∀ a, a + N ≤ q.1 → freeAt all N a = false) (fun q => 24 - q.1) (fun q R hI hR => ?_) (0, 0) _
      ⟨⟨Nat.zero_le _, Nat.le_refl _, by dsimp only; omega⟩, fun j h1 h2 => absurd h2 (by dsimp only; omega), fun h => absurd h (by dsimp only; omega), fun a ha => absurd ha (by dsimp only; omega)⟩ (by show 24 - 0 < 30; omega)
  obtain ⟨c, f⟩ := q
  obtain ⟨⟨i1, i2, i3⟩, hz, hb, hw⟩ := hI
  dsimp only at i1 i2 i3 hz hb hw ⊢
  conv => whnf
  repeat' (first | (refine sel_i (fun h => ?_) (fun h => ?_) <;> conv => whnf) | (refine chk_c ?_ ?_ <;> conv => whnf) | (refine And.intro ?_ rfl) | (refine And.intro ?_ ?_ <;> conv => whnf))
  all_goals (try simp only [etaMemory, etaHeap, Int.toNat_natCast, Bool.not_eq_true', Bool.not_eq_false', beq_iff_eq, beq_eq_false_iff_ne, decide_eq_true_eq, decide_eq_false_iff_not] at *)
  all_goals first
    | (refine ⟨?_⟩; omega)
    | skip
  · have g := hos c (by omega)
    have h0 : ow.getD c 0 > 0 := h
    rw [wrap_id (n := (c : Int) + 1) (by omega) (by omega)]
    refine hR (c + 1, 0) ⟨⟨by dsimp only; omega, Nat.zero_le _, by dsimp only; omega⟩, fun j h1 h2 => absurd h2 (by dsimp only at h1 ⊢; omega), fun _ => ?_, fun a ha => ?_⟩ (by dsimp only; omega)
    · dsimp only
      rw [show c + 1 - 0 - 1 = c by omega]; omega
    · dsimp only at ha
      by_cases e : a + N ≤ c
      · exact hw a e
      · exact freeAt_f (j := c) (by omega) (by omega) (by omega)
  · have g := hos c (by omega)
    rw [wrap_id (n := (f : Int) + 1) (by omega) (by omega)] at h
    have h0 : ¬ ow.getD c 0 > 0 := by assumption
    have hfN : f + 1 = N := by omega
    rw [hfs (c + 1 - N) (by omega) (freeAt_t.2 fun j h1 h2 => by
      by_cases e : j = c
      · rw [e]; omega
      · exact hz j (by omega) (by omega)) (fun b hb => hw b (by omega))]
    have e1 : IntKind.i64.wrap (IntKind.i64.wrap ((c : Int) - (N : Int)) + 1) = ((c + 1 - N : Nat) : Int) := by
      rw [wrap_id (n := (c : Int) - (N : Int)) (by omega) (by omega), wrap_id (by omega) (by omega)]; omega
    rw [e1, wrap_id (n := ((c + 1 - N : Nat) : Int) + (N : Int)) (by omega) (by omega)]
    rfl
  · have g := hos c (by omega)
    rw [wrap_id (n := (f : Int) + 1) (by omega) (by omega)] at h
    have h0 : ¬ ow.getD c 0 > 0 := by assumption
    have hfN : ¬ f + 1 = N := by omega
    rw [wrap_id (n := (c : Int) + 1) (by omega) (by omega), wrap_id (n := (f : Int) + 1) (by omega) (by omega)]
    refine hR (c + 1, f + 1) ⟨⟨by dsimp only; omega, by dsimp only; omega, by dsimp only; omega⟩, fun j h1 h2 => ?_, fun h5 => ?_, fun a ha => ?_⟩ (by dsimp only; omega)
    · dsimp only at h1 h2
      by_cases e : j = c
      · rw [e]; omega
      · exact hz j (by omega) (by omega)
    · dsimp only at h5 ⊢
      have := hb (by omega)
      rw [show c + 1 - (f + 1) - 1 = c - f - 1 by omega]; exact this
    · dsimp only at ha
      by_cases e : a + N ≤ c
      · exact hw a e
      · have := hb (by omega)
        exact freeAt_f (j := c - f - 1) (by omega) (by omega) this
  · rw [hfn (fun b hb => hw b (by omega))]; rfl
theorem ok_spec_Grant : FunOk Tryz.prog c_spec_Grant := funOk (E := [c_spec_HeapOk, c_spec_l23Copy, c_spec_l1In, c_spec_l23Owners, c_spec_l23Put, c_spec_KeyWord]) (envOk_cons ok_spec_HeapOk (envOk_cons ok_spec_l23Copy (envOk_cons ok_spec_l1In (envOk_cons ok_spec_l23Owners (envOk_cons ok_spec_l23Put (envOk_cons ok_spec_KeyWord (envOk_nil))))))) mixd Tryz.func7 (pf := pf_spec_Grant) (by kernel_rfl) fun ts K h => by
  obtain ⟨t0, t1, e0, h⟩ := as2_out h
  subst e0
  obtain ⟨t, e1, hq⟩ := arG_out rd_heap h
  clear h
  subst e1
  have h := hq
  clear hq
  obtain ⟨n, e1, hq⟩ := arC_out (rd_int .i64) h
  clear h
  subst e1
  have h := hq
  clear hq
  obtain ⟨hpre, h⟩ := chk_o h
  exact ⟨_, _, h, Nat.le_of_ble_eq_true (show Nat.ble 2 Tryz.f7.ntmps = true by kernel_rfl), _, run_spec_Grant t n hpre⟩

def setRun : Nat → Nat → List Bool → List Bool
  | 0, _, u => u
  | n + 1, c, u => setRun n (c + 1) (u.set c true)
theorem setRun_len : ∀ (n c : Nat) (u : List Bool), (setRun n c u).length = u.length
  | 0, _, _ => rfl
  | n + 1, c, u => by unfold setRun; rw [setRun_len n]; simp
theorem setRun_get : ∀ (n c : Nat) (u : List Bool) {j : Nat}, j < u.length → (setRun n c u).getD j false = (u.getD j false || (decide (c ≤ j) && decide (j < c + n)))
  | 0, c, u, j, _ => by
    have : (decide (c ≤ j) && decide (j < c + 0)) = false := by rw [Bool.and_eq_false_iff]; by_cases h : c ≤ j <;> simp <;> omega
    rw [this, Bool.or_false]; rfl
  | n + 1, c, u, j, hj => by
    unfold setRun
    rw [setRun_get n (c + 1) _ (by simpa using hj)]
    by_cases e : c = j
    · subst e
      have : (u.set c true).getD c false = true := by simp [List.getD_eq_getElem?_getD, hj]
      rw [this]; simp
    · have : (u.set c true).getD j false = u.getD j false := by simp only [List.getD_eq_getElem?_getD, List.getElem?_set, if_neg e]
      rw [this]
      congr 1
      by_cases h1 : c + 1 ≤ j
      · rw [decide_eq_true h1, decide_eq_true (show c ≤ j by omega)]
        exact congrArg (true && ·) (decide_eq_decide.2 ⟨fun h => by omega, fun h => by omega⟩)
      · rw [decide_eq_false h1, decide_eq_false (show ¬ c ≤ j by omega)]; rfl
def idxAt (l : List Span) (a : Int) : Option Nat := (List.range l.length).find? (fun i => decide ((l.getD i (FT.zero .span)).at_ = a))
def giveBack (h : Heap) (a : Int) : Heap × Bool :=
  if heapOk h then match idxAt h.live a with
    | some i => (⟨⟨h.mem.words, setRun (h.live.getD i (FT.zero .span)).len.toNat (h.live.getD i (FT.zero .span)).at_.toNat h.mem.gone⟩, h.live.take i ++ h.live.drop (i + 1), putS h.waits (h.live.getD i (FT.zero .span))⟩, true)
    | none => (h, false)
  else (h, false)
def giveT (x : Heap × Bool) : Tree := .tup [.g (x.1.tc true []), .c (.bool x.2)]
theorem give_no {h : Heap} {a : Int} (k : heapOk h = false) : giveBack h a = (h, false) := by unfold giveBack; rw [k]; rfl
theorem give_none {h : Heap} {a : Int} (k : ∀ i, i < h.live.length → ¬ (h.live.getD i (FT.zero .span)).at_ = a) : giveBack h a = (h, false) := by
  have : idxAt h.live a = none := by
    unfold idxAt; rw [List.find?_range_eq_none]; exact fun i hi => by rw [decide_eq_false (k i hi)]; rfl
  unfold giveBack; rw [this]; split <;> rfl
theorem give_some {h : Heap} {a : Int} {i : Nat} (k : heapOk h = true) (hi : i < h.live.length) (he : (h.live.getD i (FT.zero .span)).at_ = a) (hb : ∀ j, j < i → ¬ (h.live.getD j (FT.zero .span)).at_ = a) :
    giveBack h a = (⟨⟨h.mem.words, setRun (h.live.getD i (FT.zero .span)).len.toNat (h.live.getD i (FT.zero .span)).at_.toNat h.mem.gone⟩, h.live.take i ++ h.live.drop (i + 1), putS h.waits (h.live.getD i (FT.zero .span))⟩, true) := by
  have : idxAt h.live a = some i := by
    unfold idxAt; rw [List.find?_range_eq_some]; exact ⟨decide_eq_true he, List.mem_range.2 hi, fun j hj => by rw [decide_eq_false (hb j hj)]; rfl⟩
  unfold giveBack; rw [k, this]; rfl

def lb_spec_GiveBack_0 : PC := .seq (.seq (.reg [.s (.mv 52 (.t 9)), .s (.fa 53 (.t 8) 0), .s (.load 54 false 1 (.t 53)), .s (.fa 55 (.t 8) 1), .s (.load 56 false 1 (.t 55)), .s (.bin 57 .add (.t 54) (.t 56)), .s (.bin 58 .lss (.t 52) (.t 57))]) (.cond (.t 58) (.skip) (.exit 2))) (.seq (.blk 3 (.reg [.s (.fa 61 (.t 6) 0), .s (.fa 62 (.t 61) 1), .s (.load 63 false 1 (.t 62)), .s (.mv 64 (.t 9)), .s (.ia 65 .bool (.t 63) (.t 64)), .s (.store 1 (.t 65) (.k (.v (.c .tt))))])) (.reg [.s (.mv 59 (.t 9)), .s (.bin 60 .add (.t 59) (.k (.v (.c (.int .i64 1))))), .s (.mv 9 (.t 60))]))
def lb_spec_GiveBack_1 : PC := .seq (.seq (.reg [.s (.mv 16 (.t 7)), .s (.fa 17 (.t 2) 2), .s (.load 18 false 1 (.t 17)), .s (.len 19 false (.t 18)), .s (.bin 20 .lss (.t 16) (.t 19))]) (.cond (.t 20) (.skip) (.exit 0))) (.seq (.blk 1 (.seq (.reg [.s (.fa 23 (.t 2) 2), .s (.load 24 false 1 (.t 23)), .s (.mv 25 (.t 7)), .s (.ia 26 .span (.t 24) (.t 25)), .s (.load 27 true 2 (.t 26)), .s (.alloc 8 [.int .i64 0, .int .i64 0]), .s (.store 2 (.t 8) (.t 27))]) (.seq (.seq (.reg [.s (.fa 28 (.t 8) 0), .s (.load 29 false 1 (.t 28)), .s (.mv 30 (.t 1)), .s (.bin 31 .neq (.t 29) (.t 30))]) (.cond (.t 31) (.exit 1) (.skip))) (.seq (.rgd [] [.s (.bs 32 .span []), .s (.fa 33 (.t 2) 2), .s (.load 34 false 1 (.t 33)), .s (.mv 35 (.t 7)), .s (.slc 36 .span (.t 34) none (some (.t 35))), .s (.app 37 .span (.t 32) (.t 36)), .s (.fa 38 (.t 2) 2), .s (.load 39 false 1 (.t 38)), .s (.mv 40 (.t 7)), .s (.bin 41 .add (.t 40) (.k (.v (.c (.int .i64 1))))), .s (.slc 42 .span (.t 39) (some (.t 41)) none), .s (.app 43 .span (.t 37) (.t 42)), .s (.fa 44 (.t 6) 2), .s (.store 1 (.t 44) (.t 43))] (.tk 1 (.tk 2 (.tk 3 (.tk 6 (.tk 7 (.tk 8 (.tk 9 (.alt 0 false (.alt 4 false (.alt 5 false (.one 10 false (.one 11 true (.tk 12 (.one 13 true (.done (some [2, 4, 6, 8])))))) (.alt 10 false (.one 5 false (.one 11 true (.tk 12 (.one 13 true (.done (some [2, 4, 6, 8])))))) (.nil))) (.alt 10 false (.one 4 false (.one 5 false (.one 11 true (.tk 12 (.one 13 true (.done (some [2, 4, 6, 8]))))))) (.nil))) (.alt 4 false (.alt 0 false (.alt 5 false (.one 10 false (.one 11 true (.tk 12 (.one 13 true (.done (some [2, 4, 6, 8])))))) (.alt 10 false (.one 5 false (.one 11 true (.tk 12 (.one 13 true (.done (some [2, 4, 6, 8])))))) (.nil))) (.alt 10 false (.one 0 false (.one 5 false (.one 11 true (.tk 12 (.one 13 true (.done (some [2, 4, 6, 8]))))))) (.nil))) (.alt 10 false (.alt 0 false (.one 4 false (.one 5 false (.one 11 true (.tk 12 (.one 13 true (.done (some [2, 4, 6, 8]))))))) (.alt 4 false (.one 0 false (.one 5 false (.one 11 true (.tk 12 (.one 13 true (.done (some [2, 4, 6, 8]))))))) (.nil))) (.nil)))))))))))) (.seq (.reg [.s (.fa 45 (.t 2) 3), .s (.load 46 false 1 (.t 45)), .s (.load 47 true 2 (.t 8)), .s (.call (some 48) 36 [(.t 46), (.t 47)]), .s (.fa 49 (.t 6) 3), .s (.store 1 (.t 49) (.t 48))]) (.seq (.seq (.reg [.s (.fa 50 (.t 8) 0), .s (.load 51 false 1 (.t 50)), .s (.mv 9 (.t 51))]) (.blk 2 (.loop [4, 6, 8, 9] lb_spec_GiveBack_0))) (.seq (.reg [.s (.load 66 true 4 (.t 6)), .s (.store 4 (.t 4) (.t 66)), .s (.mv 5 (.k (.v (.c .tt))))]) (.ret)))))))) (.reg [.s (.mv 21 (.t 7)), .s (.bin 22 .add (.t 21) (.k (.v (.c (.int .i64 1))))), .s (.mv 7 (.t 22))]))
def pf_spec_GiveBack : PF := ⟨[.c 4 true 4, .t 5], .seq (.reg [.s (.box 2 (.t 0)), .s (.alloc 4 [.nils .word, .nils .bool, .nils .span, .nils .span]), .s (.mv 5 (.k (.v (.c .ff))))]) (.seq (.reg [.s (.load 10 true 4 (.t 2)), .s (.call (some 11) 33 [(.t 10)]), .s (.alloc 6 [.nils .word, .nils .bool, .nils .span, .nils .span]), .s (.store 4 (.t 6) (.t 11))]) (.seq (.seq (.reg [.s (.load 12 true 4 (.t 2)), .s (.call (some 13) 19 [(.t 12)]), .s (.bnot 14 (.t 13))]) (.cond (.t 14) (.seq (.reg [.s (.load 15 true 4 (.t 6)), .s (.store 4 (.t 4) (.t 15)), .s (.mv 5 (.k (.v (.c .ff))))]) (.ret)) (.skip))) (.seq (.seq (.reg [.s (.mv 7 (.k (.v (.c (.int .i64 0)))))]) (.blk 0 (.loop [1, 2, 4, 6, 7] lb_spec_GiveBack_1))) (.seq (.reg [.s (.load 67 true 4 (.t 6)), .s (.store 4 (.t 4) (.t 67)), .s (.mv 5 (.k (.v (.c .ff))))]) (.ret)))))⟩
def c_spec_GiveBack : Fun := ⟨10, [], fun ts K => as2 ts fun t0 t1 => arG pHeapT t0 fun t => arC (pI .i64) t1 fun a => chk (LHeap t 1048576) (K (giveT (giveBack t a)) [])⟩
theorem run_spec_GiveBack (t : Heap) (a : Int) (hpre : LHeap t 1048576) : runK [c_spec_HeapOk, c_spec_l23Copy, c_spec_l23Put] (t.live.length + 30) [] pf_spec_GiveBack [tG (t.tc false []), tI .i64 a] fun r o => r = giveT (giveBack t a) ∧ o = [] := by
  have l2 := hpre.2.1
  have l3 := hpre.2.2
  conv => whnf
  repeat' (first | (refine sel_i (fun h => ?_) (fun h => ?_) <;> conv => whnf) | (refine chk_c ?_ ?_ <;> conv => whnf) | (refine And.intro ?_ rfl) | (refine And.intro ?_ ?_ <;> conv => whnf))
  all_goals (try simp only [etaMemory, etaHeap, Bool.not_eq_true', Bool.not_eq_false'] at *)
  all_goals first
    | (refine ⟨?_⟩; exact hpre)
    | (refine ⟨?_⟩; exact hpre.mono (by decide))
    | (rw [give_no (by assumption)]; rfl)
    | skip
  have hsp : ∀ s ∈ t.live, spanOk s = true := fun s hs => heapOk_spans h s (List.mem_append_left _ hs)
  have hg24 := (memoryOk_n (heapOk_mem h)).2.1
  have hgn := give_none (h := t) (a := a)
  have hgs := fun i hi he hb => give_some (h := t) (a := a) (i := i) h hi he hb
  clear h
  refine loop (α := Nat) (fun i => ⟨[(1, .v (.c (.int .i64 a))), (2, .v (.c (.ptr 0 0))), (4, .v (.c (.ptr 5 0))), (6, .v (.c (.ptr 6 0))), (7, .v (.c (.int .i64 (i : Int))))],
        [(10, some (.flat true .span none t.waits)), (9, some (.flat true .span none t.live)), (8, some (.flat true .bool none t.mem.gone)), (7, some (.flat true .word none t.mem.words)), (6, some (.box true [.sl false .word 7, .sl false .bool 8, .sl false .span 9, .sl false .span 10])), (5, some (.box true [.nils .word, .nils .bool, .nils .span, .nils .span])), (4, some (.flat false .span none t.waits)), (3, some (.flat false .span none t.live)), (2, some (.flat false .bool none t.mem.gone)), (1, some (.flat false .word none t.mem.words)), (0, some (.box true [.sl false .word 1, .sl false .bool 2, .sl false .span 3, .sl false .span 4]))], nums.tail.tail.tail.tail.tail.tail.tail.tail.tail.tail.tail, [], false, []⟩)
      (fun i => i ≤ t.live.length ∧ ∀ j, j < i → ¬ (t.live.getD j (FT.zero .span)).at_ = a) (fun i => t.live.length - i) (fun i R hI hR => ?_) 0 _ ⟨Nat.zero_le _, fun j hj => absurd hj (by omega)⟩ (by show t.live.length - 0 < t.live.length + 30; omega)
  obtain ⟨hi, hb⟩ := hI
  conv => whnf
  refine sel_i (fun h => ?_) (fun h => ?_)
  · have hlt : i < t.live.length := by have h := of_decide_eq_true h; omega
    clear h
    have hs := hsp _ (spanD_mem hlt)
    have hgs2 := fun he => hgs i hlt he hb
    have e1 : win t.live 0 i = t.live.take i := by simp [win]
    have e2 : win t.live (0 + (i + 1)) ((t.live.length : Int) - ((i + 1 : Nat) : Int)).toNat = t.live.drop (i + 1) := by
      unfold win; rw [Nat.zero_add, List.take_of_length_le (by rw [List.length_drop]; omega)]
    have w1 : IntKind.i64.wrap ((i : Int) + 1) = ((i + 1 : Nat) : Int) := by rw [wrap_id (by omega) (by omega)]; rfl
    conv => whnf
    repeat' (first | (refine sel_i (fun h => ?_) (fun h => ?_) <;> conv => whnf) | (refine chk_c ?_ ?_ <;> conv => whnf) | (refine And.intro ?_ rfl) | (refine And.intro ?_ ?_ <;> conv => whnf))
    all_goals (try simp only [etaMemory, etaHeap, etaSpan, w1, Int.toNat_natCast, e1, e2, bne_iff_ne, ne_eq, bne_eq_false_iff_eq, Bool.not_eq_true', Bool.not_eq_false', beq_iff_eq, beq_eq_false_iff_ne, decide_eq_true_eq, decide_eq_false_iff_not] at *)
    all_goals first
      | (refine ⟨?_⟩; omega)
      | (refine ⟨?_⟩; simp only [List.nil_append, List.length_append, List.length_take, List.length_drop, List.length_cons, List.length_nil]; omega)
      | (refine hR (i + 1) ⟨hlt, fun j hj => ?_⟩ (by omega)
         by_cases e : j = i
         · rw [e]; exact h
         · exact hb j (by omega))
      | skip
    have ho : (0 ≤ (t.live.getD i (FT.zero .span)).at_ ∧ (t.live.getD i (FT.zero .span)).at_ ≤ 23) ∧ 1 ≤ (t.live.getD i (FT.zero .span)).len ∧ (t.live.getD i (FT.zero .span)).len ≤ 24 - (t.live.getD i (FT.zero .span)).at_ := by
      have := hs
      simp only [spanOk, Bool.and_eq_true, inR_t] at this
      exact this
    rw [hgs2 h]
    clear hgs hgs2 hgn hb hR
    generalize t.live.getD i (FT.zero .span) = s at *
    obtain ⟨sa, sl⟩ := s
    dsimp only at ho ⊢
    obtain ⟨b, rfl⟩ := Int.eq_ofNat_of_zero_le ho.1.1
    obtain ⟨m, rfl⟩ := Int.eq_ofNat_of_zero_le (show 0 ≤ sl by omega)
    simp only [Int.toNat_natCast]
    have w2 : IntKind.i64.wrap ((b : Int) + (m : Int)) = (b : Int) + m := wrap_id (by omega) (by omega)
    refine loop (α := Nat × List Bool) (fun q => ⟨[(4, .v (.c (.ptr 0 0))), (6, .v (.c (.ptr 1 0))), (8, .v (.c (.ptr 6 0))), (9, .v (.c (.int .i64 (q.1 : Int))))],
          [(6, some (.box true [.int .i64 (b : Int), .int .i64 (m : Int)])), (5, some (.flat true .span none (putS t.waits ⟨(b : Int), (m : Int)⟩))), (4, some (.flat true .span none ([] ++ List.take i t.live ++ List.drop (i + 1) t.live))), (3, some (.flat true .bool none q.2)), (2, some (.flat true .word none t.mem.words)), (1, some (.box true [.sl false .word 2, .sl false .bool 3, .sl true .span 4, .sl false .span 5])), (0, some (.box true [.nils .word, .nils .bool, .nils .span, .nils .span]))], nums.tail.tail.tail.tail.tail.tail.tail, [], false, []⟩)
        (fun q => (b ≤ q.1 ∧ q.1 ≤ b + m) ∧ q.2.length = 24 ∧ setRun (b + m - q.1) q.1 q.2 = setRun m b t.mem.gone) (fun q => b + m - q.1) (fun q R2 hI2 hR2 => ?_) (b, t.mem.gone) _
        ⟨⟨Nat.le_refl _, Nat.le_add_right _ _⟩, hg24, by dsimp only; rw [Nat.add_sub_cancel_left]⟩ (by show b + m - b < t.live.length + 30; omega)
    obtain ⟨n, u⟩ := q
    obtain ⟨⟨gn1, gn2⟩, gl, gv⟩ := hI2
    dsimp only at gn1 gn2 gl gv ⊢
    conv => whnf
    rw [w2]
    refine sel_i (fun h => ?_) (fun h => ?_)
    · have hn : n < b + m := by have h := of_decide_eq_true h; omega
      clear h
      rw [show b + m - n = (b + m - (n + 1)) + 1 by omega, setRun] at gv
      conv => whnf
      repeat' (first | (refine sel_i (fun h => ?_) (fun h => ?_) <;> conv => whnf) | (refine chk_c ?_ ?_ <;> conv => whnf) | (refine And.intro ?_ rfl) | (refine And.intro ?_ ?_ <;> conv => whnf))
      all_goals (try simp only [Int.toNat_natCast] at *)
      all_goals first
        | (refine ⟨?_⟩; omega)
        | (rw [wrap_id (n := (n : Int) + 1) (by omega) (by omega)]
           exact hR2 (n + 1, u.set n true) ⟨⟨by dsimp only; omega, by dsimp only; omega⟩, by simpa using gl, gv⟩ (by dsimp only; omega))
        | trace_state
    · have hn : n = b + m := by have h := of_decide_eq_false h; omega
      subst hn
      rw [Nat.sub_self, setRun] at gv
      conv => whnf
      rw [← gv, List.nil_append]
      exact ⟨rfl, rfl⟩
  · have e : i = t.live.length := by have h := of_decide_eq_false h; omega
    subst e
    conv => whnf
    rw [hgn hb]
    exact ⟨rfl, rfl⟩
theorem ok_spec_GiveBack : FunOk Tryz.prog c_spec_GiveBack := funOk (E := [c_spec_HeapOk, c_spec_l23Copy, c_spec_l23Put]) (envOk_cons ok_spec_HeapOk (envOk_cons ok_spec_l23Copy (envOk_cons ok_spec_l23Put (envOk_nil)))) mixd Tryz.func10 (pf := pf_spec_GiveBack) (by kernel_rfl) fun ts K h => by
  obtain ⟨t0, t1, e0, h⟩ := as2_out h
  subst e0
  obtain ⟨t, e1, hq⟩ := arG_out rd_heap h
  clear h
  subst e1
  have h := hq
  clear hq
  obtain ⟨a, e1, hq⟩ := arC_out (rd_int .i64) h
  clear h
  subst e1
  have h := hq
  clear hq
  obtain ⟨hpre, h⟩ := chk_o h
  exact ⟨_, _, h, Nat.le_of_ble_eq_true (show Nat.ble 2 Tryz.f10.ntmps = true by kernel_rfl), _, run_spec_GiveBack t a hpre⟩

def writeM (m : Mem) (y : Word) (n : Int) (w : Word) : Mem × Int :=
  if memoryOk m then (if writeC m y n w = 0 then (⟨m.words.set n.toNat w, m.gone⟩, 0) else (m, writeC m y n w)) else (⟨[], []⟩, writeC m y n w)
def writeT (x : Mem × Int) : Tree := .tup [.g (x.1.tc true []), .c (.int .i64 x.2)]
theorem writeM_no {m : Mem} {y w : Word} {n : Int} (h : memoryOk m = false) : writeM m y n w = (⟨[], []⟩, writeC m y n w) := by unfold writeM; rw [h]; rfl
theorem writeM_0 {m : Mem} {y w : Word} {n : Int} (h : memoryOk m = true) (h2 : writeC m y n w = 0) : writeM m y n w = (⟨m.words.set n.toNat w, m.gone⟩, 0) := by unfold writeM; rw [h, if_pos rfl, if_pos h2]
theorem writeM_t {m : Mem} {y w : Word} {n : Int} (h : memoryOk m = true) (h2 : ¬ writeC m y n w = 0) : writeM m y n w = (m, writeC m y n w) := by unfold writeM; rw [h, if_pos rfl, if_neg h2]

def pf_spec_Write : PF := ⟨[.c 8 true 2, .t 9], .seq (.reg [.s (.box 4 (.t 0)), .s (.box 5 (.t 1)), .s (.box 7 (.t 3)), .s (.alloc 8 [.nils .word, .nils .bool]), .s (.mv 9 (.k (.v (.c (.int .i64 0)))))]) (.seq (.reg [.s (.load 12 true 2 (.t 4)), .s (.load 13 true 6 (.t 5)), .s (.mv 14 (.t 2)), .s (.load 15 true 6 (.t 7)), .s (.call (some 16) 97 [(.t 12), (.t 13), (.t 14), (.t 15)]), .s (.mv 10 (.t 16))]) (.seq (.seq (.reg [.s (.load 17 true 2 (.t 4)), .s (.call (some 18) 53 [(.t 17)]), .s (.bnot 19 (.t 18))]) (.cond (.t 19) (.seq (.reg [.s (.build 20 [.nils .word, .nils .bool] []), .s (.mv 21 (.t 10)), .s (.store 2 (.t 8) (.t 20)), .s (.mv 9 (.t 21))]) (.ret)) (.skip))) (.seq (.reg [.s (.load 22 true 2 (.t 4)), .s (.call (some 23) 66 [(.t 22)]), .s (.alloc 11 [.nils .word, .nils .bool]), .s (.store 2 (.t 11) (.t 23))]) (.seq (.seq (.reg [.s (.mv 24 (.t 10)), .s (.bin 25 .eql (.t 24) (.k (.v (.c (.int .i64 0)))))]) (.cond (.t 25) (.reg [.s (.fa 26 (.t 11) 0), .s (.load 27 false 1 (.t 26)), .s (.mv 28 (.t 2)), .s (.load 29 true 6 (.t 7)), .s (.ia 30 .word (.t 27) (.t 28)), .s (.store 6 (.t 30) (.t 29))]) (.skip))) (.seq (.reg [.s (.load 31 true 2 (.t 11)), .s (.mv 32 (.t 10)), .s (.store 2 (.t 8) (.t 31)), .s (.mv 9 (.t 32))]) (.ret))))))⟩
def c_spec_Write : Fun := ⟨82, [], fun ts K => as4 ts fun t0 t1 t2 t3 => arG pMemT t0 fun m => arG pWordT t1 fun y => arC (pI .i64) t2 fun n => arG pWordT t3 fun w => chk (LMem m 2147483647) (K (writeT (writeM m y n w)) [])⟩
theorem run_spec_Write (m : Mem) (y : Word) (n : Int) (w : Word) (hpre : LMem m 2147483647) : runK [c_spec_MemoryOk, c_spec_l8Copy, c_spec_l8Write] (0) [] pf_spec_Write [tG (m.tc false []), tG (y.tc []), tI .i64 n, tG (w.tc [])] fun r o => r = writeT (writeM m y n w) ∧ o = [] := by
  conv => whnf
  repeat' (first | (refine sel_i (fun h => ?_) (fun h => ?_) <;> conv => whnf) | (refine chk_c ?_ ?_ <;> conv => whnf) | (refine And.intro ?_ rfl) | (refine And.intro ?_ ?_ <;> conv => whnf))
  all_goals (try simp only [etaKey, etaWord, etaMemory, beq_iff_eq, beq_eq_false_iff_ne, ne_eq, Bool.not_eq_true', Bool.not_eq_false', decide_eq_true_eq, decide_eq_false_iff_not] at *)
  all_goals first
    | (refine ⟨?_⟩; exact hpre)
    | (rw [writeM_no (by assumption)]; rfl)
    | (rw [writeM_0 (by assumption) (by assumption)]; rename_i h9; rw [h9]; rfl)
    | (rw [writeM_0 (by assumption) h, h]; rfl)
    | (rw [writeM_t (by assumption) (by assumption)]; rfl)
    | (have q := writeC_00 (m := m) (y := y) (n := n) (w := w) (by assumption); refine ⟨?_⟩; omega)
    | trace_state
theorem ok_spec_Write : FunOk Tryz.prog c_spec_Write := funOk (E := [c_spec_MemoryOk, c_spec_l8Copy, c_spec_l8Write]) (envOk_cons ok_spec_MemoryOk (envOk_cons ok_spec_l8Copy (envOk_cons ok_spec_l8Write (envOk_nil)))) mixd Tryz.func82 (pf := pf_spec_Write) (by kernel_rfl) fun ts K h => by
  obtain ⟨t0, t1, t2, t3, e0, h⟩ := as4_out h
  subst e0
  obtain ⟨m, e1, hq⟩ := arG_out rd_mem h
  clear h
  subst e1
  have h := hq
  clear hq
  obtain ⟨y, e1, hq⟩ := arG_out rd_word h
  clear h
  subst e1
  have h := hq
  clear hq
  obtain ⟨n, e1, hq⟩ := arC_out (rd_int .i64) h
  clear h
  subst e1
  have h := hq
  clear hq
  obtain ⟨w, e1, hq⟩ := arG_out rd_word h
  clear h
  subst e1
  have h := hq
  clear hq
  obtain ⟨hpre, h⟩ := chk_o h
  exact ⟨_, _, h, Nat.le_of_ble_eq_true (show Nat.ble 4 Tryz.f82.ntmps = true by kernel_rfl), _, run_spec_Write m y n w hpre⟩

theorem ord_ge {l : List Span} (h : spansOk l = true) : ∀ j : Nat, j < l.length → (j : Int) ≤ (l.getD j (FT.zero .span)).at_ := by
  obtain ⟨h1, h2⟩ := spansOk_ord.1 h
  intro j
  induction j with
  | zero =>
    intro hj
    have hs := h1 _ (spanD_mem hj)
    simp only [spanOk, Bool.and_eq_true, inR_t] at hs
    omega
  | succ j ih =>
    intro hj
    have := ih (by omega)
    have := ord_step h2 (show 0 < j + 1 by omega) hj
    rw [Nat.add_sub_cancel] at this
    omega
theorem spansOk_len {l : List Span} (h : spansOk l = true) : l.length ≤ 24 := by
  by_cases h0 : l.length = 0
  · omega
  · have hj : l.length - 1 < l.length := by omega
    have := ord_ge h (l.length - 1) hj
    have hs := (spansOk_ord.1 h).1 _ (spanD_mem hj)
    simp only [spanOk, Bool.and_eq_true, inR_t] at hs
    omega
theorem heapOk_iff {h : Heap} : heapOk h = true ↔ memoryOk h.mem = true ∧ spansOk h.live = true ∧ spansOk h.waits = true ∧ ∀ c, c < 24 → cnt h.live c + cnt h.waits c ≤ 1 ∧ h.mem.gone.getD c false = decide (0 < cnt h.waits c) := by
  simp only [heapOk, Bool.and_eq_true, allR_iff, decide_eq_true_eq, beq_iff_eq, and_assoc]
theorem heapOk_len {h : Heap} (k : heapOk h = true) : LHeap h 24 := by
  obtain ⟨h1, h2, h3, h4⟩ := heapOk_iff.1 k
  obtain ⟨m1, m2, m3⟩ := memoryOk_iff.1 h1
  exact ⟨⟨by omega, by omega⟩, spansOk_len h2, spansOk_len h3⟩
def InSpan (l : List Span) (w : Word) : Prop := w.is = true → w.key.base < w.key.top → ∃ s ∈ l, s.at_ ≤ w.key.base ∧ w.key.top ≤ s.at_ + s.len
theorem InSpan.mono {l l' : List Span} {w : Word} (h : InSpan l w) (hl : ∀ s ∈ l, s ∈ l') : InSpan l' w := fun h1 h2 => by
  obtain ⟨s, hs, h3⟩ := h h1 h2; exact ⟨s, hl s hs, h3⟩
structure Good (h : Heap) (rs : List Word) : Prop where
  ok : heapOk h = true
  regs : ∀ w ∈ rs, wordOk w = true ∧ InSpan (h.live ++ h.waits) w
  mem : ∀ w ∈ h.mem.words, InSpan (h.live ++ h.waits) w
theorem good_new : Good heapNew [] := ⟨by decide +kernel, (fun w hw => by cases hw), (fun w hw => by
  have : w = ⟨0, false, ⟨0, 0, 0, 0⟩⟩ := List.eq_of_mem_replicate hw
  rw [this]; intro h; cases h)⟩
theorem Good.len {h : Heap} {rs : List Word} (g : Good h rs) : LHeap h 24 := heapOk_len g.ok
theorem free_new {l : List Span} {n a : Nat} (hf : freeAt l n a = true) (hn : 1 ≤ n) : ∀ s ∈ l, spanOk s = true → s.at_ ≠ (a : Int) := fun s hs ho e => by
  have h0 := freeAt_t.1 hf a (Nat.le_refl _) (by omega)
  have : inS s a = true := by
    rw [inS_nat ho]
    simp only [spanOk, Bool.and_eq_true, inR_t] at ho
    simp only [Bool.and_eq_true, decide_eq_true_eq]; omega
  have hp : 0 < cnt l a := List.countP_pos_iff.2 ⟨s, hs, this⟩
  omega
theorem inS_new {n a c : Nat} (hn : 1 ≤ n) (ha : a + n ≤ 24) : inS ⟨(a : Int), (n : Int)⟩ c = (decide (a ≤ c) && decide (c < a + n)) := by
  rw [inS_nat (s := ⟨(a : Int), (n : Int)⟩) (by simp only [spanOk, Bool.and_eq_true, inR_t]; omega)]; rfl
theorem grant_heap {h : Heap} {n a : Nat} (k : heapOk h = true) (hn : 1 ≤ n) (ha : a + n ≤ 24) (hf : freeAt (h.live ++ h.waits) n a = true) : heapOk ⟨h.mem, putS h.live ⟨(a : Int), (n : Int)⟩, h.waits⟩ = true := by
  obtain ⟨h1, h2, h3, h4⟩ := heapOk_iff.1 k
  obtain ⟨s1, s2⟩ := spansOk_ord.1 h2
  have hne := free_new hf hn
  refine heapOk_iff.2 ⟨h1, spansOk_ord.2 ⟨fun s hs => ?_, putS_ord s2 fun s hs => hne s (List.mem_append_left _ hs) (s1 s hs)⟩, h3, fun c hc => ⟨?_, (h4 c hc).2⟩⟩
  · rcases putS_mem.1 hs with rfl | hs
    · simp only [spanOk, Bool.and_eq_true, inR_t]; omega
    · exact s1 s hs
  · show cnt (putS h.live ⟨(a : Int), (n : Int)⟩) c + cnt h.waits c ≤ 1
    rw [putS_cnt, inS_new hn ha]
    have := (h4 c hc).1
    by_cases e : a ≤ c ∧ c < a + n
    · have h0 := freeAt_t.1 hf c e.1 e.2
      rw [cnt_app] at h0
      split <;> omega
    · have : (decide (a ≤ c) && decide (c < a + n)) = false := by rw [Bool.and_eq_false_iff]; by_cases h : a ≤ c <;> simp <;> omega
      rw [this]; simp; omega
theorem grantK_ok {a n : Nat} (ha : a + n ≤ 24) : grantK (a : Int) (n : Int) = ⟨0, true, ⟨(a : Int), (a : Int) + (n : Int), 27, 0⟩⟩ ∧ wordOk (grantK (a : Int) (n : Int)) = true := by
  have hw := wide_low ⟨a, by omega⟩ ⟨a + n, by omega⟩ (by show a ≤ a + n; omega)
  dsimp only at hw
  have e : ((a + n : Nat) : Int) = (a : Int) + (n : Int) := rfl
  rw [e] at hw
  have hk : keyOk ⟨(a : Int), (a : Int) + (n : Int), 27, 0⟩ = true := by
    refine keyOk_mk ?_ (by dsimp only; omega) (by dsimp only; omega)
    show exact_ (a : Int) ((a : Int) + (n : Int)) = true
    unfold exact_
    rw [hw]
    simp [boundsOk]; omega
  have hg : grantK (a : Int) (n : Int) = ⟨0, true, ⟨(a : Int), (a : Int) + (n : Int), 27, 0⟩⟩ := by
    unfold grantK keyWord
    rw [hk]; rfl
  rw [hg]
  exact ⟨rfl, wordOk_mk ⟨by omega, by omega⟩ hk⟩
theorem grant_cases {h : Heap} {n : Int} : grant h n = (h, zW, false) ∨ ∃ a N : Nat, n = (N : Int) ∧ 1 ≤ N ∧ a + N ≤ 24 ∧ heapOk h = true ∧ freeAt (h.live ++ h.waits) N a = true ∧ grant h n = (⟨h.mem, putS h.live ⟨(a : Int), (N : Int)⟩, h.waits⟩, grantK (a : Int) (N : Int), true) := by
  cases hk : (heapOk h && inR n 1 24) with
  | false => exact .inl (grant_no hk)
  | true =>
    have hk2 := hk
    rw [Bool.and_eq_true] at hk2
    have hn := inR_t.1 hk2.2
    obtain ⟨N, rfl⟩ := Int.eq_ofNat_of_zero_le (show 0 ≤ n by omega)
    cases hf : firstAt (h.live ++ h.waits) (N : Int).toNat with
    | none => exact .inl (grant_none hk hf)
    | some a =>
      obtain ⟨f1, f2⟩ := first_out (n := N) (by omega) hf
      exact .inr ⟨a, N, rfl, by omega, f1, hk2.1, f2, grant_some hk hf⟩
theorem good_grant {h : Heap} {rs : List Word} (g : Good h rs) (n : Int) : Good (grant h n).1 rs ∧ ((grant h n).2.2 = true → wordOk (grant h n).2.1 = true ∧ InSpan ((grant h n).1.live ++ (grant h n).1.waits) (grant h n).2.1) := by
  rcases grant_cases (h := h) (n := n) with e | ⟨a, N, rfl, hN, ha, hk, hf, e⟩
  · rw [e]; exact ⟨g, fun h => by cases h⟩
  · rw [e]
    have hm : ∀ s ∈ h.live ++ h.waits, s ∈ putS h.live ⟨(a : Int), (N : Int)⟩ ++ h.waits := fun s hs => by
      rcases List.mem_append.1 hs with q | q
      · exact List.mem_append_left _ (putS_mem.2 (.inr q))
      · exact List.mem_append_right _ q
    obtain ⟨k1, k2⟩ := grantK_ok ha
    refine ⟨⟨grant_heap hk hN ha hf, fun w hw => ⟨(g.regs w hw).1, (g.regs w hw).2.mono hm⟩, fun w hw => (g.mem w hw).mono hm⟩, fun _ => ⟨k2, fun _ _ => ?_⟩⟩
    dsimp only
    rw [k1]
    exact ⟨⟨(a : Int), (N : Int)⟩, List.mem_append_left _ (putS_mem.2 (.inl rfl)), Int.le_refl _, Int.le_refl _⟩
theorem cnt_erase {l : List Span} {i : Nat} (h : i < l.length) (c : Nat) : cnt l c = cnt (l.take i ++ l.drop (i + 1)) c + (if inS (l.getD i (FT.zero .span)) c then 1 else 0) := by
  have e : cnt l c = cnt (l.take i) c + cnt (l.drop i) c := by rw [← cnt_app, List.take_append_drop]
  rw [e, drop_getD (FT.zero .span) h, cnt_cons, cnt_app]; omega
theorem give_cases {h : Heap} {a : Int} : giveBack h a = (h, false) ∨ ∃ i, heapOk h = true ∧ i < h.live.length ∧ (h.live.getD i (FT.zero .span)).at_ = a ∧
    giveBack h a = (⟨⟨h.mem.words, setRun (h.live.getD i (FT.zero .span)).len.toNat (h.live.getD i (FT.zero .span)).at_.toNat h.mem.gone⟩, h.live.take i ++ h.live.drop (i + 1), putS h.waits (h.live.getD i (FT.zero .span))⟩, true) := by
  cases hk : heapOk h with
  | false => exact .inl (give_no hk)
  | true =>
    cases hf : idxAt h.live a with
    | none => left; unfold giveBack; rw [hk, hf]; rfl
    | some i =>
      right
      have hf2 := hf
      unfold idxAt at hf2
      rw [List.find?_range_eq_some] at hf2
      exact ⟨i, rfl, List.mem_range.1 hf2.2.1, of_decide_eq_true hf2.1, by unfold giveBack; rw [hk, hf]; rfl⟩
theorem give_mem {h : Heap} {i : Nat} (hi : i < h.live.length) : ∀ s, s ∈ h.live ++ h.waits ↔ s ∈ (h.live.take i ++ h.live.drop (i + 1)) ++ putS h.waits (h.live.getD i (FT.zero .span)) := fun s => by
  have e : s ∈ h.live ↔ s ∈ h.live.take i ∨ s = h.live.getD i (FT.zero .span) ∨ s ∈ h.live.drop (i + 1) := by
    conv => lhs; rw [← List.take_append_drop i h.live, drop_getD (FT.zero .span) hi]
    rw [List.mem_append, List.mem_cons]
  rw [List.mem_append, e, List.mem_append, List.mem_append, putS_mem]
  constructor
  · rintro ((h | h | h) | h) <;> simp [h]
  · rintro ((h | h) | h | h) <;> simp [h]
theorem give_heap {h : Heap} {i : Nat} (k : heapOk h = true) (hi : i < h.live.length) :
    heapOk ⟨⟨h.mem.words, setRun (h.live.getD i (FT.zero .span)).len.toNat (h.live.getD i (FT.zero .span)).at_.toNat h.mem.gone⟩, h.live.take i ++ h.live.drop (i + 1), putS h.waits (h.live.getD i (FT.zero .span))⟩ = true := by
  obtain ⟨h1, h2, h3, h4⟩ := heapOk_iff.1 k
  obtain ⟨m1, m2, m3⟩ := memoryOk_iff.1 h1
  obtain ⟨s1, s2⟩ := spansOk_ord.1 h2
  obtain ⟨q1, q2⟩ := spansOk_ord.1 h3
  have hs := s1 _ (spanD_mem hi)
  have hin := inS_nat hs
  have hct := cnt_erase hi
  have hs' := hs
  simp only [spanOk, Bool.and_eq_true, inR_t] at hs'
  refine heapOk_iff.2 ⟨memoryOk_iff.2 ⟨m1, by show (setRun _ _ _).length = 24; rw [setRun_len]; exact m2, m3⟩, spansOk_ord.2 ⟨fun s hm => ?_, ?_⟩, spansOk_ord.2 ⟨fun s hm => ?_, putS_ord q2 fun s hm he => ?_⟩, fun c hc => ⟨?_, ?_⟩⟩
  · rcases List.mem_append.1 hm with q | q
    · exact s1 s (List.mem_of_mem_take q)
    · exact s1 s (List.mem_of_mem_drop q)
  · have hl : Ord (h.live.take i ++ h.live.drop i) := by rw [List.take_append_drop]; exact s2
    obtain ⟨a1, a2, a3⟩ := List.pairwise_append.1 hl
    rw [drop_getD (FT.zero .span) hi] at a2 a3
    exact List.pairwise_append.2 ⟨a1, (List.pairwise_cons.1 a2).2, fun a ha b hb => a3 a ha b (List.mem_cons_of_mem _ hb)⟩
  · rcases putS_mem.1 hm with rfl | hm
    · exact hs
    · exact q1 s hm
  · -- two spans that begin at one cell
    have hc24 : (h.live.getD i (FT.zero .span)).at_.toNat < 24 := by omega
    have e1 : inS (h.live.getD i (FT.zero .span)) (h.live.getD i (FT.zero .span)).at_.toNat = true := by rw [hin]; simp only [Bool.and_eq_true, decide_eq_true_eq]; omega
    have hq := q1 s hm
    have e2 : inS s (h.live.getD i (FT.zero .span)).at_.toNat = true := by
      rw [inS_nat hq]
      simp only [spanOk, Bool.and_eq_true, inR_t] at hq
      simp only [Bool.and_eq_true, decide_eq_true_eq]; omega
    have c1 : 0 < cnt h.live (h.live.getD i (FT.zero .span)).at_.toNat := List.countP_pos_iff.2 ⟨_, spanD_mem hi, e1⟩
    have c2 : 0 < cnt h.waits (h.live.getD i (FT.zero .span)).at_.toNat := List.countP_pos_iff.2 ⟨_, hm, e2⟩
    have := (h4 _ hc24).1
    omega
  · show cnt (h.live.take i ++ h.live.drop (i + 1)) c + cnt (putS h.waits _) c ≤ 1
    rw [putS_cnt]
    have := (h4 c hc).1
    have := hct c
    omega
  · show (setRun _ _ h.mem.gone).getD c false = decide (0 < cnt (putS h.waits _) c)
    rw [setRun_get _ _ _ (by omega), (h4 c hc).2, putS_cnt, hin c]
    by_cases e : (decide ((h.live.getD i (FT.zero .span)).at_.toNat ≤ c) && decide (c < (h.live.getD i (FT.zero .span)).at_.toNat + (h.live.getD i (FT.zero .span)).len.toNat)) = true
    · rw [e]; simp
    · rw [Bool.not_eq_true] at e; rw [e]; simp
theorem good_give {h : Heap} {rs : List Word} (g : Good h rs) (a : Int) : Good (giveBack h a).1 rs := by
  rcases give_cases (h := h) (a := a) with e | ⟨i, hk, hi, he, e⟩
  · rw [e]; exact g
  · rw [e]
    have hm := fun s hs => (give_mem hi s).1 hs
    exact ⟨give_heap hk hi, fun w hw => ⟨(g.regs w hw).1, (g.regs w hw).2.mono hm⟩, fun w hw => (g.mem w hw).mono hm⟩
theorem good_narrow {h : Heap} {rs : List Word} (g : Good h rs) {w : Word} (hw : w ∈ rs) (n k : Int) : wordOk (narrowW ⟨n, w.is, w.key⟩ k) = true ∧ InSpan (h.live ++ h.waits) (narrowW ⟨n, w.is, w.key⟩ k) := by
  have hf := narrowW_fine ⟨n, w.is, w.key⟩ k
  refine ⟨hf.1, fun h1 h2 => ?_⟩
  obtain ⟨k1, k2⟩ := hf.2 h1
  have k1 : w.is = true := k1
  have k2 : coversK w.key (narrowW ⟨n, w.is, w.key⟩ k).key = true := k2
  obtain ⟨c1, c2, c3, c4, c5⟩ := coversK_iff.1 k2
  obtain ⟨s, hs, h3, h4⟩ := (g.regs w hw).2 k1 (by omega)
  exact ⟨s, hs, by omega, by omega⟩
theorem good_write {h : Heap} {rs : List Word} (g : Good h rs) (y : Word) (n : Int) {w : Word} (hw : w ∈ rs) : Good ⟨(writeM h.mem y n w).1, h.live, h.waits⟩ rs := by
  obtain ⟨h1, h2, h3, h4⟩ := heapOk_iff.1 g.ok
  by_cases hc : writeC h.mem y n w = 0
  · rw [writeM_0 h1 hc]
    obtain ⟨m1, m2, m3⟩ := memoryOk_iff.1 h1
    refine ⟨heapOk_iff.2 ⟨memoryOk_iff.2 ⟨by show (h.mem.words.set _ _).length = 24; rw [List.length_set]; exact m1, m2, fun v hv => ?_⟩, h2, h3, h4⟩, g.regs, fun v hv => ?_⟩
    · rcases mem_set hv with q | q
      · exact m3 v q
      · rw [q]; exact (g.regs w hw).1
    · rcases mem_set hv with q | q
      · exact g.mem v q
      · rw [q]; exact (g.regs w hw).2
  · rw [writeM_t h1 hc]; exact g
theorem filter_span {h : Heap} (k : heapOk h = true) {w : Word} (hw : InSpan (h.live ++ h.waits) w) : InSpan h.live (filterW h.mem.gone w) := by
  intro h1 h2
  by_cases hg : gonB h.mem.gone w = true
  · unfold filterW at h1; rw [if_pos hg] at h1; cases h1
  · have e : filterW h.mem.gone w = w := by unfold filterW; rw [if_neg hg]
    rw [e] at h1 h2 ⊢
    obtain ⟨s, hs, h3, h4⟩ := hw h1 h2
    rcases List.mem_append.1 hs with q | q
    · exact ⟨s, q, h3, h4⟩
    · exfalso
      obtain ⟨k1, k2, k3, k4⟩ := heapOk_iff.1 k
      obtain ⟨m1, m2, m3⟩ := memoryOk_iff.1 k1
      have ho := (spansOk_ord.1 k3).1 s q
      have ho' := ho
      simp only [spanOk, Bool.and_eq_true, inR_t] at ho'
      have hin : inS s w.key.base.toNat = true := by rw [inS_nat ho]; simp only [Bool.and_eq_true, decide_eq_true_eq]; omega
      have hp : 0 < cnt h.waits w.key.base.toNat := List.countP_pos_iff.2 ⟨s, q, hin⟩
      have hgo := (k4 w.key.base.toNat (by omega)).2
      rw [decide_eq_true hp] at hgo
      apply hg
      unfold gonB
      rw [h1, inR_t.2 ⟨by omega, by omega⟩, hgo]; rfl
theorem clean_mem {g : List Bool} {ws : List Word} {v : Word} (hv : v ∈ cleanW g ws) : v = ⟨0, false, ⟨0, 0, 0, 0⟩⟩ ∨ ∃ c, c < 24 ∧ v = filterW g (ws.getD c (FT.zero .word)) := by
  unfold cleanW at hv
  obtain ⟨c, hc, rfl⟩ := List.mem_map.1 hv
  have hc := List.mem_range.1 hc
  split
  · exact .inl rfl
  · exact .inr ⟨c, hc, rfl⟩
theorem clean_heap {h : Heap} {rs : List Word} (k : heapOk h = true) : heapOk (clean h rs).1 = true ∧ (clean h rs).1.live = h.live ∧ (clean h rs).1.waits = [] := by
  obtain ⟨k1, k2, k3, k4⟩ := heapOk_iff.1 k
  obtain ⟨m1, m2, m3⟩ := memoryOk_iff.1 k1
  rw [clean_yes k]
  refine ⟨heapOk_iff.2 ⟨memoryOk_iff.2 ⟨cleanW_len _ _, by simp, fun v hv => ?_⟩, k2, (show spansOk [] = true by decide), fun c hc => ⟨?_, ?_⟩⟩, rfl, rfl⟩
  · rcases clean_mem hv with rfl | ⟨c, hc, rfl⟩
    · decide
    · exact (filterW_fine (getD_ok m3 c)).1
  · have := (k4 c hc).1
    show cnt h.live c + cnt [] c ≤ 1
    simp [cnt] at this ⊢; omega
  · show (List.replicate 24 false).getD c false = decide (0 < cnt [] c)
    have e : (List.replicate 24 false).getD c false = false := by
      simp only [List.getD_eq_getElem?_getD, List.getElem?_replicate]; split <;> rfl
    rw [e]; rfl
theorem clean_live {h : Heap} {rs : List Word} (g : Good h rs) : (∀ w ∈ (clean h rs).2, wordOk w = true ∧ InSpan h.live w) ∧ ∀ w ∈ (clean h rs).1.mem.words, InSpan h.live w := by
  obtain ⟨k1, k2, k3, k4⟩ := heapOk_iff.1 g.ok
  obtain ⟨m1, m2, m3⟩ := memoryOk_iff.1 k1
  rw [clean_yes g.ok]
  refine ⟨fun w hw => ?_, fun w hw => ?_⟩
  · obtain ⟨v, hv, rfl⟩ := List.mem_map.1 hw
    exact ⟨(filterW_fine (g.regs v hv).1).1, filter_span g.ok (g.regs v hv).2⟩
  · rcases clean_mem hw with rfl | ⟨c, hc, rfl⟩
    · intro h1; cases h1
    · exact filter_span g.ok (g.mem _ (getD_mem (by omega)))
theorem good_app {h : Heap} {rs : List Word} (g : Good h rs) {w : Word} (hw : wordOk w = true ∧ InSpan (h.live ++ h.waits) w) : Good h (rs ++ [w]) :=
  ⟨g.ok, fun v hv => by
    rcases List.mem_append.1 hv with q | q
    · exact g.regs v q
    · rw [List.mem_singleton.1 q]; exact hw, g.mem⟩
theorem clean_len2 (h : Heap) (rs : List Word) : (clean h rs).2.length = rs.length := by
  unfold clean; split
  · exact List.length_map ..
  · rfl
theorem good_clean {h : Heap} {rs : List Word} (g : Good h rs) : Good (clean h rs).1 (clean h rs).2 := by
  obtain ⟨c1, c2, c3⟩ := clean_heap (rs := rs) g.ok
  obtain ⟨d1, d2⟩ := clean_live g
  have e : (clean h rs).1.live ++ (clean h rs).1.waits = h.live := by rw [c2, c3, List.append_nil]
  refine ⟨c1, ?_, ?_⟩
  · rw [e]; exact d1
  · rw [e]; exact d2

def lb_spec_l23DrawRight_0 : PC := .seq (.seq (.reg [.s (.mv 14 (.t 6)), .s (.mv 15 (.t 0)), .s (.call (some 16) 39 [(.t 15), (.k (.v (.c (.int .i64 14))))]), .s (.bin 17 .lss (.t 14) (.t 16))]) (.cond (.t 17) (.skip) (.exit 0))) (.seq (.blk 1 (.seq (.reg [.s (.mv 20 (.t 0)), .s (.call (some 21) 39 [(.t 20), (.k (.v (.c (.int .i64 6))))])]) (.blk 2 (.seq (.seq (.reg [.s (.bin 29 .eql (.t 21) (.k (.v (.c (.int .i64 0))))), .s (.mv 28 (.t 29))]) (.cond (.t 28) (.skip) (.reg [.s (.bin 30 .eql (.t 21) (.k (.v (.c (.int .i64 1))))), .s (.mv 28 (.t 30))]))) (.cond (.t 28) (.seq (.rgd [0] [.s (.load 32 true 4 (.t 4)), .s (.mv 33 (.t 0)), .s (.call (some 34) 39 [(.t 33), (.k (.v (.c (.int .i64 6))))]), .s (.bin 35 .add (.k (.v (.c (.int .i64 1)))) (.t 34)), .s (.call (some 36) 7 [(.t 32), (.t 35)]), .s (.mv 31 (.t 36)), .s (.ext 37 (.t 31) 0), .s (.ext 38 (.t 31) 1), .s (.ext 39 (.t 31) 2), .s (.alloc 7 [.nils .word, .nils .bool, .nils .span, .nils .span]), .s (.alloc 8 [.int .i64 0, .ff, .int .i64 0, .int .i64 0, .int .i64 0, .int .i64 0]), .s (.store 4 (.t 7) (.t 37)), .s (.store 6 (.t 8) (.t 38)), .s (.mv 9 (.t 39))] (.fin (.tk 0 (.tk 1 (.any 2 false (.tk 3 (.any 4 false (.tk 5 (.tk 6 (.tk 7 (.tk 8 (.any 9 false (.one 10 false (.one 11 true (.one 12 true (.tk 13 (.done (some [0, 2, 4, 5, 6, 7, 8, 9])))))) (.any 10 false (.one 9 false (.one 11 true (.one 12 true (.tk 13 (.done (some [0, 2, 4, 5, 6, 7, 8, 9])))))) (.nil))))))) (.any 9 false (.any 4 false (.tk 5 (.tk 6 (.tk 7 (.tk 8 (.one 10 false (.one 11 true (.one 12 true (.tk 13 (.done (some [0, 2, 4, 5, 6, 7, 8, 9])))))))))) (.any 10 false (.one 4 true (.tk 5 (.tk 6 (.tk 7 (.tk 8 (.one 11 true (.one 12 true (.tk 13 (.done (some [0, 2, 4, 5, 6, 7, 8, 9])))))))))) (.nil))) (.any 10 false (.any 4 false (.tk 5 (.tk 6 (.tk 7 (.tk 8 (.one 9 false (.one 11 true (.one 12 true (.tk 13 (.done (some [0, 2, 4, 5, 6, 7, 8, 9])))))))))) (.any 9 false (.one 4 true (.tk 5 (.tk 6 (.tk 7 (.tk 8 (.one 11 true (.one 12 true (.tk 13 (.done (some [0, 2, 4, 5, 6, 7, 8, 9])))))))))) (.nil))) (.nil))))) (.any 9 false (.any 2 false (.tk 3 (.any 4 false (.tk 5 (.tk 6 (.tk 7 (.tk 8 (.one 10 false (.one 11 true (.one 12 true (.tk 13 (.done (some [0, 2, 4, 5, 6, 7, 8, 9])))))))))) (.any 10 false (.one 4 true (.tk 5 (.tk 6 (.tk 7 (.tk 8 (.one 11 true (.one 12 true (.tk 13 (.done (some [0, 2, 4, 5, 6, 7, 8, 9])))))))))) (.nil)))) (.any 10 false (.one 2 false (.tk 3 (.one 4 true (.tk 5 (.tk 6 (.tk 7 (.tk 8 (.one 11 true (.one 12 true (.tk 13 (.done (some [0, 2, 4, 5, 6, 7, 8, 9])))))))))))) (.nil))) (.any 10 false (.any 2 false (.tk 3 (.any 4 false (.tk 5 (.tk 6 (.tk 7 (.tk 8 (.one 9 false (.one 11 true (.one 12 true (.tk 13 (.done (some [0, 2, 4, 5, 6, 7, 8, 9])))))))))) (.any 9 false (.one 4 true (.tk 5 (.tk 6 (.tk 7 (.tk 8 (.one 11 true (.one 12 true (.tk 13 (.done (some [0, 2, 4, 5, 6, 7, 8, 9])))))))))) (.nil)))) (.any 9 false (.one 2 false (.tk 3 (.one 4 true (.tk 5 (.tk 6 (.tk 7 (.tk 8 (.one 11 true (.one 12 true (.tk 13 (.done (some [0, 2, 4, 5, 6, 7, 8, 9])))))))))))) (.nil))) (.nil)))))))) (.seq (.reg [.s (.load 40 true 4 (.t 7)), .s (.store 4 (.t 4) (.t 40))]) (.seq (.reg [.s (.mv 41 (.t 9))]) (.cond (.t 41) (.reg [.s (.mv 42 (.t 5)), .s (.load 43 true 6 (.t 8)), .s (.bs 44 .word [(.t 43)]), .s (.app 45 .word (.t 42) (.t 44)), .s (.mv 5 (.t 45))]) (.skip))))) (.seq (.reg [.s (.bin 47 .eql (.t 21) (.k (.v (.c (.int .i64 2))))), .s (.mv 46 (.t 47))]) (.cond (.t 46) (.seq (.reg [.s (.fa 48 (.t 4) 2), .s (.load 49 false 1 (.t 48)), .s (.len 50 false (.t 49)), .s (.bin 51 .gtr (.t 50) (.k (.v (.c (.int .i64 0)))))]) (.cond (.t 51) (.rgd [0] [.s (.load 53 true 4 (.t 4)), .s (.fa 54 (.t 4) 2), .s (.load 55 false 1 (.t 54)), .s (.mv 56 (.t 0)), .s (.fa 57 (.t 4) 2), .s (.load 58 false 1 (.t 57)), .s (.len 59 false (.t 58)), .s (.call (some 60) 39 [(.t 56), (.t 59)]), .s (.ia 61 .span (.t 55) (.t 60)), .s (.fa 62 (.t 61) 0), .s (.load 63 false 1 (.t 62)), .s (.call (some 64) 10 [(.t 53), (.t 63)]), .s (.mv 52 (.t 64)), .s (.ext 65 (.t 52) 0), .s (.ext 66 (.t 52) 1), .s (.store 4 (.t 4) (.t 65))] (.tk 0 (.tk 1 (.tk 2 (.tk 3 (.tk 4 (.tk 5 (.tk 6 (.one 7 false (.tk 8 (.tk 9 (.one 10 false (.one 11 true (.tk 12 (.tk 13 (.tk 14 (.one 15 true (.done none)))))))))))))))))) (.skip))) (.seq (.reg [.s (.bin 68 .eql (.t 21) (.k (.v (.c (.int .i64 3))))), .s (.mv 67 (.t 68))]) (.cond (.t 67) (.seq (.reg [.s (.mv 69 (.t 5)), .s (.len 70 false (.t 69)), .s (.bin 71 .gtr (.t 70) (.k (.v (.c (.int .i64 0)))))]) (.cond (.t 71) (.seq (.reg [.s (.mv 72 (.t 5)), .s (.mv 73 (.t 0)), .s (.mv 74 (.t 5)), .s (.len 75 false (.t 74)), .s (.call (some 76) 39 [(.t 73), (.t 75)]), .s (.ia 77 .word (.t 72) (.t 76)), .s (.load 78 true 6 (.t 77)), .s (.alloc 10 [.int .i64 0, .ff, .int .i64 0, .int .i64 0, .int .i64 0, .int .i64 0]), .s (.store 6 (.t 10) (.t 78))]) (.seq (.reg [.s (.fa 79 (.t 10) 2), .s (.fa 80 (.t 79) 0), .s (.load 81 false 1 (.t 80)), .s (.fa 82 (.t 10) 0), .s (.store 1 (.t 82) (.t 81))]) (.rgd [0] [.s (.mv 83 (.t 5)), .s (.load 84 true 6 (.t 10)), .s (.mv 85 (.t 0)), .s (.call (some 86) 39 [(.t 85), (.k (.v (.c (.int .i64 3))))]), .s (.call (some 87) 81 [(.t 84), (.t 86)]), .s (.bs 88 .word [(.t 87)]), .s (.app 89 .word (.t 83) (.t 88)), .s (.mv 5 (.t 89))] (.tk 0 (.tk 1 (.tk 2 (.one 3 false (.one 4 true (.one 5 true (.one 6 true (.tk 7 (.done none)))))))))))) (.skip))) (.seq (.reg [.s (.bin 91 .eql (.t 21) (.k (.v (.c (.int .i64 4))))), .s (.mv 90 (.t 91))]) (.cond (.t 90) (.seq (.reg [.s (.mv 92 (.t 5)), .s (.len 93 false (.t 92)), .s (.bin 94 .gtr (.t 93) (.k (.v (.c (.int .i64 1)))))]) (.cond (.t 94) (.seq (.reg [.s (.mv 95 (.t 5)), .s (.mv 96 (.t 0)), .s (.mv 97 (.t 5)), .s (.len 98 false (.t 97)), .s (.call (some 99) 39 [(.t 96), (.t 98)]), .s (.ia 100 .word (.t 95) (.t 99)), .s (.load 101 true 6 (.t 100)), .s (.alloc 11 [.int .i64 0, .ff, .int .i64 0, .int .i64 0, .int .i64 0, .int .i64 0]), .s (.store 6 (.t 11) (.t 101))]) (.rgd [0] [.s (.fa 103 (.t 4) 0), .s (.load 104 true 2 (.t 103)), .s (.load 105 true 6 (.t 11)), .s (.fa 106 (.t 11) 2), .s (.fa 107 (.t 106) 0), .s (.load 108 false 1 (.t 107)), .s (.mv 109 (.t 5)), .s (.mv 110 (.t 0)), .s (.mv 111 (.t 5)), .s (.len 112 false (.t 111)), .s (.call (some 113) 39 [(.t 110), (.t 112)]), .s (.ia 114 .word (.t 109) (.t 113)), .s (.load 115 true 6 (.t 114)), .s (.call (some 116) 82 [(.t 104), (.t 105), (.t 108), (.t 115)]), .s (.mv 102 (.t 116)), .s (.ext 117 (.t 102) 0), .s (.ext 118 (.t 102) 1), .s (.fa 119 (.t 4) 0), .s (.store 2 (.t 119) (.t 117))] (.tk 0 (.tk 1 (.tk 2 (.tk 3 (.tk 4 (.tk 5 (.tk 6 (.tk 7 (.tk 8 (.tk 9 (.one 10 false (.tk 11 (.one 12 false (.one 13 true (.tk 14 (.tk 15 (.tk 16 (.tk 17 (.one 18 true (.done none)))))))))))))))))))))) (.skip))) (.reg [.s (.load 23 true 4 (.t 4)), .s (.mv 24 (.t 5)), .s (.call (some 25) 13 [(.t 23), (.t 24)]), .s (.mv 22 (.t 25)), .s (.ext 26 (.t 22) 0), .s (.ext 27 (.t 22) 1), .s (.store 4 (.t 4) (.t 26)), .s (.mv 5 (.t 27))])))))))))))) (.reg [.s (.mv 18 (.t 6)), .s (.bin 19 .add (.t 18) (.k (.v (.c (.int .i64 1))))), .s (.mv 6 (.t 19))]))
def pf_spec_l23DrawRight : PF := ⟨[.c 2 true 4, .t 3], .seq (.reg [.s (.alloc 2 [.nils .word, .nils .bool, .nils .span, .nils .span]), .s (.mv 3 (.k (.v (.c (.nils .word)))))]) (.seq (.reg [.s (.call (some 12) 80 []), .s (.alloc 4 [.nils .word, .nils .bool, .nils .span, .nils .span]), .s (.store 4 (.t 4) (.t 12))]) (.seq (.reg [.s (.bs 13 .word []), .s (.mv 5 (.t 13))]) (.seq (.seq (.reg [.s (.mv 6 (.k (.v (.c (.int .i64 0)))))]) (.blk 0 (.loop [0, 2, 4, 5, 6] lb_spec_l23DrawRight_0))) (.seq (.reg [.s (.load 120 true 4 (.t 4)), .s (.mv 121 (.t 5)), .s (.store 4 (.t 2) (.t 120)), .s (.mv 3 (.t 121))]) (.ret)))))⟩
def c_spec_l23DrawRight : Fun := ⟨57, [true], fun ts K => as1 ts fun t0 => arQ pCurT t0 fun c => chk (CurOk c) (∀ (h : Heap) (rs : List Word) (d : Cur), ((Good h rs ∧ rs.length ≤ 14) ∧ CurOk d) → K (.tup [.g (h.tc true []), .c (tl true .word rs)]) ([curOut d]))⟩
set_option maxHeartbeats 4000000 in
theorem run_spec_l23DrawRight (FU : Nat) (c : Cur) (hpre : CurOk c) {K : Tree → List Tree → Prop} (hK : ∀ (h : Heap) (rs : List Word) (d : Cur), ((Good h rs ∧ rs.length ≤ 14) ∧ CurOk d) → K (.tup [.g (h.tc true []), .c (tl true .word rs)]) ([curOut d])) : runK [c_spec_Grant, c_spec_GiveBack, c_spec_Clean, c_spec_l1Below, c_spec_HeapNew, c_spec_Narrow, c_spec_Write] (100 + FU) [true] pf_spec_l23DrawRight [.v (.ptr true 0 (c.tc []))] K := by
  conv => whnf
  repeat' (first | (refine sel_i (fun h => ?_) (fun h => ?_) <;> conv => whnf) | (refine chk_c ?_ ?_ <;> conv => whnf) | (refine And.intro ?_ rfl) | (refine And.intro ?_ ?_ <;> conv => whnf) | (intro x y z d hd; (try have g1 := And.left hd); (try have g2 := And.right hd); (try have g3 := And.left (And.right hd)); (try have g4 := And.right (And.right hd)); conv => whnf) | (intro x y d hd; (try have g1 := And.left hd); (try have g2 := And.right hd); (try have g3 := And.left (And.right hd)); (try have g4 := And.right (And.right hd)); conv => whnf) | (intro x d hd; (try have g1 := And.left hd); (try have g2 := And.right hd); (try have g3 := And.left (And.right hd)); (try have g4 := And.right (And.right hd)); conv => whnf) | (intro d hd; (try have g1 := And.left hd); (try have g2 := And.right hd); (try have g3 := And.left (And.right hd)); (try have g4 := And.right (And.right hd)); conv => whnf))
  all_goals (try simp only [etaMemory, etaHeap] at *)
  all_goals first
    | (refine ⟨?_⟩; exact hd)
    | (refine ⟨?_⟩; exact hpre)
    | skip
  refine loop (α := Nat × Cur × Heap × List Word × Bool) (fun q => ⟨[(0, .v (.c (.ptr 0 0))), (2, .v (.c (.ptr 2 0))), (4, .v (.c (.ptr 3 0))), (5, .v (.c (.sl q.2.2.2.2 .word 8))), (6, .v (.c (.int .i64 (q.1 : Int))))],
        [(8, some (.flat true .word none q.2.2.2.1)), (7, some (.flat true .span none q.2.2.1.waits)), (6, some (.flat true .span none q.2.2.1.live)), (5, some (.flat true .bool none q.2.2.1.mem.gone)), (4, some (.flat true .word none q.2.2.1.mem.words)), (3, some (.box true [.sl false .word 4, .sl false .bool 5, .sl false .span 6, .sl false .span 7])), (2, some (.box true [.nils .word, .nils .bool, .nils .span, .nils .span])),
          (1, some (.flat false (.int .u8) none q.2.1.b)), (0, some (.box true (cuC q.2.1 1)))], nums.tail.tail.tail.tail.tail.tail.tail.tail.tail, [.v (.c (.ptr 0 0))], false, []⟩)
      (fun q => q.1 ≤ 14 ∧ CurOk q.2.1 ∧ Good q.2.2.1 q.2.2.2.1 ∧ q.2.2.2.1.length ≤ q.1) (fun q => 14 - q.1) (fun q R hI hR => ?_) (0, c, heapNew, [], true) _ ⟨Nat.zero_le _, hpre, good_new, Nat.le_refl _⟩ (by show 14 - 0 < 100 + FU; omega)
  obtain ⟨i, e, H, rs, nn⟩ := q
  obtain ⟨hi, he, hg, hl⟩ := hI
  dsimp only at hi he hg hl ⊢
  have hlen := hg.len
  clear hpre
  conv => whnf
  repeat' (first | (refine sel_i (fun h => ?_) (fun h => ?_) <;> conv => whnf) | (refine chk_c ?_ ?_ <;> conv => whnf) | (refine And.intro ?_ rfl) | (refine And.intro ?_ ?_ <;> conv => whnf) | (intro x y z d hd; (try have g1 := And.left hd); (try have g2 := And.right hd); (try have g3 := And.left (And.right hd)); (try have g4 := And.right (And.right hd)); conv => whnf) | (intro x y d hd; (try have g1 := And.left hd); (try have g2 := And.right hd); (try have g3 := And.left (And.right hd)); (try have g4 := And.right (And.right hd)); conv => whnf) | (intro x d hd; (try have g1 := And.left hd); (try have g2 := And.right hd); (try have g3 := And.left (And.right hd)); (try have g4 := And.right (And.right hd)); conv => whnf) | (intro d hd; (try have g1 := And.left hd); (try have g2 := And.right hd); (try have g3 := And.left (And.right hd)); (try have g4 := And.right (And.right hd)); conv => whnf))
  all_goals (try simp only [etaKey, etaWord, etaMemory, etaHeap, etaSpan, decide_eq_true_eq, decide_eq_false_iff_not, gt_iff_lt] at *)
  all_goals first
    | (refine ⟨?_⟩; exact hd)
    | (refine ⟨?_⟩; exact he)
    | (refine ⟨?_⟩; exact hd.2)
    | (refine ⟨?_⟩; exact hlen.mono (by decide))
    | (refine ⟨?_⟩; exact lMem_big hlen.1)
    | (refine ⟨?_⟩; exact ⟨hlen.mono (by decide), by omega⟩)
    | exact hK H rs _ ⟨⟨hg, by omega⟩, hd.2⟩
    | (refine ⟨?_⟩; omega)
    | (refine ⟨?_⟩; simp only [List.length_cons, List.length_nil]; omega)
    | (rw [wrap_id (n := (i : Int) + 1) (by omega) (by omega)]
       first
         | exact hR (i + 1, _, H, rs, nn) ⟨by dsimp only; omega, hd.2, hg, by dsimp only; omega⟩ (by dsimp only; omega)
         | exact hR (i + 1, _, (giveBack _ _).1, rs, nn) ⟨by dsimp only; omega, hd.2, good_give hg _, by dsimp only; omega⟩ (by dsimp only; omega)
         | exact hR (i + 1, _, H, rs ++ [_], nn) ⟨by dsimp only; omega, hd.2, good_app hg (good_narrow hg (getD_mem (by omega)) _ _), by simp only [List.length_append, List.length_singleton]; omega⟩ (by dsimp only; omega)
         | exact hR (i + 1, _, ⟨(writeM _ _ _ _).1, H.live, H.waits⟩, rs, nn) ⟨by dsimp only; omega, hd.2, good_write hg _ _ (getD_mem (by omega)), by dsimp only; omega⟩ (by dsimp only; omega)
         | exact hR (i + 1, _, (clean _ _).1, (clean _ _).2, false) ⟨by dsimp only; omega, hd.2, good_clean hg, by dsimp only; rw [clean_len2]; omega⟩ (by dsimp only; omega))
    | skip
  all_goals (
    refine ⟨fun st => ∃ (y : Int) (d2 : Cur), CurOk d2 ∧ st = ⟨[(0, .v (.c (.ptr 0 0))), (2, .v (.c (.ptr 2 0))), (4, .v (.c (.ptr 3 0))), (5, .v (.c (.sl nn .word 8))), (6, .v (.c (.int .i64 (i : Int)))), (7, .v (.c (.ptr 9 0))), (8, .v (.c (.ptr 14 0))), (9, .v (.c (.bool (grant H y).2.2)))],
        [(14, some (.box true ((grant H y).2.1.flat []))), (13, some (.flat true .span none (grant H y).1.waits)), (12, some (.flat true .span none (grant H y).1.live)), (11, some (.flat true .bool none (grant H y).1.mem.gone)), (10, some (.flat true .word none (grant H y).1.mem.words)), (9, some (.box true [.sl false .word 10, .sl false .bool 11, .sl false .span 12, .sl false .span 13])),
          (8, some (.flat true .word none rs)), (7, some (.flat true .span none H.waits)), (6, some (.flat true .span none H.live)), (5, some (.flat true .bool none H.mem.gone)), (4, some (.flat true .word none H.mem.words)), (3, some (.box true [.sl false .word 4, .sl false .bool 5, .sl false .span 6, .sl false .span 7])), (2, some (.box true [.nils .word, .nils .bool, .nils .span, .nils .span])),
          (1, some (.flat false (.int .u8) none d2.b)), (0, some (.box true (cuC d2 1)))], nums.tail.tail.tail.tail.tail.tail.tail.tail.tail.tail.tail.tail.tail.tail.tail, [.v (.c (.ptr 0 0))], false, []⟩, ?_, ?_⟩
    · clear hR
      conv => whnf
      repeat' (first | (refine sel_i (fun h => ?_) (fun h => ?_) <;> conv => whnf) | (refine chk_c ?_ ?_ <;> conv => whnf) | (refine And.intro ?_ rfl) | (refine And.intro ?_ ?_ <;> conv => whnf) | (intro x y z d hd; (try have g1 := And.left hd); (try have g2 := And.right hd); (try have g3 := And.left (And.right hd)); (try have g4 := And.right (And.right hd)); conv => whnf) | (intro x y d hd; (try have g1 := And.left hd); (try have g2 := And.right hd); (try have g3 := And.left (And.right hd)); (try have g4 := And.right (And.right hd)); conv => whnf) | (intro x d hd; (try have g1 := And.left hd); (try have g2 := And.right hd); (try have g3 := And.left (And.right hd)); (try have g4 := And.right (And.right hd)); conv => whnf) | (intro d hd; (try have g1 := And.left hd); (try have g2 := And.right hd); (try have g3 := And.left (And.right hd)); (try have g4 := And.right (And.right hd)); conv => whnf))
      all_goals first
        | trivial
        | (refine ⟨?_⟩; exact hd.2)
        | (refine ⟨?_⟩; exact hlen.mono (by decide))
        | exact ⟨IntKind.i64.wrap (1 + x), d, hd.2, rfl⟩
        | trace_state
    · rintro st ⟨y, d2, hd2, rfl⟩
      obtain ⟨hg1, hg2⟩ := good_grant hg y
      conv => whnf
      repeat' (first | (refine sel_i (fun h => ?_) (fun h => ?_) <;> conv => whnf) | (refine chk_c ?_ ?_ <;> conv => whnf) | (refine And.intro ?_ rfl) | (refine And.intro ?_ ?_ <;> conv => whnf))
      all_goals (try simp only [etaKey, etaWord, etaMemory, etaHeap, etaSpan] at *)
      all_goals first
        | (refine ⟨?_⟩; simp only [List.length_cons, List.length_nil]; omega)
        | (rw [wrap_id (n := (i : Int) + 1) (by omega) (by omega)]
           first
             | exact hR (i + 1, d2, (grant H y).1, rs ++ [(grant H y).2.1], nn) ⟨by dsimp only; omega, hd2, good_app hg1 (hg2 (by assumption)), by simp only [List.length_append, List.length_singleton]; omega⟩ (by dsimp only; omega)
             | exact hR (i + 1, d2, (grant H y).1, rs, nn) ⟨by dsimp only; omega, hd2, hg1, by dsimp only; omega⟩ (by dsimp only; omega))
        | trace_state)
theorem ok_spec_l23DrawRight : FunOk Tryz.prog c_spec_l23DrawRight := funOkR (E := [c_spec_Grant, c_spec_GiveBack, c_spec_Clean, c_spec_l1Below, c_spec_HeapNew, c_spec_Narrow, c_spec_Write]) (envOk_cons ok_spec_Grant (envOk_cons ok_spec_GiveBack (envOk_cons ok_spec_Clean (envOk_cons ok_spec_l1Below (envOk_cons ok_spec_HeapNew (envOk_cons ok_spec_Narrow (envOk_cons ok_spec_Write (envOk_nil)))))))) mixd Tryz.func57 (pf := pf_spec_l23DrawRight) (by kernel_rfl) fun ts K h => by
  obtain ⟨t0, e0, h⟩ := as1_out h
  subst e0
  obtain ⟨c, e1, hq⟩ := arQ_out rd_cur h
  clear h
  subst e1
  have h := hq
  clear hq
  obtain ⟨hpre, h⟩ := chk_o h
  exact ⟨Nat.le_of_ble_eq_true (show Nat.ble 1 Tryz.f57.ntmps = true by kernel_rfl), _, run_spec_l23DrawRight 0 c hpre h⟩


open Go.RowKit Go.Lib in
set_option maxHeartbeats 4000000 in
set_option maxRecDepth 100000 in
theorem ins_shift : InsShift Tryz.prog 64 := by
  intro b off n c i vb voff vc cs vs w hi hroom hn31 hvb hcl hvl hcs hsp hfz hvs h1c h1v tA tB kA kB hsa hsb hkB hfa hfe
  have t82 : Tryz.prog.underlying 28 = some (.slice 62) := by kernel_rfl
  have u82 := run_underlying t82
  have mixed : Tryz.prog.follows .mixedOrders = true := by kernel_rfl
  have hz2 : ¬ ((i : Int) = (n : Int)) := by omega
  have hsz : (Tryz.prog.info? 62).map (·.size) = some 2 := by kernel_rfl
  have z151 : ∀ w, (Go.sizeOf 62).run Tryz.prog w = .ok 2 w := fun w => by
    cases hq : Tryz.prog.info? 62 with
    | none => simp [hq] at hsz
    | some i =>
      have hi : i.size = 2 := by simpa [hq] using hsz
      simp [sizeOf, typeInfo, hq, hi]
  have hov : ∀ lb cb, (callFunc 86 #[.slice (some ⟨vb, voff, none⟩) 1 vc, .slice (some ⟨b, off + (i + 1) * 2, none⟩) lb cb]).run Tryz.prog w = .ok (.value (.bool false)) w := fun lb cb => by
    rw [run_callFunc_extern Tryz.func86 (by kernel_rfl) (by kernel_rfl) (by kernel_rfl) (e := Extern.SlicesOverlaps.overlaps #[28, 28] #[4]) (by kernel_rfl),
      Lib.run_overlaps_apart w 28 4 62 t82 2 z151 ⟨vb, voff, none⟩ ⟨b, off + (i + 1) * 2, none⟩ 1 vc lb cb hvb tA tB kA kB hsa hsb hkB hfa hfe]
    rfl
  have hdl : (cs.drop (i * 2)).length = (n - i) * 2 := by rw [List.length_drop, hcl, Nat.sub_mul]
  have hw1 : IntKind.i64.wrap ((i : Int) + 1) = (i : Int) + 1 := by rw [IntKind.wrap_i64]; omega
  have hw2 : IntKind.i64.wrap ((n : Int) + 1) = (n : Int) + 1 := by rw [IntKind.wrap_i64]; omega
  have hb1 : (0 : Int) ≤ (i : Int) + 1 := by omega
  have hin : i ≤ n := by omega
  have htn : ((i : Int) + 1).toNat = i + 1 := by omega
  have hb2 : ¬ (c = i + 1) := by omega
  have hb3 : (i : Int) ≤ (n : Int) + 1 := by omega
  have hb4 : ¬ (c = i) := by omega
  have hcp1 : ∀ ty dc sc, (Builtin.copy_ #[28, 28] ty #[.slice (some ⟨b, off + (i + 1) * 2, none⟩) (n - i) dc, .slice (some ⟨b, off + i * 2, none⟩) (n + 1 - i) sc]).run Tryz.prog w.drew = .ok (goInt (Nat.min (n + 1 - i) (n - i))) (w.drew.setCells b (off + (i + 1) * 2) (cs.drop (i * 2))) := fun ty dc sc =>
    run_copyZ w.drew _ _ ty 62 b (off + (i + 1) * 2) (n - i) dc ⟨b, off + i * 2, none⟩ (n + 1 - i) sc 2 (cs.drop (i * 2)) t82 hsz (by rw [hdl]; simp only [Nat.min_def]; split <;> omega)
      (fun j v hj => by rw [Addr.add_lit, Nat.add_assoc]; exact hcs (i * 2 + j) v (by rwa [List.getElem?_drop] at hj))
      (fun j hj => by rw [Nat.add_assoc]; exact hsp _ (by omega)) (fun j hj => by rw [Nat.add_assoc]; exact hfz _ (by omega)) (fun v hv => h1c v (List.mem_of_mem_drop hv))
  obtain ⟨W1, hW1⟩ : ∃ W1, W1 = w.drew.setCells b (off + (i + 1) * 2) (cs.drop (i * 2)) := ⟨_, rfl⟩
  have hsp1 : ∀ k, k < (n + 1) * 2 → (W1.cell? ⟨b, off + k, none⟩).isSome = true := fun k hk => by
    rw [hW1]
    exact isSome_setCells b _ _ _ (fun j hj => by rw [Nat.add_assoc]; exact hsp _ (by omega)) _ (hsp k hk)
  have hcp2 : ∀ (W : World), (∀ x, W.cell? x = W1.cell? x) → (∀ x, W.frozen? x = W1.frozen? x) → ∀ ty dc, (Builtin.copy_ #[28, 28] ty #[.slice (some ⟨b, off + i * 2, none⟩) (n + 1 - i) dc, .slice (some ⟨vb, voff, none⟩) 1 vc]).run Tryz.prog W = .ok (goInt (Nat.min 1 (n + 1 - i))) (W.setCells b (off + i * 2) vs) := fun W hWc hWf ty dc =>
    run_copyZ W _ _ ty 62 b (off + i * 2) (n + 1 - i) dc ⟨vb, voff, none⟩ 1 vc 2 vs t82 hsz (by rw [hvl]; simp only [Nat.min_def]; split <;> omega)
      (fun j v hj => by
        rw [Addr.add_lit, hWc, hW1, World.cell?_setCells_out b _ _ _ _ (fun h _ => absurd h hvb)]
        exact hvs j v hj)
      (fun j hj => by rw [hWc, Nat.add_assoc]; exact hsp1 _ (by omega)) (fun j hj => by rw [hWf, hW1, World.frozen?_setCells, Nat.add_assoc]; exact hfz _ (by omega)) h1v
  rw [← hW1] at hcp1
  go_enter Tryz.func64, Tryz.ntmps64
  go_wp2_with (simp only [hov])
  go_region_law_o (refine step_copy_runI rfl _ _ 28 28 rfl _ _ (by simp [Act.eval, Act.put]) (by simp [Act.eval, Act.put]) (hcp1 _ _ _) ?_)
  go_wp2_with (at_builtin; refine wpList_copy_runI _ rfl _ _ 28 28 rfl _ _ rfl rfl (hcp2 _ (fun _ => rfl) (fun _ => rfl) _ _) ?_)
  go_ret
  first | exact ⟨rfl, rfl⟩ | exact ⟨rfl, by rw [hW1]⟩
open Go.RowKit Go.Lib in
set_option maxHeartbeats 4000000 in
set_option maxRecDepth 100000 in
theorem ins_grow : InsGrow Tryz.prog 64 62 := by
  intro b off n c i vb voff vc cs vs w hi hnc hroom hbig hcl hvl hcs hvs h1c h1v
  have t82 : Tryz.prog.underlying 28 = some (.slice 62) := by kernel_rfl
  have u82 := run_underlying t82
  have t3 : Tryz.prog.underlying 3 = some (.int .i64) := by kernel_rfl
  have mixed : Tryz.prog.follows .mixedOrders = true := by kernel_rfl
  have hz2 : ¬ ((i : Int) = (n : Int)) := by omega
  have hz3 : (c : Int) < (n : Int) + 1 := by omega
  have hsz : (Tryz.prog.info? 62).map (fun i => (i.zero, i.size, i.bytes)) = some (some (.agg #[.int .i64 0, .int .i64 0]), 2, 16) := by kernel_rfl
  obtain ⟨i0, hi0, hz0, hzs, hzb⟩ : ∃ i0, Tryz.prog.info? 62 = some i0 ∧ i0.zero = some (.agg #[.int .i64 0, .int .i64 0]) ∧ i0.size = 2 ∧ i0.bytes = 16 := by
    cases hq : Tryz.prog.info? 62 with
    | none => simp [hq] at hsz
    | some i => rw [hq] at hsz; simp at hsz; exact ⟨i, rfl, hsz.1, hsz.2.1, hsz.2.2⟩
  have hsz : (Tryz.prog.info? 62).map (·.size) = some 2 := by rw [hi0]; simp [hzs]
  obtain ⟨z, hzz⟩ : ∃ z : Array Value, z = #[.int .i64 0, .int .i64 0] := ⟨_, rfl⟩
  have hz2s : z.size = 2 := by rw [hzz]; rfl
  have hbw : b < w.heap.size := block_lt_of_cell (hcs 0 _ (List.getElem?_eq_getElem (by omega)))
  have hvw : vb < w.heap.size := block_lt_of_cell (hvs 0 _ (List.getElem?_eq_getElem (by omega)))
  have hkk : (n : Int) + 1 - (i : Int) = ((n + 1 - i : Nat) : Int) := by omega
  have hik : i + (n + 1 - i) = n + 1 := by omega
  have hold : (Builtin.firstCells i0.size i (.slice (some ⟨b, off, none⟩) i c)).run Tryz.prog w.drew = .ok (cs.take (i * 2)).toArray w.drew := by
    rw [hzs]
    exact run_firstCells_some w.drew 2 i ⟨b, off, none⟩ i c (cs.take (i * 2)) (by rw [List.length_take]; omega) (fun j v hj => by
      rw [Addr.add_lit]
      rw [List.getElem?_take] at hj
      split at hj
      · exact hcs j v hj
      · cases hj)
  have hrz : ∀ ty, (Builtin.append_ #[28, 3] ty #[.slice (some ⟨b, off, none⟩) i c, .int .i64 ((n : Int) + 1 - (i : Int))]).run Tryz.prog w =
      .ok (.slice (some ⟨w.heap.size, 0, none⟩) (n + 1) (grownCap w (n + 1) c 62)) (w.drew.alloc (.cells ((cs.take (i * 2)).toArray ++ Builtin.zeroCells z (n + 1 - i) ++ Builtin.zeroCells z (grownCap w (n + 1) c 62 - (n + 1))) 62)) := fun ty => by
    have h := Lib.run_append_grow_zeros w 28 3 ty 62 i0 _ .i64 .i64 t82 t3 hi0 hz0 (some ⟨b, off, none⟩) i c (cs.take (i * 2)) hold (n + 1 - i) (by omega) (by omega) (by omega) (by omega) (by rw [hzb]; omega) (by rw [hzb, hik]; exact growslice_fits hroom (by omega))
    rw [hik] at h
    rw [hkk, hzz]
    exact h
  obtain ⟨G, hG⟩ : ∃ G, G = grownCap w (n + 1) c 62 := ⟨_, rfl⟩
  obtain ⟨ROW, hROW⟩ : ∃ ROW : Array Value, ROW = (cs.take (i * 2)).toArray ++ Builtin.zeroCells z (n + 1 - i) ++ Builtin.zeroCells z (G - (n + 1)) := ⟨_, rfl⟩
  have hGn : n + 1 ≤ G := by rw [hG]; exact grownCap_ge w _ _ _
  refine Calls.mono (R := fun e w' => e = .returned (.slice (some ⟨w.heap.size, 0, none⟩) (n + 1) G) ∧ w' = (((w.alloc (.cells ROW 62)).drew.setCells w.heap.size (i * 2) vs).drew).setCells w.heap.size ((i + 1) * 2) (cs.drop (i * 2))) ?_ (fun e w' h => ⟨G, z, hGn, hz2s, h.1, by rw [← hROW]; exact h.2⟩)
  rw [← hG] at hrz
  rw [← hROW] at hrz
  have hRl : (n + 1) * 2 ≤ ROW.size := by
    rw [hROW]
    simp [Builtin.zeroCells, hz2s]
    omega
  obtain ⟨W1, hW1⟩ : ∃ W1, W1 = w.drew.alloc (.cells ROW 62) := ⟨_, rfl⟩
  rw [← hW1] at hrz
  have hN : ∀ j, j < (n + 1) * 2 → (W1.cell? ⟨w.heap.size, j, none⟩).isSome = true := fun j hj => by
    rw [hW1, World.cell?_alloc_at (w := w.drew) ROW _ w.heap.size j rfl, Array.getElem?_eq_getElem (by omega)]; rfl
  have hNf : ∀ j, W1.frozen? ⟨w.heap.size, j, none⟩ = false := fun j => by rw [hW1]; exact World.frozen?_alloc_at (w := w.drew) ROW _ w.heap.size j rfl
  have hOb : ∀ j v, w.cell? ⟨b, j, none⟩ = some v → W1.cell? ⟨b, j, none⟩ = some v := fun j v h => by rw [hW1, World.cell?_alloc_past (w := w.drew) _ b j hbw]; exact h
  have hOv : ∀ j v, w.cell? ⟨vb, j, none⟩ = some v → W1.cell? ⟨vb, j, none⟩ = some v := fun j v h => by rw [hW1, World.cell?_alloc_past (w := w.drew) _ vb j hvw]; exact h
  have hcpA : ∀ (W : World), (∀ x, W.cell? x = W1.cell? x) → (∀ x, W.frozen? x = W1.frozen? x) → ∀ ty dc, (Builtin.copy_ #[28, 28] ty #[.slice (some ⟨w.heap.size, i * 2, none⟩) (n + 1 - i) dc, .slice (some ⟨vb, voff, none⟩) 1 vc]).run Tryz.prog W = .ok (goInt (Nat.min 1 (n + 1 - i))) (W.setCells w.heap.size (i * 2) vs) := fun W hWc hWf ty dc =>
    run_copyZ W _ _ ty 62 w.heap.size (i * 2) (n + 1 - i) dc ⟨vb, voff, none⟩ 1 vc 2 vs t82 hsz (by rw [hvl]; simp only [Nat.min_def]; split <;> omega)
      (fun j v hj => by rw [Addr.add_lit, hWc]; exact hOv _ v (hvs j v hj))
      (fun j hj => by rw [hWc]; exact hN _ (by omega)) (fun j hj => by rw [hWf]; exact hNf _) h1v
  have hG63 : G ≤ 9223372036854775807 := by
    have := grownCap_le_maxLen w (n + 1) c 62 (by unfold maxLen; omega)
    rw [← hG] at this
    unfold maxLen at this
    omega
  have hGi : ¬ (G = i) := by omega
  have hGim : ¬ (G = i + 1) := by omega
  have hci : ¬ (c = i) := by omega
  have hbN : b ≠ w.heap.size := by omega
  have hdl : (cs.drop (i * 2)).length = (n - i) * 2 := by rw [List.length_drop, hcl, Nat.sub_mul]
  have hcpB : ∀ (W : World), (∀ x, W.cell? x = (W1.setCells w.heap.size (i * 2) vs).cell? x) → (∀ x, W.frozen? x = (W1.setCells w.heap.size (i * 2) vs).frozen? x) → ∀ ty dc sc, (Builtin.copy_ #[28, 28] ty #[.slice (some ⟨w.heap.size, (i + 1) * 2, none⟩) (n - i) dc, .slice (some ⟨b, off + i * 2, none⟩) (n - i) sc]).run Tryz.prog W = .ok (goInt (Nat.min (n - i) (n - i))) (W.setCells w.heap.size ((i + 1) * 2) (cs.drop (i * 2))) := fun W hWc hWf ty dc sc =>
    run_copyZ W _ _ ty 62 w.heap.size ((i + 1) * 2) (n - i) dc ⟨b, off + i * 2, none⟩ (n - i) sc 2 (cs.drop (i * 2)) t82 hsz (by rw [hdl]; simp only [Nat.min_def]; split <;> omega)
      (fun j v hj => by
        rw [Addr.add_lit, hWc, World.cell?_setCells_out _ _ _ _ _ (fun h _ => absurd h hbN), Nat.add_assoc]
        exact hOb _ v (hcs (i * 2 + j) v (by rwa [List.getElem?_drop] at hj)))
      (fun j hj => by rw [hWc]; exact isSome_setCells _ _ _ _ (fun t ht => hN _ (by omega)) _ (hN _ (by omega)))
      (fun j hj => by rw [hWf, World.frozen?_setCells]; exact hNf _) (fun v hv => h1c v (List.mem_of_mem_drop hv))
  subst hW1
  have hE1 : ∀ x, ((w.alloc (.cells ROW 62)).drew).cell? x = (w.drew.alloc (.cells ROW 62)).cell? x := fun x => rfl
  have hE2 : ∀ x, ((w.alloc (.cells ROW 62)).drew).frozen? x = (w.drew.alloc (.cells ROW 62)).frozen? x := fun x => rfl
  have hF1 : ∀ x, (((w.alloc (.cells ROW 62)).drew.setCells w.heap.size (i * 2) vs).drew).cell? x = ((w.drew.alloc (.cells ROW 62)).setCells w.heap.size (i * 2) vs).cell? x := fun x => rfl
  have hF2 : ∀ x, (((w.alloc (.cells ROW 62)).drew.setCells w.heap.size (i * 2) vs).drew).frozen? x = ((w.drew.alloc (.cells ROW 62)).setCells w.heap.size (i * 2) vs).frozen? x := fun x => rfl
  have hw1 : IntKind.i64.wrap ((i : Int) + 1) = (i : Int) + 1 := by rw [IntKind.wrap_i64]; omega
  have hw2 : IntKind.i64.wrap ((n : Int) + 1) = (n : Int) + 1 := by rw [IntKind.wrap_i64]; omega
  have hw3 : IntKind.i64.wrap ((n : Int) + 1 - (i : Int)) = (n : Int) + 1 - (i : Int) := by rw [IntKind.wrap_i64]; omega
  have hb1 : (0 : Int) ≤ (i : Int) + 1 := by omega
  have hin : i ≤ n := by omega
  have htn : ((i : Int) + 1).toNat = i + 1 := by omega
  have hb3 : (i : Int) ≤ (n : Int) := by omega
  have hb5 : (i : Int) ≤ (n : Int) + 1 := by omega
  have hb6 : (i : Int) + 1 ≤ (n : Int) + 1 := by omega
  clear hkk hik hold hROW hG hRl hzz hz0
  go_enter Tryz.func64, Tryz.ntmps64
  go_wp2_with (first
    | (at_builtin; refine Lib.wpList_append_run _ rfl _ _ _ _ rfl _ _ rfl rfl _ _ (hrz _) ?_)
    | (at_builtin; refine wpList_copy_runI _ rfl _ _ 28 28 rfl _ _ rfl rfl (hcpA _ hE1 hE2 _ _) ?_)
    | (at_builtin; refine wpList_copy_runI _ rfl _ _ 28 28 rfl _ _ rfl rfl (hcpB _ (fun _ => rfl) (fun _ => rfl) _ _ _) ?_))
  go_region_law_o (refine step_copy_runI rfl _ _ 28 28 rfl (.slice (some ⟨w.heap.size, (i + 1) * 2, none⟩) (n - i) (G - (i + 1))) (.slice (some ⟨b, off + i * 2, none⟩) (n - i) (c - i)) (by simp [Act.eval, Act.put]) (by simp [Act.eval, Act.put]) (hcpB _ hF1 hF2 3 (G - (i + 1)) (c - i)) ?_)
  go_wp2
  go_ret
  exact ⟨rfl, rfl⟩
def pf_slices_Insert_Span : PF := ⟨[.t 6], .seq (.reg [.s (.mv 6 (.k (.v (.c (.nils .span)))))]) (.seq (.reg [.s (.mv 10 (.t 0)), .s (.mv 11 (.t 1)), .s (.slc 12 .span (.t 10) (some (.t 11)) none)]) (.seq (.reg [.s (.mv 13 (.t 2)), .s (.len 14 false (.t 13)), .s (.mv 7 (.t 14))]) (.seq (.seq (.reg [.s (.mv 15 (.t 7)), .s (.bin 16 .eql (.t 15) (.k (.v (.c (.int .i64 0)))))]) (.cond (.t 16) (.seq (.reg [.s (.mv 17 (.t 0)), .s (.mv 6 (.t 17))]) (.ret)) (.skip))) (.seq (.reg [.s (.mv 18 (.t 0)), .s (.len 19 false (.t 18)), .s (.mv 8 (.t 19))]) (.seq (.seq (.reg [.s (.mv 20 (.t 1)), .s (.mv 21 (.t 8)), .s (.bin 22 .eql (.t 20) (.t 21))]) (.cond (.t 22) (.seq (.reg [.s (.mv 23 (.t 0)), .s (.mv 24 (.t 2)), .s (.app 25 .span (.t 23) (.t 24)), .s (.mv 6 (.t 25))]) (.ret)) (.skip))) (.seq (.seq (.reg [.s (.mv 26 (.t 8)), .s (.mv 27 (.t 7)), .s (.bin 28 .add (.t 26) (.t 27)), .s (.mv 29 (.t 0)), .s (.cap 30 (.t 29)), .s (.bin 31 .gtr (.t 28) (.t 30))]) (.cond (.t 31) (.seq (.reg [.s (.mv 32 (.t 0)), .s (.mv 33 (.t 1)), .s (.slc 34 .span (.t 32) none (some (.t 33))), .s (.mv 35 (.t 8)), .s (.mv 36 (.t 7)), .s (.bin 37 .add (.t 35) (.t 36)), .s (.mv 38 (.t 1)), .s (.bin 39 .sub (.t 37) (.t 38)), .s (.appz 40 .span (.t 34) (.t 39)), .s (.mv 9 (.t 40))]) (.seq (.reg [.s (.mv 41 (.t 9)), .s (.mv 42 (.t 1)), .s (.slc 43 .span (.t 41) (some (.t 42)) none), .s (.mv 44 (.t 2)), .s (.cpy (some 45) .span (.t 43) (.t 44))]) (.seq (.rgd [] [.s (.mv 46 (.t 9)), .s (.mv 47 (.t 1)), .s (.mv 48 (.t 7)), .s (.bin 49 .add (.t 47) (.t 48)), .s (.slc 50 .span (.t 46) (some (.t 49)) none), .s (.mv 51 (.t 0)), .s (.mv 52 (.t 1)), .s (.slc 53 .span (.t 51) (some (.t 52)) none), .s (.cpy (some 54) .span (.t 50) (.t 53))] (.tk 0 (.tk 1 (.tk 2 (.tk 3 (.tk 5 (.tk 6 (.alt 4 false (.one 7 true (.one 8 true (.done (some [9])))) (.alt 7 false (.one 4 true (.one 8 true (.done (some [9])))) (.nil)))))))))) (.seq (.reg [.s (.mv 55 (.t 9)), .s (.mv 6 (.t 55))]) (.ret))))) (.skip))) (.seq (.reg [.s (.mv 56 (.t 0)), .s (.mv 57 (.t 8)), .s (.mv 58 (.t 7)), .s (.bin 59 .add (.t 57) (.t 58)), .s (.slc 60 .span (.t 56) none (some (.t 59))), .s (.mv 0 (.t 60))]) (.seq (.seq (.reg [.s (.mv 61 (.t 2)), .s (.mv 62 (.t 0)), .s (.mv 63 (.t 1)), .s (.mv 64 (.t 7)), .s (.bin 65 .add (.t 63) (.t 64)), .s (.slc 66 .span (.t 62) (some (.t 65)) none), .s (.call (some 67) 86 [(.t 61), (.t 66)]), .s (.bnot 68 (.t 67))]) (.cond (.t 68) (.seq (.rgd [] [.s (.mv 69 (.t 0)), .s (.mv 70 (.t 1)), .s (.mv 71 (.t 7)), .s (.bin 72 .add (.t 70) (.t 71)), .s (.slc 73 .span (.t 69) (some (.t 72)) none), .s (.mv 74 (.t 0)), .s (.mv 75 (.t 1)), .s (.slc 76 .span (.t 74) (some (.t 75)) none), .s (.cpy (some 77) .span (.t 73) (.t 76))] (.tk 0 (.tk 1 (.tk 2 (.tk 3 (.tk 5 (.tk 6 (.alt 4 false (.one 7 true (.one 8 true (.done (some [0, 1, 2])))) (.alt 7 false (.one 4 true (.one 8 true (.done (some [0, 1, 2])))) (.nil)))))))))) (.seq (.reg [.s (.mv 78 (.t 0)), .s (.mv 79 (.t 1)), .s (.slc 80 .span (.t 78) (some (.t 79)) none), .s (.mv 81 (.t 2)), .s (.cpy (some 82) .span (.t 80) (.t 81))]) (.seq (.reg [.s (.mv 83 (.t 0)), .s (.mv 6 (.t 83))]) (.ret)))) (.skip))) (.seq (.reg [.s (.mv 84 (.t 0)), .s (.mv 85 (.t 8)), .s (.slc 86 .span (.t 84) (some (.t 85)) none), .s (.mv 87 (.t 2)), .s (.cpy (some 88) .span (.t 86) (.t 87))]) (.seq (.reg [.s (.mv 89 (.t 0)), .s (.mv 90 (.t 1)), .s (.slc 91 .span (.t 89) (some (.t 90)) none), .s (.mv 92 (.t 7)), .s (.call (some 93) 87 [(.t 91), (.t 92)])]) (.seq (.reg [.s (.mv 94 (.t 0)), .s (.mv 6 (.t 94))]) (.ret))))))))))))⟩
def c_insEnd : Fun := ⟨64, [true, false, true], fun ts K => as3 ts fun t0 t1 t2 => arC (pO .span) t0 fun xs => arC (pI .i64) t1 fun i => arC (pO .span) t2 fun v => chk (i = xs.length ∧ xs.length ≤ 1000000 ∧ v.length = 1) (K (tL true .span (xs ++ v)) [.v (.c .unk), tL true .span v])⟩
theorem run_insEnd (xs : List Span) (i : Int) (v : List Span) (hpre : i = xs.length ∧ xs.length ≤ 1000000 ∧ v.length = 1) : runK [] (0) [true, false, true] pf_slices_Insert_Span [tL true .span xs, tI .i64 i, tL true .span v] fun r o => r = tL true .span (xs ++ v) ∧ o = [.v (.c .unk), tL true .span v] := by
  obtain ⟨e0, hx, hv⟩ := hpre
  subst e0
  conv => whnf
  repeat' (first | (refine sel_i (fun h => ?_) (fun h => ?_) <;> conv => whnf) | (refine chk_c ?_ ?_ <;> conv => whnf) | (refine And.intro ?_ rfl) | (refine And.intro ?_ ?_ <;> conv => whnf))
  all_goals (try simp only [hv, decide_eq_true_eq, decide_eq_false_iff_not, beq_iff_eq, beq_eq_false_iff_ne] at *)
  all_goals first
    | rfl
    | trivial
    | (refine ⟨?_⟩; omega)
    | (exfalso; omega)
    | trace_state
theorem ok_insEnd : FunOk Tryz.prog c_insEnd := funOk (E := []) envOk_nil mixd Tryz.func64 (pf := pf_slices_Insert_Span) (by kernel_rfl) fun ts K h => by
  obtain ⟨t0, t1, t2, e0, h⟩ := as3_out h
  subst e0
  obtain ⟨xs, e1, h⟩ := arC_out (rd_o .span) h
  subst e1
  obtain ⟨i, e1, h⟩ := arC_out (rd_int .i64) h
  subst e1
  obtain ⟨v, e1, h⟩ := arC_out (rd_o .span) h
  subst e1
  obtain ⟨hpre, h⟩ := chk_o h
  exact ⟨_, _, h, Nat.le_of_ble_eq_true (show Nat.ble 3 Tryz.f64.ntmps = true by kernel_rfl), _, run_insEnd xs i v hpre⟩
def c_slices_Insert_Span : Fun := ⟨64, [true, false, true], fun ts K => as3 ts fun t0 t1 t2 => arC (pO .span) t0 fun xs => arC (pI .i64) t1 fun i => arC (pO .span) t2 fun v => chk (0 ≤ i ∧ i ≤ xs.length ∧ xs.length ≤ 1000000 ∧ v.length = 1) (K (tL true .span (insAt xs i v)) [.v (.c .unk), tL true .span v])⟩
theorem ok_slices_Insert_Span : FunOk Tryz.prog c_slices_Insert_Span := by
  intro ts K h
  obtain ⟨t0, t1, t2, e0, h⟩ := as3_out h
  subst e0
  obtain ⟨xs, e1, h⟩ := arC_out (rd_o .span) h
  subst e1
  obtain ⟨i, e1, h⟩ := arC_out (rd_int .i64) h
  subst e1
  obtain ⟨v, e1, h⟩ := arC_out (rd_o .span) h
  subst e1
  obtain ⟨⟨h0, hi, hx, hv⟩, h⟩ := chk_o h
  by_cases hie : i = xs.length
  · have e : insAt xs i v = xs ++ v := by
      subst hie
      simp [insAt]
    rw [e] at h
    exact ok_insEnd _ K (chk_i ⟨hie, hx, hv⟩ h)
  · have hs := ins_mid ins_shift ins_grow h0 (by omega) hv hx
    exact (hs.mono fun r o ho => by obtain ⟨rfl, rfl⟩ := ho; exact h).x (callable_of Tryz.func64 (pf := pf_slices_Insert_Span) (by kernel_rfl))

theorem idxGo_out {α : Type} {p : α → Bool} (z : α) : ∀ (xs : List α) (i : Nat), 0 ≤ idxGo p xs i → ∃ k : Nat, idxGo p xs i = ((i + k : Nat) : Int) ∧ k < xs.length ∧ p (xs.getD k z) = true ∧ ∀ j, j < k → p (xs.getD j z) = false
  | [], i, h => by simp [idxGo] at h
  | x :: xs, i, h => by
    unfold idxGo at h ⊢
    split
    · exact ⟨0, rfl, by simp, by simpa using ‹p x = true›, fun j hj => absurd hj (Nat.not_lt_zero _)⟩
    · rename_i hp
      rw [if_neg hp] at h
      obtain ⟨k, e, hk, hk1, hk2⟩ := idxGo_out z xs (i + 1) h
      refine ⟨k + 1, by rw [e]; congr 1; omega, by simpa using hk, by simpa using hk1, fun j hj => ?_⟩
      cases j with
      | zero => simpa using hp
      | succ j => simpa using hk2 j (by omega)
theorem idxOf_cases {α : Type} (p : α → Bool) (z : α) (xs : List α) : (idxOf p xs < 0 ∧ ∀ j, j < xs.length → p (xs.getD j z) = false) ∨
    ∃ k : Nat, idxOf p xs = (k : Int) ∧ k < xs.length ∧ p (xs.getD k z) = true ∧ ∀ j, j < k → p (xs.getD j z) = false := by
  by_cases h : 0 ≤ idxOf p xs
  · obtain ⟨k, e, h1, h2, h3⟩ := idxGo_out z xs 0 h
    exact .inr ⟨k, by rw [show idxOf p xs = idxGo p xs 0 from rfl, e, Nat.zero_add], h1, h2, h3⟩
  · refine .inl ⟨by omega, fun j hj => ?_⟩
    have ha := idxOf_any p xs
    rw [decide_eq_false h] at ha
    have := List.any_eq_false.1 ha.symm (xs.getD j z) (by rw [List.getD_eq_getElem?_getD, List.getElem?_eq_getElem hj]; exact List.getElem_mem hj)
    simpa using this
theorem plc_end {l : List Span} {x : Span} (hx : ∀ s ∈ l, s.at_ ≠ x.at_) (h : ∀ j, j < l.length → decide ((l.getD j (FT.zero .span)).at_ > x.at_) = false) : insAt l (l.length : Int) [x] = putS l x := by
  rw [putS_at (k := l.length) (Nat.le_refl _) (fun j hj => by
    have h1 := of_decide_eq_false (h j hj)
    have h2 := hx _ (spanD_mem hj)
    omega) (.inl rfl)]
  simp [insAt]
theorem plc_at {l : List Span} {x : Span} {k : Nat} (hx : ∀ s ∈ l, s.at_ ≠ x.at_) (hk : k < l.length) (h1 : decide ((l.getD k (FT.zero .span)).at_ > x.at_) = true) (h : ∀ j, j < k → decide ((l.getD j (FT.zero .span)).at_ > x.at_) = false) : insAt l (k : Int) [x] = putS l x := by
  rw [putS_at (k := k) (Nat.le_of_lt hk) (fun j hj => by
    have h1 := of_decide_eq_false (h j hj)
    have h2 := hx _ (spanD_mem (show j < l.length by omega))
    omega) (.inr (by have := of_decide_eq_true h1; omega))]
  simp [insAt]

def pf_impl_placed_1 : PF := ⟨[.t 3], .seq (.reg [.s (.box 2 (.t 0)), .s (.mv 3 (.k (.v (.c .ff))))]) (.seq (.reg [.s (.fa 4 (.t 2) 0), .s (.load 5 false 1 (.t 4)), .s (.fa 6 (.t 1) 0), .s (.load 7 false 1 (.t 6)), .s (.bin 8 .gtr (.t 5) (.t 7)), .s (.mv 3 (.t 8))]) (.ret))⟩
def c_impl_placed_1 : Fun := ⟨63, [], fun ts K => as2 ts fun t0 t1 => arG pSpanT t0 fun x => arP pSpanT t1 fun g => K (tB (decide (x.at_ > g.at_))) []⟩
theorem run_impl_placed_1 (x : Span) (g : Span) : runK [] (0) [] pf_impl_placed_1 [tG (x.tc []), .v (.ptr false 0 (g.tc []))] fun r o => r = tB (decide (x.at_ > g.at_)) ∧ o = [] := by
  conv => whnf
  repeat' (first | (refine sel_i (fun h => ?_) (fun h => ?_) <;> conv => whnf) | (refine chk_c ?_ ?_ <;> conv => whnf) | (refine And.intro ?_ rfl) | (refine And.intro ?_ ?_ <;> conv => whnf))
  all_goals rfl
theorem ok_impl_placed_1 : FunOk Tryz.prog c_impl_placed_1 := funOk (E := []) (envOk_nil) mixd Tryz.func63 (pf := pf_impl_placed_1) (by kernel_rfl) fun ts K h => by
  obtain ⟨t0, t1, e0, h⟩ := as2_out h
  subst e0
  obtain ⟨x, e1, hq⟩ := arG_out rd_span h
  clear h
  subst e1
  have h := hq
  clear hq
  obtain ⟨g, e1, hq⟩ := arP_out rd_span h
  clear h
  subst e1
  have h := hq
  clear hq
  exact ⟨_, _, h, Nat.le_of_ble_eq_true (show Nat.ble 2 Tryz.f63.ntmps = true by kernel_rfl), _, run_impl_placed_1 x g⟩

def pf_impl_GiveBack_1 : PF := ⟨[.t 3], .seq (.reg [.s (.box 2 (.t 0)), .s (.mv 3 (.k (.v (.c .ff))))]) (.seq (.reg [.s (.fa 4 (.t 2) 0), .s (.load 5 false 1 (.t 4)), .s (.load 6 false 1 (.t 1)), .s (.bin 7 .eql (.t 5) (.t 6)), .s (.mv 3 (.t 7))]) (.ret))⟩
def c_impl_GiveBack_1 : Fun := ⟨41, [], fun ts K => as2 ts fun t0 t1 => arG pSpanT t0 fun x => arP pN t1 fun g => K (tB (x.at_ == g)) []⟩
theorem run_impl_GiveBack_1 (x : Span) (g : Int) : runK [] (0) [] pf_impl_GiveBack_1 [tG (x.tc []), .v (.ptr false 0 [.int .i64 g])] fun r o => r = tB (x.at_ == g) ∧ o = [] := by
  conv => whnf
  repeat' (first | (refine sel_i (fun h => ?_) (fun h => ?_) <;> conv => whnf) | (refine chk_c ?_ ?_ <;> conv => whnf) | (refine And.intro ?_ rfl) | (refine And.intro ?_ ?_ <;> conv => whnf))
  all_goals rfl
theorem ok_impl_GiveBack_1 : FunOk Tryz.prog c_impl_GiveBack_1 := funOk (E := []) (envOk_nil) mixd Tryz.func41 (pf := pf_impl_GiveBack_1) (by kernel_rfl) fun ts K h => by
  obtain ⟨t0, t1, e0, h⟩ := as2_out h
  subst e0
  obtain ⟨x, e1, hq⟩ := arG_out rd_span h
  clear h
  subst e1
  have h := hq
  clear hq
  obtain ⟨g, e1, hq⟩ := arP_out (rd_int .i64) h
  clear h
  subst e1
  have h := hq
  clear hq
  exact ⟨_, _, h, Nat.le_of_ble_eq_true (show Nat.ble 2 Tryz.f41.ntmps = true by kernel_rfl), _, run_impl_GiveBack_1 x g⟩

def lb_slices_IndexFunc_Span_0 : PC := .seq (.reg [.s (.bin 9 .lss (.t 8) (.t 7))]) (.seq (.cond (.t 9) (.skip) (.exit 0)) (.seq (.blk 1 (.seq (.reg [.s (.mv 10 (.t 8)), .s (.mv 5 (.t 10))]) (.seq (.reg [.s (.mv 11 (.t 1)), .s (.mv 12 (.t 0)), .s (.mv 13 (.t 5)), .s (.ia 14 .span (.t 12) (.t 13)), .s (.load 15 true 2 (.t 14)), .s (.callv (some 16) (.t 11) [(.t 15)])]) (.cond (.t 16) (.seq (.reg [.s (.mv 17 (.t 5)), .s (.mv 4 (.t 17))]) (.ret)) (.skip))))) (.reg [.s (.bin 18 .add (.t 8) (.k (.v (.c (.int .i64 1))))), .s (.mv 8 (.t 18))])))
def pf_slices_IndexFunc_Span : PF := ⟨[.t 4], .seq (.reg [.s (.mv 4 (.k (.v (.c (.int .i64 0)))))]) (.seq (.seq (.reg [.s (.mv 6 (.t 0)), .s (.len 7 false (.t 6)), .s (.mv 8 (.k (.v (.c (.int .i64 0)))))]) (.blk 0 (.loop [0, 1, 7, 8] lb_slices_IndexFunc_Span_0))) (.seq (.reg [.s (.mv 4 (.k (.v (.c (.int .i64 (-1))))))]) (.ret)))⟩
def c_slices_IndexFunc_Span__impl_placed_1 : Fun := ⟨40, [], fun ts K => as2 ts fun t0 t1 => arC (pL .span) t0 fun xs => arF1 63 pSpanT t1 fun g => chk (xs.length ≤ 2147483647) (K (tN (idxOf (fun x => decide (x.at_ > g.at_)) xs)) [])⟩
theorem run_slices_IndexFunc_Span__impl_placed_1 (xs : List (FT.Ty .span)) (g : Span) (hpre : xs.length ≤ 2147483647) : runK [c_impl_placed_1] (xs.length + 1) [] pf_slices_IndexFunc_Span [tL false .span xs, .fn 63 [.ptr false 0 (g.tc [])]] fun r o => r = tN (idxOf (fun x => decide (x.at_ > g.at_)) xs) ∧ o = [] := by
  conv => whnf
  refine loop (α := Nat) (fun i => ⟨[(0, .v (.c (.sl false .span 0))), (1, .fn 63 [.c (.ptr 1 0)]), (7, .v (.c (.int .i64 (xs.length : Int)))), (8, .v (.c (.int .i64 (i : Int))))], [(1, some (.box false [.int .i64 g.at_, .int .i64 g.len])), (0, some (.flat false .span none xs))], nums.tail.tail, [], false, []⟩)
      (fun i => i ≤ xs.length ∧ idxOf (fun x => decide (x.at_ > g.at_)) xs = idxGo (fun x => decide (x.at_ > g.at_)) (xs.drop i) i) (fun i => xs.length - i) (fun i R hI hR => ?_) 0 _ ⟨by simp, rfl⟩ (by simp)
  obtain ⟨hi, hx⟩ := hI
  conv => whnf
  refine sel_i (fun h2 => ?_) (fun h2 => ?_)
  · have hlt : i < xs.length := by simp at h2; omega
    conv => whnf
    repeat (refine chk_i (by first | omega | (simp; omega)) ?_; conv => whnf)
    refine sel_i (fun h3 => ?_) (fun h3 => ?_)
    · conv => whnf
      rw [hx, idxGo_yes (z := FT.zero .span) hlt (by first | (simp only [keyEq] at h3; exact h3) | (simpa using h3))]
      exact ⟨rfl, rfl⟩
    · conv => whnf
      rw [wrap_id (n := (i : Int) + 1) (by omega) (by omega)]
      exact hR (i + 1) ⟨by omega, by rw [hx, idxGo_no (z := FT.zero .span) hlt (by first | (simp only [keyEq] at h3; exact h3) | (simpa using h3))]⟩ (by omega)
  · conv => whnf
    rw [hx, idxGo_end (by simp at h2; omega)]
    exact ⟨rfl, rfl⟩
theorem ok_slices_IndexFunc_Span__impl_placed_1 : FunOk Tryz.prog c_slices_IndexFunc_Span__impl_placed_1 := funOk (E := [c_impl_placed_1]) (envOk_cons ok_impl_placed_1 (envOk_nil)) mixd Tryz.func40 (pf := pf_slices_IndexFunc_Span) (by kernel_rfl) fun ts K h => by
  obtain ⟨t0, t1, e0, h⟩ := as2_out h
  subst e0
  obtain ⟨xs, e1, hq⟩ := arC_out (rd_l .span) h
  clear h
  subst e1
  have h := hq
  clear hq
  obtain ⟨g, e1, hq⟩ := arF1_out rd_span h
  clear h
  subst e1
  have h := hq
  clear hq
  obtain ⟨hpre, h⟩ := chk_o h
  exact ⟨_, _, h, Nat.le_of_ble_eq_true (show Nat.ble 2 Tryz.f40.ntmps = true by kernel_rfl), _, run_slices_IndexFunc_Span__impl_placed_1 xs g hpre⟩

def c_slices_IndexFunc_Span__impl_GiveBack_1 : Fun := ⟨40, [], fun ts K => as2 ts fun t0 t1 => arC (pL .span) t0 fun xs => arF1 41 pN t1 fun g => chk (xs.length ≤ 2147483647) (K (tN (idxOf (fun x => x.at_ == g) xs)) [])⟩
theorem run_slices_IndexFunc_Span__impl_GiveBack_1 (xs : List (FT.Ty .span)) (g : Int) (hpre : xs.length ≤ 2147483647) : runK [c_impl_GiveBack_1] (xs.length + 1) [] pf_slices_IndexFunc_Span [tL false .span xs, .fn 41 [.ptr false 0 [.int .i64 g]]] fun r o => r = tN (idxOf (fun x => x.at_ == g) xs) ∧ o = [] := by
  conv => whnf
  refine loop (α := Nat) (fun i => ⟨[(0, .v (.c (.sl false .span 0))), (1, .fn 41 [.c (.ptr 1 0)]), (7, .v (.c (.int .i64 (xs.length : Int)))), (8, .v (.c (.int .i64 (i : Int))))], [(1, some (.box false [.int .i64 g])), (0, some (.flat false .span none xs))], nums.tail.tail, [], false, []⟩)
      (fun i => i ≤ xs.length ∧ idxOf (fun x => x.at_ == g) xs = idxGo (fun x => x.at_ == g) (xs.drop i) i) (fun i => xs.length - i) (fun i R hI hR => ?_) 0 _ ⟨by simp, rfl⟩ (by simp)
  obtain ⟨hi, hx⟩ := hI
  conv => whnf
  refine sel_i (fun h2 => ?_) (fun h2 => ?_)
  · have hlt : i < xs.length := by simp at h2; omega
    conv => whnf
    repeat (refine chk_i (by first | omega | (simp; omega)) ?_; conv => whnf)
    refine sel_i (fun h3 => ?_) (fun h3 => ?_)
    · conv => whnf
      rw [hx, idxGo_yes (z := FT.zero .span) hlt (by first | (simp only [keyEq] at h3; exact h3) | (simpa using h3))]
      exact ⟨rfl, rfl⟩
    · conv => whnf
      rw [wrap_id (n := (i : Int) + 1) (by omega) (by omega)]
      exact hR (i + 1) ⟨by omega, by rw [hx, idxGo_no (z := FT.zero .span) hlt (by first | (simp only [keyEq] at h3; exact h3) | (simpa using h3))]⟩ (by omega)
  · conv => whnf
    rw [hx, idxGo_end (by simp at h2; omega)]
    exact ⟨rfl, rfl⟩
theorem ok_slices_IndexFunc_Span__impl_GiveBack_1 : FunOk Tryz.prog c_slices_IndexFunc_Span__impl_GiveBack_1 := funOk (E := [c_impl_GiveBack_1]) (envOk_cons ok_impl_GiveBack_1 (envOk_nil)) mixd Tryz.func40 (pf := pf_slices_IndexFunc_Span) (by kernel_rfl) fun ts K h => by
  obtain ⟨t0, t1, e0, h⟩ := as2_out h
  subst e0
  obtain ⟨xs, e1, hq⟩ := arC_out (rd_l .span) h
  clear h
  subst e1
  have h := hq
  clear hq
  obtain ⟨g, e1, hq⟩ := arF1_out (rd_int .i64) h
  clear h
  subst e1
  have h := hq
  clear hq
  obtain ⟨hpre, h⟩ := chk_o h
  exact ⟨_, _, h, Nat.le_of_ble_eq_true (show Nat.ble 2 Tryz.f40.ntmps = true by kernel_rfl), _, run_slices_IndexFunc_Span__impl_GiveBack_1 xs g hpre⟩

def lb_slices_Index_bool_0 : PC := .seq (.reg [.s (.bin 9 .lss (.t 8) (.t 7))]) (.seq (.cond (.t 9) (.skip) (.exit 0)) (.seq (.blk 1 (.seq (.reg [.s (.mv 10 (.t 8)), .s (.mv 5 (.t 10))]) (.seq (.reg [.s (.mv 11 (.t 1)), .s (.mv 12 (.t 0)), .s (.mv 13 (.t 5)), .s (.ia 14 .bool (.t 12) (.t 13)), .s (.load 15 false 1 (.t 14)), .s (.eqs 16 false [.b] false (.t 11) (.t 15))]) (.cond (.t 16) (.seq (.reg [.s (.mv 17 (.t 5)), .s (.mv 4 (.t 17))]) (.ret)) (.skip))))) (.reg [.s (.bin 18 .add (.t 8) (.k (.v (.c (.int .i64 1))))), .s (.mv 8 (.t 18))])))
def pf_slices_Index_bool : PF := ⟨[.t 4], .seq (.reg [.s (.mv 4 (.k (.v (.c (.int .i64 0)))))]) (.seq (.seq (.reg [.s (.mv 6 (.t 0)), .s (.len 7 false (.t 6)), .s (.mv 8 (.k (.v (.c (.int .i64 0)))))]) (.blk 0 (.loop [0, 1, 7, 8] lb_slices_Index_bool_0))) (.seq (.reg [.s (.mv 4 (.k (.v (.c (.int .i64 (-1))))))]) (.ret)))⟩
def c_slices_Index_bool : Fun := ⟨62, [], fun ts K => as2 ts fun t0 t1 => arC (pL .bool) t0 fun xs => arC pB t1 fun v => chk (xs.length ≤ 2147483647) (K (tN (idxOf (fun x => v == x) xs)) [])⟩
theorem run_slices_Index_bool (xs : List (FT.Ty .bool)) (v : Bool) (hpre : xs.length ≤ 2147483647) : runK [] (xs.length + 1) [] pf_slices_Index_bool [tL false .bool xs, tB v] fun r o => r = tN (idxOf (fun x => v == x) xs) ∧ o = [] := by
  conv => whnf
  refine loop (α := Nat) (fun i => ⟨[(0, .v (.c (.sl false .bool 0))), (1, .v (.c (.bool v))), (7, .v (.c (.int .i64 (xs.length : Int)))), (8, .v (.c (.int .i64 (i : Int))))], [(0, some (.flat false .bool none xs))], nums.tail, [], false, []⟩)
      (fun i => i ≤ xs.length ∧ idxOf (fun x => v == x) xs = idxGo (fun x => v == x) (xs.drop i) i) (fun i => xs.length - i) (fun i R hI hR => ?_) 0 _ ⟨by simp, rfl⟩ (by simp)
  obtain ⟨hi, hx⟩ := hI
  conv => whnf
  refine sel_i (fun h2 => ?_) (fun h2 => ?_)
  · have hlt : i < xs.length := by simp at h2; omega
    conv => whnf
    repeat (refine chk_i (by first | omega | (simp; omega)) ?_; conv => whnf)
    refine sel_i (fun h3 => ?_) (fun h3 => ?_)
    · conv => whnf
      rw [hx, idxGo_yes (z := FT.zero .bool) hlt h3]
      exact ⟨rfl, rfl⟩
    · conv => whnf
      rw [wrap_id (n := (i : Int) + 1) (by omega) (by omega)]
      exact hR (i + 1) ⟨by omega, by rw [hx, idxGo_no (z := FT.zero .bool) hlt h3]⟩ (by omega)
  · conv => whnf
    rw [hx, idxGo_end (by simp at h2; omega)]
    exact ⟨rfl, rfl⟩
theorem ok_slices_Index_bool : FunOk Tryz.prog c_slices_Index_bool := funOk (E := []) (envOk_nil) mixd Tryz.func62 (pf := pf_slices_Index_bool) (by kernel_rfl) fun ts K h => by
  obtain ⟨t0, t1, e0, h⟩ := as2_out h
  subst e0
  obtain ⟨xs, e1, hq⟩ := arC_out (rd_l .bool) h
  clear h
  subst e1
  have h := hq
  clear hq
  obtain ⟨v, e1, hq⟩ := arC_out rd_b h
  clear h
  subst e1
  have h := hq
  clear hq
  obtain ⟨hpre, h⟩ := chk_o h
  exact ⟨_, _, h, Nat.le_of_ble_eq_true (show Nat.ble 2 Tryz.f62.ntmps = true by kernel_rfl), _, run_slices_Index_bool xs v hpre⟩

def pf_slices_Contains_bool : PF := ⟨[.t 4], .seq (.reg [.s (.mv 4 (.k (.v (.c .ff))))]) (.seq (.reg [.s (.mv 5 (.t 0)), .s (.mv 6 (.t 1)), .s (.call (some 7) 62 [(.t 5), (.t 6)]), .s (.bin 8 .geq (.t 7) (.k (.v (.c (.int .i64 0))))), .s (.mv 4 (.t 8))]) (.ret))⟩
def c_slices_Contains_bool : Fun := ⟨30, [], fun ts K => as2 ts fun t0 t1 => arC (pL .bool) t0 fun xs => arC pB t1 fun v => chk (xs.length ≤ 2147483647) (K (tB (xs.any (fun x => v == x))) [])⟩
theorem run_slices_Contains_bool (xs : List (FT.Ty .bool)) (v : Bool) (hpre : xs.length ≤ 2147483647) : runK [c_slices_Index_bool] (0) [] pf_slices_Contains_bool [tL false .bool xs, tB v] fun r o => r = tB (xs.any (fun x => v == x)) ∧ o = [] := by
  conv => whnf
  repeat' (first | (refine sel_i (fun h => ?_) (fun h => ?_) <;> conv => whnf) | (refine chk_c ?_ ?_ <;> conv => whnf) | (refine And.intro ?_ rfl) | (refine And.intro ?_ ?_ <;> conv => whnf))
  all_goals first | (refine ⟨?_⟩; exact hpre) | exact hpre | (rw [← idxOf_any]; rfl) | (rw [← idxOf_any])
theorem ok_slices_Contains_bool : FunOk Tryz.prog c_slices_Contains_bool := funOk (E := [c_slices_Index_bool]) (envOk_cons ok_slices_Index_bool (envOk_nil)) mixd Tryz.func30 (pf := pf_slices_Contains_bool) (by kernel_rfl) fun ts K h => by
  obtain ⟨t0, t1, e0, h⟩ := as2_out h
  subst e0
  obtain ⟨xs, e1, hq⟩ := arC_out (rd_l .bool) h
  clear h
  subst e1
  have h := hq
  clear hq
  obtain ⟨v, e1, hq⟩ := arC_out rd_b h
  clear h
  subst e1
  have h := hq
  clear hq
  obtain ⟨hpre, h⟩ := chk_o h
  exact ⟨_, _, h, Nat.le_of_ble_eq_true (show Nat.ble 2 Tryz.f30.ntmps = true by kernel_rfl), _, run_slices_Contains_bool xs v hpre⟩

theorem win_over {α : Type} (s D Z : List α) (i k : Nat) (h : i ≤ s.length) (hk : k = i + D.length) : win (over (over s i D) k Z) 0 k = s.take i ++ D := by
  have e1 : (s.take i ++ D).length = k := by rw [List.length_append, List.length_take, Nat.min_eq_left h, hk]
  have e2 : (over s i D).take k = s.take i ++ D := by unfold over; exact List.take_left' e1
  unfold win
  rw [List.drop_zero]
  show ((over s i D).take k ++ Z ++ _).take k = _
  rw [e2, List.append_assoc, List.take_left' e1]

def pf_slices_Delete_Span : PF := ⟨[.t 6], .seq (.reg [.s (.mv 6 (.k (.v (.c (.nils .span)))))]) (.seq (.reg [.s (.mv 8 (.t 0)), .s (.mv 9 (.t 1)), .s (.mv 10 (.t 2)), .s (.mv 11 (.t 0)), .s (.len 12 false (.t 11)), .s (.slcu 13 .span (.t 8) (.t 9) (.t 10) (.t 12))]) (.seq (.seq (.reg [.s (.mv 14 (.t 1)), .s (.mv 15 (.t 2)), .s (.bin 16 .eql (.t 14) (.t 15))]) (.cond (.t 16) (.seq (.reg [.s (.mv 17 (.t 0)), .s (.mv 6 (.t 17))]) (.ret)) (.skip))) (.seq (.reg [.s (.mv 18 (.t 0)), .s (.len 19 false (.t 18)), .s (.mv 7 (.t 19))]) (.seq (.rgd [] [.s (.mv 20 (.t 0)), .s (.mv 21 (.t 1)), .s (.slc 22 .span (.t 20) none (some (.t 21))), .s (.mv 23 (.t 0)), .s (.mv 24 (.t 2)), .s (.slc 25 .span (.t 23) (some (.t 24)) none), .s (.appi 26 .span (.t 22) (.t 25)), .s (.mv 0 (.t 26))] (.tk 0 (.tk 1 (.tk 3 (.tk 4 (.alt 2 false (.one 5 true (.one 6 true (.tk 7 (.done (some [0, 7]))))) (.alt 5 false (.one 2 true (.one 6 true (.tk 7 (.done (some [0, 7]))))) (.nil)))))))) (.seq (.reg [.s (.mv 27 (.t 0)), .s (.mv 28 (.t 0)), .s (.len 29 false (.t 28)), .s (.mv 30 (.t 7)), .s (.slcb 31 .span (.t 27) (.t 29) (.t 30)), .s (.clr .span (.t 31))]) (.seq (.reg [.s (.mv 32 (.t 0)), .s (.mv 6 (.t 32))]) (.ret)))))))⟩
def c_slices_Delete_Span : Fun := ⟨42, [true, false, false], fun ts K => as3 ts fun t0 t1 t2 => arC (pO .span) t0 fun s => arC (pI .i64) t1 fun i => arC (pI .i64) t2 fun j => chk (0 ≤ i ∧ i < j ∧ j ≤ s.length ∧ s.length ≤ 2147483647) (K (tL true .span (s.take i.toNat ++ s.drop j.toNat)) ([.v (.c .unk)]))⟩
theorem run_slices_Delete_Span (s : List (FT.Ty .span)) (i : Int) (j : Int) (hpre : 0 ≤ i ∧ i < j ∧ j ≤ s.length ∧ s.length ≤ 2147483647) : runK [] (0) [true, false, false] pf_slices_Delete_Span [tL true .span s, tI .i64 i, tI .i64 j] fun r o => r = tL true .span (s.take i.toNat ++ s.drop j.toNat) ∧ o = [.v (.c .unk)] := by
  obtain ⟨h0, hij, hj, hs⟩ := hpre
  have hD : win s (0 + j.toNat) ((s.length : Int) - j).toNat = s.drop j.toNat := by unfold win; rw [Nat.zero_add, List.take_of_length_le (by rw [List.length_drop]; omega)]
  have hDl : (s.drop j.toNat).length = s.length - j.toNat := List.length_drop
  have hov : (over s (0 + i.toNat) (s.drop j.toNat)).length = s.length := by simp [over]; omega
  conv => whnf
  repeat' (first | (refine sel_i (fun h => ?_) (fun h => ?_) <;> conv => whnf) | (refine chk_c ?_ ?_ <;> conv => whnf) | (refine And.intro ?_ rfl) | (refine And.intro ?_ ?_ <;> conv => whnf))
  all_goals (try simp only [hD, hov, hDl] at *)
  all_goals first
    | trivial
    | (refine ⟨?_⟩; omega)
    | (refine ⟨?_⟩; refine ⟨by omega, by omega, by omega, by omega⟩)
    | (exfalso; simp at *; omega)
    | skip
  rw [Nat.zero_add, Nat.zero_add, Int.toNat_natCast, win_over _ _ _ _ _ (by omega) (by rw [List.length_drop])]
theorem ok_slices_Delete_Span : FunOk Tryz.prog c_slices_Delete_Span := funOk (E := []) (envOk_nil) mixd Tryz.func42 (pf := pf_slices_Delete_Span) (by kernel_rfl) fun ts K h => by
  obtain ⟨t0, t1, t2, e0, h⟩ := as3_out h
  subst e0
  obtain ⟨s, e1, hq⟩ := arC_out (rd_o .span) h
  clear h
  subst e1
  have h := hq
  clear hq
  obtain ⟨i, e1, hq⟩ := arC_out (rd_int .i64) h
  clear h
  subst e1
  have h := hq
  clear hq
  obtain ⟨j, e1, hq⟩ := arC_out (rd_int .i64) h
  clear h
  subst e1
  have h := hq
  clear hq
  obtain ⟨hpre, h⟩ := chk_o h
  exact ⟨_, _, h, Nat.le_of_ble_eq_true (show Nat.ble 3 Tryz.f42.ntmps = true by kernel_rfl), _, run_slices_Delete_Span s i j hpre⟩

def pf_impl_placed : PF := ⟨[.t 4], .seq (.reg [.s (.box 3 (.t 1)), .s (.mv 4 (.k (.v (.c (.nils .span)))))]) (.seq (.reg [.s (.mv 6 (.t 0)), .s (.mkf 7 63 [(.t 3)]), .s (.call (some 8) 40 [(.t 6), (.t 7)]), .s (.mv 5 (.t 8))]) (.seq (.seq (.reg [.s (.mv 9 (.t 5)), .s (.bin 10 .lss (.t 9) (.k (.v (.c (.int .i64 0)))))]) (.cond (.t 10) (.reg [.s (.mv 11 (.t 0)), .s (.len 12 false (.t 11)), .s (.mv 5 (.t 12))]) (.skip))) (.seq (.reg [.s (.mv 13 (.t 0)), .s (.mv 14 (.t 5)), .s (.load 15 true 2 (.t 3)), .s (.bs 16 .span [(.t 15)]), .s (.call (some 17) 64 [(.t 13), (.t 14), (.t 16)]), .s (.mv 4 (.t 17))]) (.ret))))⟩
def c_impl_placed : Fun := ⟨31, [true, false], fun ts K => as2 ts fun t0 t1 => arC (pO .span) t0 fun l => arG pSpanT t1 fun x => chk (l.length ≤ 1000000 ∧ ∀ s ∈ l, s.at_ ≠ x.at_) (K (tL true .span (putS l x)) ([.v (.c .unk)]))⟩
theorem run_impl_placed (l : List (FT.Ty .span)) (x : Span) (hpre : l.length ≤ 1000000 ∧ ∀ s ∈ l, s.at_ ≠ x.at_) : runK [c_slices_IndexFunc_Span__impl_placed_1, c_impl_placed_1, c_slices_Insert_Span] (0) [true, false] pf_impl_placed [tL true .span l, tG (x.tc [])] fun r o => r = tL true .span (putS l x) ∧ o = [.v (.c .unk)] := by
  obtain ⟨hl, hx⟩ := hpre
  have hc := idxOf_cases (fun y : Span => decide (y.at_ > x.at_)) (FT.zero .span) l
  have he := plc_end (l := l) (x := x) hx
  have ha := fun k => plc_at (l := l) (x := x) (k := k) hx
  conv => whnf
  repeat' (first | (refine sel_i (fun h => ?_) (fun h => ?_) <;> conv => whnf) | (refine chk_c ?_ ?_ <;> conv => whnf) | (refine And.intro ?_ rfl) | (refine And.intro ?_ ?_ <;> conv => whnf))
  all_goals (try simp only [etaSpan] at *)
  all_goals generalize idxOf (fun y : Span => decide (y.at_ > x.at_)) l = I at *
  all_goals (try have h := of_decide_eq_true h)
  all_goals (try have h := of_decide_eq_false h)
  all_goals first
    | (refine ⟨?_⟩; omega)
    | (refine ⟨?_⟩; exact ⟨by omega, by omega, hl, rfl⟩)
    | (refine ⟨?_⟩; rfl)
    | exact ⟨trivial⟩
    | skip
  · rcases hc with ⟨h1, h2⟩ | ⟨k, rfl, hk, h1, h2⟩
    · rw [he h2]
    · exfalso; omega
  · rcases hc with ⟨h1, h2⟩ | ⟨k, rfl, hk, h1, h2⟩
    · exfalso; omega
    · rw [ha k hk h1 h2]
theorem ok_impl_placed : FunOk Tryz.prog c_impl_placed := funOk (E := [c_slices_IndexFunc_Span__impl_placed_1, c_impl_placed_1, c_slices_Insert_Span]) (envOk_cons ok_slices_IndexFunc_Span__impl_placed_1 (envOk_cons ok_impl_placed_1 (envOk_cons ok_slices_Insert_Span (envOk_nil)))) mixd Tryz.func31 (pf := pf_impl_placed) (by kernel_rfl) fun ts K h => by
  obtain ⟨t0, t1, e0, h⟩ := as2_out h
  subst e0
  obtain ⟨l, e1, hq⟩ := arC_out (rd_o .span) h
  clear h
  subst e1
  have h := hq
  clear hq
  obtain ⟨x, e1, hq⟩ := arG_out rd_span h
  clear h
  subst e1
  have h := hq
  clear hq
  obtain ⟨hpre, h⟩ := chk_o h
  exact ⟨_, _, h, Nat.le_of_ble_eq_true (show Nat.ble 2 Tryz.f31.ntmps = true by kernel_rfl), _, run_impl_placed l x hpre⟩
end Go.Pi
