/- A call in PI is a call in the model: deep values out of the state, what is lent comes back. No conditions. -/
import Derived.Test.YtgpchgakonpcfaaGreatDoorPiSt
namespace Go.Pi
set_option linter.unusedVariables false
set_option linter.unusedSimpArgs false

def footOf (ρ : Map) (st : St) (b : Nat) : List Nat :=
  match st.hget b with
  | some B => match ρ b with | some l => B.foot l | none => []
  | none => []
def shwOf (ρ : Map) (st : St) (b : Nat) : List Nat :=
  match st.hget b with
  | some B => match ρ b with | some l => B.shw l | none => []
  | none => []
abbrev feet (ρ : Map) (st : St) (bs : List Nat) : List Nat := bs.flatMap (footOf ρ st)
abbrev shws (ρ : Map) (st : St) (bs : List Nat) : List Nat := bs.flatMap (shwOf ρ st)
theorem footOf_eq {ρ : Map} {st : St} {b : Nat} {B : Blk} {l : Loc} (h : st.hget b = some B) (hl : ρ b = some l) : footOf ρ st b = B.foot l := by simp [footOf, h, hl]
theorem shwOf_eq {ρ : Map} {st : St} {b : Nat} {B : Blk} {l : Loc} (h : st.hget b = some B) (hl : ρ b = some l) : shwOf ρ st b = B.shw l := by simp [shwOf, h, hl]
theorem footOf_mem {ρ : Map} {st : St} {b x : Nat} (h : x ∈ footOf ρ st b) : ∃ B l, st.hget b = some B ∧ ρ b = some l ∧ x ∈ B.foot l := by
  unfold footOf at h
  split at h
  · rename_i B hB
    split at h
    · rename_i l hl; exact ⟨B, l, hB, hl, h⟩
    · cases h
  · cases h
theorem shwOf_mem {ρ : Map} {st : St} {b x : Nat} (h : x ∈ shwOf ρ st b) : ∃ B l, st.hget b = some B ∧ ρ b = some l ∧ x ∈ B.shw l := by
  unfold shwOf at h
  split at h
  · rename_i B hB
    split at h
    · rename_i l hl; exact ⟨B, l, hB, hl, h⟩
    · cases h
  · cases h

theorem win_flats (τ : FT) (o n : Nat) (xs : List τ.Ty) : flats τ (win xs o n) = ((flats τ xs).drop (o * τ.sz)).take (n * τ.sz) := by
  have drop : ∀ (o : Nat) (xs : List τ.Ty), flats τ (xs.drop o) = (flats τ xs).drop (o * τ.sz) := by
    intro o
    induction o with
    | zero => intro xs; simp
    | succ o ih =>
      intro xs
      cases xs with
      | nil => simp [flats]
      | cons x xs =>
        have e : (o + 1) * τ.sz = τ.sz + o * τ.sz := by rw [Nat.succ_mul, Nat.add_comm]
        rw [List.drop_succ_cons, ih xs, e]
        simp only [flats, List.flatMap_cons]
        rw [← List.drop_drop, ← flat_length τ x, List.drop_left]
  have take : ∀ (n : Nat) (xs : List τ.Ty), flats τ (xs.take n) = (flats τ xs).take (n * τ.sz) := by
    intro n
    induction n with
    | zero => intro xs; simp [flats]
    | succ n ih =>
      intro xs
      cases xs with
      | nil => simp [flats]
      | cons x xs =>
        have e : (n + 1) * τ.sz = τ.sz + n * τ.sz := by rw [Nat.succ_mul, Nat.add_comm]
        rw [List.take_succ_cons, e]
        simp only [flats, List.flatMap_cons] at ih ⊢
        have hx : (τ.flat x).length = τ.sz := flat_length τ x
        rw [ih xs, List.take_append, hx, Nat.add_sub_cancel_left, List.take_of_length_le (l := τ.flat x) (by omega)]
  unfold win
  rw [take, drop]

section
variable {P : Program} {c : Ctx P} {ρ : Map} {Z Y : List Nat} {st : St} {w : World}

theorem BlkR.cap0 {rw : Bool} {τ : FT} {cap cap' : Option Nat} {xs : List τ.Ty} {l : Loc} (h : BlkR w ρ l (.flat rw τ cap xs)) (hc : ∀ n, cap' = some n → cap = some n) : BlkR w none0 l (.flat rw τ cap' xs) :=
  ⟨h.1, h.2.1, fun n hn => h.2.2.1 n (hc n hn), h.2.2.2.1, h.2.2.2.2⟩
theorem BlkR.weak {rw : Bool} {τ : FT} {cap : Option Nat} {xs : List τ.Ty} {l : Loc} (h : BlkR w ρ l (.flat rw τ cap xs)) : BlkR w none0 l (.flat false τ none xs) :=
  ⟨h.1, h.2.1, (fun n hn => by cases hn), h.2.2.2.1, fun e => by cases e⟩
theorem BlkR.win {rw : Bool} {τ : FT} {cap : Option Nat} {xs : List τ.Ty} {l : Loc} {o n : Nat} (h : BlkR w ρ l (.flat rw τ cap xs)) (hn : o + n ≤ l.len) (rw' : Bool) (hrw : rw' = true → rw = true) :
    BlkR w none0 ⟨l.blk, l.off + o * τ.sz, l.cap - o, n, []⟩ (.flat rw' τ none (Go.Pi.win xs o n)) := by
  obtain ⟨h1, h2, h3, h4, h5⟩ := h
  refine ⟨by simp only [Go.Pi.win, List.length_take, List.length_drop]; omega, by simp only; omega, (fun n hn => by cases hn), ?_, fun e => ?_⟩
  · rw [win_flats]; exact h4.sub _ _
  · have e2 : l.cap * τ.sz = o * τ.sz + (l.cap - o) * τ.sz := by rw [← Nat.add_mul]; congr 1; omega
    refine ⟨fun j hj => ?_, fun hp => ?_⟩
    · have hj' : j < (l.cap - o) * τ.sz := hj
      have := (h5 (hrw e)).1 (o * τ.sz + j) (by omega)
      rw [← Nat.add_assoc] at this
      exact this
    · have hp' : 0 < (l.cap - o) * τ.sz := hp
      have := (h5 (hrw e)).2 (by omega)
      rw [e2, ← Nat.add_assoc] at this
      exact this

structure Got (ρ : Map) (st : St) (own : Bool) (ids : List Nat) (F G : List Nat) : Prop where
  none : own = false → F = []
  sub : F.Sublist (feet ρ st ids)
  shw : ∀ g ∈ G, g ∈ shws ρ st ids ∨ (own = false ∧ g ∈ feet ρ st ids)
theorem Got.nil (ρ : Map) (st : St) (own : Bool) (ids : List Nat) : Got ρ st own ids [] [] := ⟨fun _ => rfl, List.nil_sublist _, fun _ h => by cases h⟩
theorem Got.append {own : Bool} {i1 i2 F1 F2 G1 G2 : List Nat} (h : Got ρ st own i1 F1 G1) (k : Got ρ st own i2 F2 G2) : Got ρ st own (i1 ++ i2) (F1 ++ F2) (G1 ++ G2) := by
  refine ⟨fun e => by rw [h.none e, k.none e]; rfl, ?_, fun g hg => ?_⟩
  · rw [feet, List.flatMap_append]; exact h.sub.append k.sub
  · rw [shws, feet, List.flatMap_append, List.flatMap_append, List.mem_append, List.mem_append]
    rcases List.mem_append.1 hg with hg | hg
    · rcases h.shw g hg with a | ⟨a, b⟩
      · exact .inl (.inl a)
      · exact .inr ⟨a, .inl b⟩
    · rcases k.shw g hg with a | ⟨a, b⟩
      · exact .inl (.inr a)
      · exact .inr ⟨a, .inr b⟩

theorem tc_out {own : Bool} {x : Cell} {v : Value} {k : TC → Prop} (h : HR c ρ Z Y st w) (hv : CellR ρ x v) (hk : tc own st x k) :
    ∃ t F G, k t ∧ RepTC w t v F G ∧ Got ρ st own (idC st x) F G := by
  cases x with
  | int kd n => exact ⟨.int kd n, [], [], hk, ⟨hv, rfl, rfl⟩, Got.nil _ _ _ _⟩
  | tt => exact ⟨.bool true, [], [], hk, ⟨hv, rfl, rfl⟩, Got.nil _ _ _ _⟩
  | ff => exact ⟨.bool false, [], [], hk, ⟨hv, rfl, rfl⟩, Got.nil _ _ _ _⟩
  | bool b => exact ⟨.bool b, [], [], hk, ⟨hv, rfl, rfl⟩, Got.nil _ _ _ _⟩
  | str s => exact ⟨.str s, [], [], hk, ⟨hv, rfl, rfl⟩, Got.nil _ _ _ _⟩
  | nilz τ => exact ⟨.nl τ, [], [], hk, ⟨hv, rfl, rfl⟩, Got.nil _ _ _ _⟩
  | nili => exact ⟨.nili, [], [], hk, ⟨hv, rfl, rfl⟩, Got.nil _ _ _ _⟩
  | ife => exact ⟨.ife, [], [], hk, ⟨hv, rfl, rfl⟩, Got.nil _ _ _ _⟩
  | unk => exact ⟨.unk, [], [], hk, ⟨hv, rfl, rfl⟩, Got.nil _ _ _ _⟩
  | nilp => exact ⟨.unk, [], [], hk, ⟨hv.one, rfl, rfl⟩, Got.nil _ _ _ _⟩
  | ptr b o => exact ⟨.unk, [], [], hk, ⟨hv.one, rfl, rfl⟩, Got.nil _ _ _ _⟩
  | eptr τ b i o => exact ⟨.unk, [], [], hk, ⟨hv.one, rfl, rfl⟩, Got.nil _ _ _ _⟩
  | rel τ b i j o => exact ⟨.unk, [], [], hk, ⟨CellR.one (c := .rel τ b i j o) hv, rfl, rfl⟩, Got.nil _ _ _ _⟩
  | rsl σ b i =>
    have hone := CellR.one (c := .rsl σ b i) hv
    obtain ⟨l, q, hl, hq, hrv⟩ := hv
    cases own with
    | true => exact ⟨.unk, [], [], hk, ⟨hone, rfl, rfl⟩, ⟨(fun e => by cases e), List.nil_sublist _, fun g hg => by cases hg⟩⟩
    | false =>
      simp only [tc] at hk
      cases hg : st.hget b with
      | none => rw [hg] at hk; exact ⟨.unk, [], [], hk, ⟨hone, rfl, rfl⟩, ⟨(fun _ => rfl), List.nil_sublist _, fun g hg => by cases hg⟩⟩
      | some B =>
        rw [hg] at hk
        have hid : idC st (.rsl σ b i) = [b] := by simp [idC, hg]
        rw [hid]
        cases B with
        | box rw cs => exact ⟨.unk, [], [], hk, ⟨hone, rfl, rfl⟩, ⟨(fun _ => rfl), List.nil_sublist _, fun g hg => by cases hg⟩⟩
        | flat rw σ cap xs => exact ⟨.unk, [], [], hk, ⟨hone, rfl, rfl⟩, ⟨(fun _ => rfl), List.nil_sublist _, fun g hg => by cases hg⟩⟩
        | rows rw τ xss =>
          obtain ⟨l', hl', hB⟩ := h.bk b _ hg
          rw [hl] at hl'
          injection hl' with hl'
          subst hl'
          obtain ⟨A, rfl, hle, hA0, hA1⟩ := hrv
          have hf : footOf ρ st b = (Blk.rows rw τ xss).foot l := footOf_eq hg hl
          have hsh : shwOf ρ st b = (Blk.rows rw τ xss).shw l := shwOf_eq hg hl
          obtain ⟨hi, c1, c2, c3, c4⟩ := all2_get (z := []) hB.2.2.2.1 hq
          refine ⟨.ro τ (xss.getD i []), [], (if 0 < q.len then [q.blk] else []), hk, ⟨⟨q.blk, q.off, q.cap, q.len, []⟩, A, ⟨rfl, hA0, hA1⟩, ⟨c1, c2, (fun n e => by cases e), c3, (fun e => by cases e)⟩, rfl, rfl⟩, ⟨(fun _ => rfl), List.nil_sublist _, fun g hy => ?_⟩⟩
          have hmem : q ∈ l.ins := List.mem_of_getElem? hq
          split at hy
          · rename_i hp
            simp at hy
            subst hy
            cases rw with
            | true =>
              refine .inr ⟨rfl, ?_⟩
              simp only [feet, List.flatMap_cons, List.flatMap_nil, List.append_nil, hf, Blk.foot, rowsFoot, rowFeet]
              exact List.mem_append_right _ (List.mem_flatMap.2 ⟨q, hmem, by rw [if_pos (by omega)]; simp⟩)
            | false =>
              refine .inl ?_
              simp only [shws, List.flatMap_cons, List.flatMap_nil, List.append_nil, hsh, Blk.shw, rowsShw, rowShws]
              exact List.mem_append_right _ (List.mem_flatMap.2 ⟨q, hmem, by rw [if_pos hp]; simp⟩)
          · cases hy
  | nils τ =>
    have hnil : SlV none ⟨0, 0, 0, 0, []⟩ v := ⟨hv, fun _ => rfl, fun h => by simp at h⟩
    have hb : ∀ rw, BlkR w none0 ⟨0, 0, 0, 0, []⟩ (.flat rw τ none ([] : List τ.Ty)) := fun rw => ⟨rfl, Nat.le_refl _, (fun n hn => by cases hn), Lie.nil _ _ _ _, fun _ => ⟨fun j hj => by simp at hj, fun h => by simp at h⟩⟩
    cases own with
    | true => exact ⟨.ow τ [], [], [], hk, ⟨_, _, hnil, hb true, rfl, rfl⟩, Got.nil _ _ _ _⟩
    | false => exact ⟨.ro τ [], [], [], hk, ⟨_, _, hnil, hb false, rfl, rfl⟩, Got.nil _ _ _ _⟩
  | sl nn τ b =>
    obtain ⟨l, A, hl, rfl, hle, h1, h2, h3⟩ := hv
    simp only [tc] at hk
    cases hg : st.hget b with
    | none => rw [hg] at hk; exact ⟨.unk, [], [], hk, ⟨rfl, rfl, rfl⟩, Got.nil _ _ _ _⟩
    | some B =>
      rw [hg] at hk
      obtain ⟨l', hl', hB⟩ := h.bk b B hg
      rw [hl] at hl'
      injection hl' with hl'
      subst hl'
      have hid : idC st (.sl nn τ b) = [b] := by simp [idC, hg]
      rw [hid]
      cases B with
      | box rw cs => exact ⟨.unk, [], [], hk, ⟨rfl, rfl, rfl⟩, Got.nil _ _ _ _⟩
      | flat rw σ cap xs =>
        have hs : SlV A l (.slice A l.len l.cap) := ⟨rfl, h1, h2⟩
        have hf : footOf ρ st b = (Blk.flat rw σ cap xs).foot l := footOf_eq hg hl
        have hsh : shwOf ρ st b = (Blk.flat rw σ cap xs).shw l := shwOf_eq hg hl
        cases own with
        | true =>
          cases rw with
          | true => exact ⟨.ow σ xs, _, [], hk, ⟨l, A, hs, hB.cap0 (fun n hn => by cases hn), rfl, rfl⟩, ⟨(fun e => by cases e), (by simp [feet, hf, Blk.foot]), fun g hg => (by cases hg)⟩⟩
          | false => exact ⟨.ro σ xs, [], _, hk, ⟨l, A, hs, hB.weak, rfl, rfl⟩, ⟨(fun e => by cases e), List.nil_sublist _, fun g hy => .inl (by simpa [shws, hsh, Blk.shw] using hy)⟩⟩
        | false =>
          refine ⟨.ro σ xs, [], _, hk, ⟨l, A, hs, hB.weak, rfl, rfl⟩, ⟨fun _ => rfl, List.nil_sublist _, fun g hy => ?_⟩⟩
          cases rw with
          | true =>
            refine .inr ⟨rfl, ?_⟩
            simp only [Blk.shw] at hy
            split at hy
            · simp only [feet, List.flatMap_cons, List.flatMap_nil, List.append_nil, hf, Blk.foot]
              rw [if_pos (by omega)]; exact hy
            · cases hy
          | false => exact .inl (by simpa [shws, hsh, Blk.shw] using hy)
      | rows rw σ xss =>
        have hs : SlV A l (.slice A l.len l.cap) := ⟨rfl, h1, h2⟩
        have hf : footOf ρ st b = (Blk.rows rw σ xss).foot l := footOf_eq hg hl
        have hsh : shwOf ρ st b = (Blk.rows rw σ xss).shw l := shwOf_eq hg hl
        cases own with
        | true =>
          cases rw with
          | true => exact ⟨.rows true σ xss, _, [], hk, ⟨l, A, hs, hB, rfl, rfl⟩, ⟨(fun e => by cases e), (by simp [feet, hf, Blk.foot]), fun g hg => (by cases hg)⟩⟩
          | false => exact ⟨.rows false σ xss, [], _, hk, ⟨l, A, hs, hB.rows_weak, rfl, rfl⟩, ⟨(fun e => by cases e), List.nil_sublist _, fun g hy => .inl (by simpa [shws, hsh, Blk.shw] using hy)⟩⟩
        | false =>
          refine ⟨.rows false σ xss, [], _, hk, ⟨l, A, hs, hB.rows_weak, rfl, rfl⟩, ⟨fun _ => rfl, List.nil_sublist _, fun g hy => ?_⟩⟩
          cases rw with
          | true =>
            refine .inr ⟨rfl, ?_⟩
            simp only [feet, List.flatMap_cons, List.flatMap_nil, List.append_nil, hf, Blk.foot]
            simp only [Blk.shw, rowsShw, rowShws] at hy
            simp only [rowsFoot, rowFeet]
            rcases List.mem_append.1 hy with hy | hy
            · refine List.mem_append_left _ ?_
              split at hy
              · rw [if_pos (by omega)]; exact hy
              · cases hy
            · obtain ⟨q, hq, hx⟩ := List.mem_flatMap.1 hy
              have hqc : q.len ≤ q.cap := by
                obtain ⟨i, hi⟩ := List.getElem?_of_mem hq
                exact (all2_get (z := []) hB.2.2.2.1 hi).2.2.1
              refine List.mem_append_right _ (List.mem_flatMap.2 ⟨q, hq, ?_⟩)
              split at hx
              · rw [if_pos (by omega)]; exact hx
              · cases hx
          | false => exact .inl (by simpa [shws, hsh, Blk.shw] using hy)
  | slp nn τ b o n =>
    obtain ⟨l, A, hl, rfl, hon, hle, h1, h2, h3⟩ := hv
    simp only [tc] at hk
    cases hg : st.hget b with
    | none => rw [hg] at hk; exact ⟨.unk, [], [], hk, ⟨rfl, rfl, rfl⟩, Got.nil _ _ _ _⟩
    | some B =>
      rw [hg] at hk
      obtain ⟨l', hl', hB⟩ := h.bk b B hg
      rw [hl] at hl'
      injection hl' with hl'
      subst hl'
      have hid : idC st (.slp nn τ b o n) = [b] := by simp [idC, hg]
      rw [hid]
      cases B with
      | box rw cs => exact ⟨.unk, [], [], hk, ⟨rfl, rfl, rfl⟩, Got.nil _ _ _ _⟩
      | rows rw σ xss => exact ⟨.unk, [], [], hk, ⟨rfl, rfl, rfl⟩, Got.nil _ _ _ _⟩
      | flat rw σ cap xs =>
        simp only at hk
        split at hk
        · rename_i he
          have he := ftEq_eq he
          subst he
          have hs : SlV A ⟨l.blk, l.off + o * τ.sz, l.cap - o, n, []⟩ (.slice A n (l.cap - o)) := ⟨rfl, h1, h2⟩
          have hf : footOf ρ st b = (Blk.flat rw τ cap xs).foot l := footOf_eq hg hl
          have hsh : shwOf ρ st b = (Blk.flat rw τ cap xs).shw l := shwOf_eq hg hl
          have ro : k (.ro τ (win xs o n)) → (own = true → rw = false) → ∃ t F G, k t ∧ RepTC w t (.slice A n (l.cap - o)) F G ∧ Got ρ st own [b] F G := fun hk hrw => by
            refine ⟨.ro τ (win xs o n), [], _, hk, ⟨_, A, hs, hB.win hon false (fun e => by cases e), rfl, rfl⟩, ⟨fun _ => rfl, List.nil_sublist _, fun g hy => ?_⟩⟩
            simp only [Blk.shw] at hy
            split at hy
            · cases rw with
              | true =>
                refine .inr ⟨?_, ?_⟩
                · cases own with
                  | true => exact absurd (hrw rfl) (by simp)
                  | false => rfl
                · simp only [feet, List.flatMap_cons, List.flatMap_nil, List.append_nil, hf, Blk.foot]
                  rw [if_pos (by omega)]; exact hy
              | false =>
                refine .inl ?_
                simp only [shws, List.flatMap_cons, List.flatMap_nil, List.append_nil, hsh, Blk.shw]
                rw [if_pos (by omega)]; exact hy
            · cases hy
          cases own with
          | true =>
            cases rw with
            | true =>
              refine ⟨.ow τ (win xs o n), _, [], hk, ⟨_, A, hs, hB.win hon true (fun _ => rfl), rfl, rfl⟩, ⟨(fun e => by cases e), ?_, fun g hg => (by cases hg)⟩⟩
              simp only [feet, List.flatMap_cons, List.flatMap_nil, List.append_nil, hf, Blk.foot]
              by_cases hc : 0 < l.cap - o
              · rw [if_pos hc, if_pos (by omega)]; exact List.Sublist.refl _
              · rw [if_neg hc]; exact List.nil_sublist _
            | false => exact ro hk (fun _ => rfl)
          | false => exact ro hk (fun e => by cases e)
        · exact hk.elim

theorem tcs_out {own : Bool} (h : HR c ρ Z Y st w) : ∀ {xs : List Cell} {vs : List Value} {k : List TC → Prop}, CellsR ρ xs vs → tcs own st xs k →
    ∃ ts F G, k ts ∧ RepTCs w ts vs F G ∧ Got ρ st own (idL st xs) F G ∧ ts.length = xs.length
  | [], [], k, _, hk => ⟨[], [], [], hk, ⟨rfl, rfl⟩, Got.nil _ _ _ _, rfl⟩
  | x :: xs, v :: vs, k, hv, hk => by
    obtain ⟨t, F1, G1, hk1, r1, g1⟩ := tc_out h hv.1 hk
    obtain ⟨ts, F2, G2, hk2, r2, g2, hlen⟩ := tcs_out h hv.2 hk1
    exact ⟨t :: ts, _, _, hk2, ⟨F1, F2, G1, G2, r1, r2, rfl, rfl⟩, g1.append g2, by simp [hlen]⟩
  | [], _ :: _, _, hv, _ => hv.elim
  | _ :: _, [], _, hv, _ => hv.elim

theorem t1_out {own : Bool} {x : V1} {v : Value} {k : T1 → Prop} (h : HR c ρ Z Y st w) (hv : V1R ρ x v) (hk : t1 own st x k) :
    ∃ t F G, k t ∧ RepT1 w t v F G ∧ Got ρ st own (id1 st x) F G := by
  cases x with
  | g cs =>
    obtain ⟨vs, rfl, hv⟩ := hv
    obtain ⟨ts, F, G, hk1, r, g, _⟩ := tcs_out h hv hk
    exact ⟨.g ts, F, G, hk1, ⟨vs, rfl, r⟩, g⟩
  | c x =>
    have plain : tc own st x (fun x => k (.c x)) → id1 st (.c x) = idC st x → ∃ t F G, k t ∧ RepT1 w t v F G ∧ Got ρ st own (id1 st (.c x)) F G := fun hk e => by
      obtain ⟨t, F, G, hk1, r, g⟩ := tc_out h hv hk
      exact ⟨.c t, F, G, hk1, r, e ▸ g⟩
    cases x with
    | ptr b off =>
      obtain ⟨l, hl, rfl⟩ := hv
      simp only [t1] at hk
      cases hg : st.hget b with
      | none => rw [hg] at hk; exact hk.elim
      | some B =>
        rw [hg] at hk
        obtain ⟨l', hl', hB⟩ := h.bk b B hg
        rw [hl] at hl'
        injection hl' with hl'
        subst hl'
        cases B with
        | flat rw τ cap xs => exact hk.elim
        | rows rw τ xss => exact hk.elim
        | box rw cs =>
          obtain ⟨⟨vs, hra, hcs⟩, hth⟩ := hB
          obtain ⟨ts, F, G, hk1, r, g, hlen⟩ := tcs_out h hcs hk
          have hid : id1 st (.c (.ptr b off)) = idL st cs ++ [b] := by simp [id1, hg]
          have hf : footOf ρ st b = (Blk.box rw cs).foot l := footOf_eq hg hl
          have hsh : shwOf ρ st b = (Blk.box rw cs).shw l := shwOf_eq hg hl
          have hlt : l.blk < w.heap.size := by
            have := h.ow _ _ _ hg hl
            cases rw with
            | true => exact (this.1 l.blk (by simp [Blk.foot])).1
            | false => exact (this.2 l.blk (by simp [Blk.shw])).1
          rw [hid]
          have ro : k (.ptr false off ts) → (own = true → rw = false) → ∃ t F G, k t ∧ RepT1 w t (.pointer (some ⟨l.blk, l.off + off, none⟩)) F G ∧ Got ρ st own (idL st cs ++ [b]) F G := fun hk hrw => by
            refine ⟨.ptr false off ts, _, _, hk, ⟨l.blk, l.off, vs, F, G, rfl, hra, r, hlt, (fun e => by cases e), rfl, rfl⟩, g.append ⟨fun _ => rfl, List.nil_sublist _, fun y hy => ?_⟩⟩
            simp at hy
            subst hy
            cases rw with
            | true =>
              refine .inr ⟨?_, by simp [feet, hf, Blk.foot]⟩
              cases own with
              | true => exact absurd (hrw rfl) (by simp)
              | false => rfl
            | false => exact .inl (by simp [shws, hsh, Blk.shw])
          cases own with
          | true =>
            cases rw with
            | true =>
              exact ⟨.ptr true off ts, _, _, hk1, ⟨l.blk, l.off, vs, F, G, rfl, hra, r, hlt, (fun e => by rw [hlen]; exact hth e), rfl, rfl⟩, g.append ⟨(fun e => by cases e), (by simp [feet, hf, Blk.foot]), fun y hy => (by simp at hy)⟩⟩
            | false => exact ro hk1 (fun _ => rfl)
          | false => exact ro hk1 (fun e => by cases e)
    | eptr τ b i o =>
      have hk0 : k (.c .unk) := hk
      exact ⟨.c .unk, [], [], hk0, ⟨CellR.one (c := .eptr τ b i o) hv, rfl, rfl⟩, Got.nil _ _ _ _⟩
    | int _ _ => exact plain hk rfl
    | tt => exact plain hk rfl
    | ff => exact plain hk rfl
    | bool _ => exact plain hk rfl
    | str _ => exact plain hk rfl
    | nilp => exact plain hk rfl
    | nils _ => exact plain hk rfl
    | nilz _ => exact plain hk rfl
    | sl _ _ _ => exact plain hk rfl
    | slp _ _ _ _ _ => exact plain hk rfl
    | rsl _ _ _ => exact plain hk rfl
    | rel τ b i j o =>
      have hk0 : k (.c .unk) := hk
      exact ⟨.c .unk, [], [], hk0, ⟨CellR.one (c := .rel τ b i j o) hv, rfl, rfl⟩, Got.nil _ _ _ _⟩
    | nili => exact plain hk rfl
    | ife => exact plain hk rfl
    | unk => exact plain hk rfl
theorem t1s_out {own : Bool} (h : HR c ρ Z Y st w) : ∀ {xs : List V1} {vs : List Value} {k : List T1 → Prop}, V1sR ρ xs vs → t1s own st xs k →
    ∃ ts F G, k ts ∧ RepT1s w ts vs F G ∧ Got ρ st own (id1s st xs) F G
  | [], [], k, _, hk => ⟨[], [], [], hk, ⟨rfl, rfl⟩, Got.nil _ _ _ _⟩
  | x :: xs, v :: vs, k, hv, hk => by
    obtain ⟨t, F1, G1, hk1, r1, g1⟩ := t1_out h hv.1 hk
    obtain ⟨ts, F2, G2, hk2, r2, g2⟩ := t1s_out h hv.2 hk1
    exact ⟨t :: ts, _, _, hk2, ⟨F1, F2, G1, G2, r1, r2, rfl, rfl⟩, g1.append g2⟩
  | [], _ :: _, _, hv, _ => hv.elim
  | _ :: _, [], _, hv, _ => hv.elim
theorem tr_out {own : Bool} {x : TV} {v : Value} {k : Tree → Prop} (h : HR c ρ Z Y st w) (hv : TVR ρ x v) (hk : tr own st x k) :
    ∃ t F G, k t ∧ RepT w t v F G ∧ Got ρ st own (idV st x) F G := by
  cases x with
  | v x =>
    have hk0 : t1 own st x (fun x => k (.v x)) := hk
    obtain ⟨t, F, G, hk1, r, g⟩ := t1_out h hv hk0
    exact ⟨.v t, F, G, hk1, r, g⟩
  | tup xs =>
    obtain ⟨vs, rfl, hv⟩ := hv
    obtain ⟨ts, F, G, hk1, r, g⟩ := t1s_out h hv hk
    exact ⟨.tup ts, F, G, hk1, ⟨vs, rfl, r⟩, g⟩
  | fn f xs =>
    obtain ⟨vs, rfl, hv⟩ := hv
    obtain ⟨ts, F, G, hk1, r, g⟩ := t1s_out h hv hk
    exact ⟨.fn f ts, F, G, hk1, ⟨vs, rfl, r⟩, g⟩
  | rows b f n =>
    obtain ⟨l, cc, hl, rfl, hc⟩ := hv
    cases own with
    | true => exact hk.elim
    | false =>
      cases f with
      | succ f => exact hk.elim
      | zero =>
      have hk0 : (match st.hget b with | some (.box _ cs) => tcs false st cs fun cs => k (.rows n cs) | _ => False) := hk
      cases hg : st.hget b with
      | none => rw [hg] at hk0; exact hk0.elim
      | some B =>
        rw [hg] at hk0
        cases B with
        | flat rw τ cap xs => exact hk0.elim
        | rows rw τ xss => exact hk0.elim
        | box rw cs =>
          obtain ⟨l', hl', hbk⟩ := h.bk _ _ hg
          rw [hl] at hl'; cases hl'
          obtain ⟨⟨vs, hra, hcs⟩, hth⟩ := hbk
          obtain ⟨ts, F, G, hk1, r, g, _⟩ := tcs_out h hcs hk0
          have hF : F = [] := g.none rfl
          subst hF
          have hid : idV st (.rows b 0 n) = idL st cs ++ [b] := by simp [idV, hg]
          rw [hid]
          have hlt : l.blk < w.heap.size := by
            obtain ⟨o1, o2⟩ := h.ow _ _ _ hg hl
            cases rw with
            | true => exact (o1 l.blk (by simp [Blk.foot])).1
            | false => exact (o2 l.blk (by simp [Blk.shw])).1
          refine ⟨.rows n ts, [], G ++ [l.blk], hk1, ⟨l.blk, l.off, cc, vs, G, rfl, hc, hra, r, hlt, rfl, rfl⟩, ?_⟩
          refine g.append (F2 := []) ⟨fun _ => rfl, List.nil_sublist _, fun y hy => ?_⟩
          simp at hy
          subst hy
          cases rw with
          | true => exact .inr ⟨rfl, by simp [feet, footOf, hg, hl, Blk.foot]⟩
          | false => exact .inl (by simp [shws, shwOf, hg, hl, Blk.shw])
  | unk => exact hk.elim

theorem trs_out (h : HR c ρ Z Y st w) : ∀ {m : List Bool} {xs : List TV} {vs : List Value} {k : List Tree → Prop}, TVsR ρ xs vs → trs st m xs k →
    ∃ ts F G, k ts ∧ RepTs w ts vs F G ∧ F.Sublist (feet ρ st (idVs st (lends m xs))) ∧
      (∀ g ∈ G, g ∈ shws ρ st (idVs st (lends m xs)) ∨ g ∈ shws ρ st (idVs st (keeps m xs)) ∨ g ∈ feet ρ st (idVs st (keeps m xs))) ∧ TVsR ρ (lends m xs) (lends m vs)
  | m, [], [], k, _, hk => by
    have hk : k [] := by cases m <;> exact hk
    exact ⟨[], [], [], hk, ⟨rfl, rfl⟩, List.nil_sublist _, (fun g hg => by cases hg), by cases m with
      | nil => exact trivial
      | cons b m => cases b <;> exact trivial⟩
  | [], x :: xs, v :: vs, k, hv, hk => by
    obtain ⟨t, F1, G1, hk1, r1, g1⟩ := tr_out h hv.1 hk
    obtain ⟨ts, F2, G2, hk2, r2, g2, g3, g4⟩ := trs_out h (m := []) hv.2 hk1
    refine ⟨t :: ts, F1 ++ F2, G1 ++ G2, hk2, ⟨F1, F2, G1, G2, r1, r2, rfl, rfl⟩, ?_, fun g hg => ?_, trivial⟩
    · rw [g1.none rfl]; exact g2
    · simp only [keeps, idVs, feet, shws, List.flatMap_append, List.mem_append]
      rcases List.mem_append.1 hg with hg | hg
      · rcases g1.shw g hg with a | ⟨_, a⟩
        · exact .inr (.inl (.inl a))
        · exact .inr (.inr (.inl a))
      · rcases g3 g hg with a | a | a
        · exact .inl a
        · exact .inr (.inl (.inr (by cases xs <;> exact a)))
        · exact .inr (.inr (.inr (by cases xs <;> exact a)))
  | true :: m, x :: xs, v :: vs, k, hv, hk => by
    obtain ⟨t, F1, G1, hk1, r1, g1⟩ := tr_out h hv.1 hk
    obtain ⟨ts, F2, G2, hk2, r2, g2, g3, g4⟩ := trs_out h (m := m) hv.2 hk1
    refine ⟨t :: ts, F1 ++ F2, G1 ++ G2, hk2, ⟨F1, F2, G1, G2, r1, r2, rfl, rfl⟩, ?_, fun g hg => ?_, ⟨hv.1, g4⟩⟩
    · simp only [lends, idVs, feet, List.flatMap_append]; exact g1.sub.append g2
    · simp only [lends, keeps, idVs, feet, shws, List.flatMap_append, List.mem_append]
      rcases List.mem_append.1 hg with hg | hg
      · rcases g1.shw g hg with a | ⟨e, _⟩
        · exact .inl (.inl a)
        · cases e
      · rcases g3 g hg with a | a | a
        · exact .inl (.inr a)
        · exact .inr (.inl a)
        · exact .inr (.inr a)
  | false :: m, x :: xs, v :: vs, k, hv, hk => by
    obtain ⟨t, F1, G1, hk1, r1, g1⟩ := tr_out h hv.1 hk
    obtain ⟨ts, F2, G2, hk2, r2, g2, g3, g4⟩ := trs_out h (m := m) hv.2 hk1
    refine ⟨t :: ts, F1 ++ F2, G1 ++ G2, hk2, ⟨F1, F2, G1, G2, r1, r2, rfl, rfl⟩, ?_, fun g hg => ?_, g4⟩
    · rw [g1.none rfl]; exact g2
    · simp only [lends, keeps, idVs, feet, shws, List.flatMap_append, List.mem_append]
      rcases List.mem_append.1 hg with hg | hg
      · rcases g1.shw g hg with a | ⟨_, a⟩
        · exact .inr (.inl (.inl a))
        · exact .inr (.inr (.inl a))
      · rcases g3 g hg with a | a | a
        · exact .inl a
        · exact .inr (.inl (.inr a))
        · exact .inr (.inr (.inr a))
  | _, [], _ :: _, _, hv, _ => hv.elim
  | _, _ :: _, [], _, hv, _ => hv.elim
end
end Go.Pi
