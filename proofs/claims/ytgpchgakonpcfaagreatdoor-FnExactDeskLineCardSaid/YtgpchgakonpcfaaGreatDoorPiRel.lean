/- What PI's abstract values stand for in the model's memory, and the lemmas on lists and cells that the soundness of PI leans on. No conditions. -/
import Derived.Test.YtgpchgakonpcfaaGreatDoorPiDef
import Derived.Deep.MidRow
import Derived.Deep.AppendSrc
import Derived.Below
import Derived.Deep.LoopGhost
namespace Go.Pi
set_option linter.unusedVariables false
set_option linter.unusedSimpArgs false

def All2 {α β : Type} (R : α → β → Prop) : List α → List β → Prop
  | [], [] => True
  | a :: as, b :: bs => R a b ∧ All2 R as bs
  | _, _ => False

section all2
variable {α β : Type} {R S : α → β → Prop}
theorem All2.mono (h : ∀ a b, R a b → S a b) : ∀ {as : List α} {bs : List β}, All2 R as bs → All2 S as bs
  | [], [], _ => trivial
  | _ :: _, _ :: _, ⟨h1, h2⟩ => ⟨h _ _ h1, All2.mono h h2⟩
  | [], _ :: _, h => h.elim
  | _ :: _, [], h => h.elim
theorem All2.length : ∀ {as : List α} {bs : List β}, All2 R as bs → as.length = bs.length
  | [], [], _ => rfl
  | _ :: _, _ :: _, ⟨_, h2⟩ => by simp [All2.length h2]
  | [], _ :: _, h => h.elim
  | _ :: _, [], h => h.elim
theorem All2.nil_left {bs : List β} (h : All2 R [] bs) : bs = [] := by cases bs <;> first | rfl | exact h.elim
theorem All2.cons_left {a : α} {as : List α} {bs : List β} (h : All2 R (a :: as) bs) : ∃ b bs', bs = b :: bs' ∧ R a b ∧ All2 R as bs' := by
  cases bs with
  | nil => exact h.elim
  | cons b bs => exact ⟨b, bs, rfl, h.1, h.2⟩
theorem All2.append : ∀ {as : List α} {bs : List β} {as' : List α} {bs' : List β}, All2 R as bs → All2 R as' bs' → All2 R (as ++ as') (bs ++ bs')
  | [], [], _, _, _, h => h
  | _ :: _, _ :: _, _, _, ⟨h1, h2⟩, h => ⟨h1, All2.append h2 h⟩
  | [], _ :: _, _, _, h, _ => h.elim
  | _ :: _, [], _, _, h, _ => h.elim
theorem All2.drop : ∀ (n : Nat) {as : List α} {bs : List β}, All2 R as bs → All2 R (as.drop n) (bs.drop n)
  | 0, _, _, h => h
  | _ + 1, [], [], h => h
  | n + 1, _ :: _, _ :: _, ⟨_, h2⟩ => All2.drop n h2
  | _ + 1, [], _ :: _, h => h.elim
  | _ + 1, _ :: _, [], h => h.elim
theorem All2.take : ∀ (n : Nat) {as : List α} {bs : List β}, All2 R as bs → All2 R (as.take n) (bs.take n)
  | 0, _, _, _ => trivial
  | _ + 1, [], [], _ => trivial
  | n + 1, _ :: _, _ :: _, ⟨h1, h2⟩ => ⟨h1, All2.take n h2⟩
  | _ + 1, [], _ :: _, h => h.elim
  | _ + 1, _ :: _, [], h => h.elim
theorem All2.get : ∀ {as : List α} {bs : List β} {i : Nat} {a : α}, All2 R as bs → as[i]? = some a → ∃ b, bs[i]? = some b ∧ R a b
  | _ :: _, b :: _, 0, _, ⟨h1, _⟩, h => by simp at h; subst h; exact ⟨b, by simp, h1⟩
  | _ :: _, _ :: _, i + 1, _, ⟨_, h2⟩, h => by simpa using All2.get (i := i) h2 (by simpa using h)
  | [], [], _, _, _, h => by simp at h
  | [], _ :: _, _, _, h, _ => h.elim
  | _ :: _, [], _, _, h, _ => h.elim
theorem All2.mem_right : ∀ {as : List α} {bs : List β} {b : β}, All2 R as bs → b ∈ bs → ∃ a, a ∈ as ∧ R a b
  | a :: _, _ :: _, _, ⟨h1, h2⟩, h => by
    rcases List.mem_cons.1 h with rfl | h
    · exact ⟨a, by simp, h1⟩
    · obtain ⟨x, hx, hr⟩ := All2.mem_right h2 h
      exact ⟨x, by simp [hx], hr⟩
  | [], [], _, _, h => by simp at h
  | [], _ :: _, _, h, _ => h.elim
  | _ :: _, [], _, h, _ => h.elim
end all2

theorem ikEq_eq {a b : IntKind} (h : ikEq a b = true) : a = b := by cases a <;> cases b <;> first | rfl | cases h
theorem ftEq_eq {a b : FT} (h : ftEq a b = true) : a = b := by
  cases a <;> cases b <;> first | rfl | (rw [ikEq_eq h]) | cases h
theorem aget_cons {α : Type} (j : Nat) (v : α) (r : List (Nat × α)) (i : Nat) : aget ((j, v) :: r) i = if i = j then some v else aget r i := by
  simp only [aget]
  by_cases h : i = j
  · subst h; simp
  · have : Nat.beq i j = false := by
      cases hb : Nat.beq i j with
      | false => rfl
      | true => exact absurd (Nat.eq_of_beq_eq_true hb) h
    simp [this, h]
theorem castF_out {σ τ : FT} {xs : List σ.Ty} {f : List τ.Ty → Prop} (h : castF σ τ xs f) : ∃ e : σ = τ, f (e ▸ xs) := by
  cases σ <;> cases τ <;> first
    | exact ⟨rfl, h⟩
    | exact h.elim
    | (rename_i j k
       simp only [castF] at h
       split at h
       · rename_i hb
         have := ikEq_eq hb
         subst this
         exact ⟨rfl, h⟩
       · exact h.elim)
theorem mem_iff (x : Nat) : ∀ l : List Nat, mem x l = true ↔ x ∈ l
  | [] => by simp [mem]
  | y :: ys => by
    simp only [mem, List.mem_cons]
    cases hb : Nat.beq x y with
    | true => simp [Nat.eq_of_beq_eq_true hb]
    | false => simp [mem_iff x ys, show x ≠ y from fun e => by subst e; simp at hb]
theorem mem_false (x : Nat) (l : List Nat) : mem x l = false ↔ x ∉ l := by
  rw [← mem_iff x l]; cases mem x l <;> simp
theorem nodup_iff : ∀ l : List Nat, nodup l = true ↔ l.Nodup
  | [] => by simp [nodup]
  | x :: xs => by
    simp only [nodup, List.nodup_cons]
    cases h : mem x xs with
    | true => simp [(mem_iff x xs).1 h]
    | false => simp [nodup_iff xs, (mem_false x xs).1 h]
theorem disj_iff : ∀ (l m : List Nat), disj l m = true ↔ ∀ x ∈ l, x ∉ m
  | [], m => by simp [disj]
  | x :: xs, m => by
    simp only [disj]
    cases h : mem x m with
    | true => simp [(mem_iff x m).1 h]
    | false => simp [disj_iff xs m, (mem_false x m).1 h]

structure RLoc where
  blk : Nat
  off : Nat
  cap : Nat
  len : Nat
structure Loc where
  blk : Nat
  off : Nat
  cap : Nat
  len : Nat
  ins : List RLoc
def RowV (q : RLoc) (v : Value) : Prop := ∃ A, v = .slice A q.len q.cap ∧ q.len ≤ q.cap ∧ (A = none → q.cap = 0) ∧ (0 < q.cap → A = some ⟨q.blk, q.off, none⟩)
abbrev Map := Nat → Option Loc
def Map.le (ρ ρ' : Map) : Prop := ∀ b l, ρ b = some l → ρ' b = some l
theorem Map.le_refl (ρ : Map) : ρ.le ρ := fun _ _ h => h
theorem Map.le_trans {a b c : Map} (h : a.le b) (k : b.le c) : a.le c := fun x l hx => k x l (h x l hx)
def Map.add (ρ : Map) (b : Nat) (l : Loc) : Map := fun x => if x = b then some l else ρ x
theorem Map.le_add {ρ : Map} {b : Nat} (l : Loc) (h : ρ b = none) : ρ.le (ρ.add b l) := fun x m hx => by
  unfold Map.add
  split
  · rename_i e; subst e; rw [h] at hx; cases hx
  · exact hx
theorem Map.add_same (ρ : Map) (b : Nat) (l : Loc) : ρ.add b l b = some l := by simp [Map.add]
theorem Map.add_other (ρ : Map) {b x : Nat} (l : Loc) (h : x ≠ b) : ρ.add b l x = ρ x := by simp [Map.add, h]
def none0 : Map := fun _ => none
theorem none0_le (ρ : Map) : none0.le ρ := fun _ _ h => by cases h

def CellR (ρ : Map) : Cell → Value → Prop
  | .int k n, v => v = .int k n
  | .tt, v => v = .bool true
  | .ff, v => v = .bool false
  | .bool b, v => v = .bool b
  | .str s, v => v = .string s
  | .nilp, v => v = .pointer none
  | .ptr b c, v => ∃ l, ρ b = some l ∧ v = .pointer (some ⟨l.blk, l.off + c, none⟩)
  | .eptr τ b i c, v => ∃ l, ρ b = some l ∧ v = .pointer (some ⟨l.blk, l.off + i * τ.sz + c, none⟩)
  | .nils _, v => v = .slice none 0 0
  | .nilz _, v => v = .slice none 0 0
  | .sl nn _ b, v => ∃ l A, ρ b = some l ∧ v = .slice A l.len l.cap ∧ l.len ≤ l.cap ∧ (A = none → l.cap = 0) ∧ (0 < l.cap → A = some ⟨l.blk, l.off, none⟩) ∧ (nn = true → A ≠ none)
  | .slp nn τ b o n, v => ∃ l A, ρ b = some l ∧ v = .slice A n (l.cap - o) ∧ o + n ≤ l.len ∧ l.len ≤ l.cap ∧ (A = none → l.cap - o = 0) ∧
      (0 < l.cap - o → A = some ⟨l.blk, l.off + o * τ.sz, none⟩) ∧ (nn = true → A ≠ none)
  | .rsl _ b i, v => ∃ l q, ρ b = some l ∧ l.ins[i]? = some q ∧ RowV q v
  | .rel τ b i j c, v => ∃ l q, ρ b = some l ∧ l.ins[i]? = some q ∧ v = .pointer (some ⟨q.blk, q.off + j * τ.sz + c, none⟩)
  | .nili, v => v = .nilIface
  | .ife, v => ∃ t p, v = .iface t p
  | .unk, v => v.oneCell' = true
theorem CellR.one {ρ : Map} {c : Cell} {v : Value} (h : CellR ρ c v) : v.oneCell' = true := by
  cases c <;> simp only [CellR] at h <;> first
    | (subst h; rfl) | exact h
    | (obtain ⟨_, _, rfl⟩ := h; rfl)
    | (obtain ⟨_, _, _, _, rfl⟩ := h; rfl)
    | (obtain ⟨_, _, _, rfl, _⟩ := h; rfl)
    | (obtain ⟨_, _, _, _, _, rfl, _⟩ := h; rfl)
theorem CellR.mono {ρ ρ' : Map} (hl : ρ.le ρ') {c : Cell} {v : Value} (h : CellR ρ c v) : CellR ρ' c v := by
  cases c <;> simp only [CellR] at h ⊢ <;> first
    | exact h
    | (obtain ⟨l, h1, h2⟩ := h; exact ⟨l, hl _ _ h1, h2⟩)
    | (obtain ⟨l, A, h1, h2⟩ := h; exact ⟨l, A, hl _ _ h1, h2⟩)
abbrev CellsR (ρ : Map) : List Cell → List Value → Prop := All2 (CellR ρ)
theorem CellsR.mono {ρ ρ' : Map} (hl : ρ.le ρ') {cs : List Cell} {vs : List Value} (h : CellsR ρ cs vs) : CellsR ρ' cs vs := All2.mono (fun _ _ => CellR.mono hl) h
theorem CellsR.one {ρ : Map} {cs : List Cell} {vs : List Value} (h : CellsR ρ cs vs) : ∀ v ∈ vs, v.oneCell' = true := fun v hv => by
  obtain ⟨c, _, hr⟩ := All2.mem_right h hv
  exact hr.one

def V1R (ρ : Map) : V1 → Value → Prop
  | .c x, v => CellR ρ x v
  | .g cs, v => ∃ vs : List Value, v = .agg vs.toArray ∧ CellsR ρ cs vs
abbrev V1sR (ρ : Map) : List V1 → List Value → Prop := All2 (V1R ρ)
def TVR (ρ : Map) : TV → Value → Prop
  | .v x, v => V1R ρ x v
  | .tup xs, v => ∃ vs : List Value, v = .tuple vs.toArray ∧ V1sR ρ xs vs
  | .fn f xs, v => ∃ vs : List Value, v = .func (.func f) #[] vs.toArray ∧ V1sR ρ xs vs
  | .rows b f n, v => ∃ l c, ρ b = some l ∧ v = .slice (some ⟨l.blk, l.off + f, none⟩) n c ∧ n ≤ c
  | .unk, _ => True
abbrev TVsR (ρ : Map) : List TV → List Value → Prop := All2 (TVR ρ)
theorem V1R.mono {ρ ρ' : Map} (hl : ρ.le ρ') {c : V1} {v : Value} (h : V1R ρ c v) : V1R ρ' c v := by
  cases c with
  | c x => exact CellR.mono hl h
  | g cs => obtain ⟨vs, h1, h2⟩ := h; exact ⟨vs, h1, CellsR.mono hl h2⟩
theorem V1sR.mono {ρ ρ' : Map} (hl : ρ.le ρ') {cs : List V1} {vs : List Value} (h : V1sR ρ cs vs) : V1sR ρ' cs vs := All2.mono (fun _ _ => V1R.mono hl) h
theorem TVR.mono {ρ ρ' : Map} (hl : ρ.le ρ') {c : TV} {v : Value} (h : TVR ρ c v) : TVR ρ' c v := by
  cases c with
  | v x => exact V1R.mono hl h
  | tup cs => obtain ⟨vs, h1, h2⟩ := h; exact ⟨vs, h1, V1sR.mono hl h2⟩
  | fn f cs => obtain ⟨vs, h1, h2⟩ := h; exact ⟨vs, h1, V1sR.mono hl h2⟩
  | rows b f n => obtain ⟨l, c, h1, h2, h3⟩ := h; exact ⟨l, c, hl _ _ h1, h2, h3⟩
  | unk => trivial
theorem TVsR.mono {ρ ρ' : Map} (hl : ρ.le ρ') {cs : List TV} {vs : List Value} (h : TVsR ρ cs vs) : TVsR ρ' cs vs := All2.mono (fun _ _ => TVR.mono hl) h

def Lie (w : World) (ρ : Map) (b o : Nat) (cs : List Cell) : Prop := ∃ vs, w.rangeAt b o vs ∧ CellsR ρ cs vs
theorem Lie.mono {w : World} {ρ ρ' : Map} {b o : Nat} {cs : List Cell} (hl : ρ.le ρ') (h : Lie w ρ b o cs) : Lie w ρ' b o cs := by
  obtain ⟨vs, h1, h2⟩ := h; exact ⟨vs, h1, h2.mono hl⟩
theorem rangeAt_sub {w : World} {b o n m : Nat} {vs : List Value} (h : w.rangeAt b o vs) : w.rangeAt b (o + n) ((vs.drop n).take m) := fun j v hj => by
  rw [List.getElem?_take] at hj
  split at hj
  · rw [List.getElem?_drop] at hj
    rw [Nat.add_assoc]; exact h _ _ hj
  · cases hj
theorem Lie.sub {w : World} {ρ : Map} {b o : Nat} {cs : List Cell} (n m : Nat) (h : Lie w ρ b o cs) : Lie w ρ b (o + n) ((cs.drop n).take m) := by
  obtain ⟨vs, h1, h2⟩ := h
  exact ⟨_, rangeAt_sub h1, All2.take m (All2.drop n h2)⟩
theorem rangeAt_block {w w' : World} {b o : Nat} {vs : List Value} (hb : w'.heap[b]? = w.heap[b]?) (h : w.rangeAt b o vs) : w'.rangeAt b o vs := fun j v hj => by
  rw [World.cell?_of_block (w := w) hb]; exact h j v hj
theorem Lie.block {w w' : World} {ρ : Map} {b o : Nat} {cs : List Cell} (hb : w'.heap[b]? = w.heap[b]?) (h : Lie w ρ b o cs) : Lie w' ρ b o cs := by
  obtain ⟨vs, h1, h2⟩ := h; exact ⟨vs, rangeAt_block hb h1, h2⟩
theorem there_block {w w' : World} {b o n : Nat} (hb : w'.heap[b]? = w.heap[b]?) (h : w.there b o n) : w'.there b o n := fun j hj => by
  rw [World.cell?_of_block (w := w) hb, World.frozen?_of_block (w := w) hb]; exact h j hj
theorem Lie.nil (w : World) (ρ : Map) (b o : Nat) : Lie w ρ b o [] := ⟨[], fun j v h => by simp at h, trivial⟩
theorem Lie.lt {w : World} {ρ : Map} {b o : Nat} {cs : List Cell} (h : Lie w ρ b o cs) (hn : cs ≠ []) : b < w.heap.size := by
  obtain ⟨vs, h1, h2⟩ := h
  cases cs with
  | nil => exact absurd rfl hn
  | cons c cs =>
    obtain ⟨v, vs, rfl, _, _⟩ := All2.cons_left h2
    exact World.block_lt_of_cell? w _ (h1 0 v rfl)

def Unbar (w : World) (b m : Nat) (u : Bool) : Prop := ∀ c e lo hi, w.heap[b]? = some (.cells c e (lo, hi)) → lo = hi ∨ (u = true ∧ m ≤ lo)
theorem Unbar.le {w : World} {b m m' : Nat} {u : Bool} (h : Unbar w b m u) (hm : m' ≤ m) : Unbar w b m' u := fun c e lo hi hh => by
  rcases h c e lo hi hh with h | h
  · exact .inl h
  · exact .inr ⟨h.1, by omega⟩
def Ther (w : World) (b o n : Nat) (u : Bool) : Prop := w.there b o n ∧ (0 < n → Unbar w b (o + n) u)
theorem Unbar.block {w w' : World} {b m : Nat} {u : Bool} (hb : w'.heap[b]? = w.heap[b]?) (h : Unbar w b m u) : Unbar w' b m u := fun c e lo hi hh => h c e lo hi (by rw [← hb]; exact hh)
theorem Ther.block {w w' : World} {b o n : Nat} {u : Bool} (hb : w'.heap[b]? = w.heap[b]?) (h : Ther w b o n u) : Ther w' b o n u := ⟨there_block hb h.1, fun hn => (h.2 hn).block hb⟩
def FT.u8 : FT → Bool
  | .int .u8 => true | _ => false
def Blk.rw : Blk → Bool
  | .box rw _ => rw | .flat rw _ _ _ => rw | .rows rw _ _ => rw
def Blk.occ : Blk → Loc → Prop
  | .box _ _, _ => True
  | .flat true _ _ _, l => 0 < l.cap
  | .flat false _ _ _, l => 0 < l.len
  | .rows _ _ _, _ => False
def flats (τ : FT) (xs : List τ.Ty) : List Cell := xs.flatMap τ.flat
def RowR (w : World) (rw : Bool) (τ : FT) (q : RLoc) (xs : List τ.Ty) : Prop :=
  q.len = xs.length ∧ q.len ≤ q.cap ∧ Lie w none0 q.blk q.off (flats τ xs) ∧ (rw = true → Ther w q.blk q.off (q.cap * τ.sz) τ.u8)
def rowFeet (ins : List RLoc) : List Nat := ins.flatMap fun q => if 0 < q.cap then [q.blk] else []
def rowShws (ins : List RLoc) : List Nat := ins.flatMap fun q => if 0 < q.len then [q.blk] else []
def rowsFoot (l : Loc) : List Nat := (if 0 < l.cap then [l.blk] else []) ++ rowFeet l.ins
def rowsShw (l : Loc) : List Nat := (if 0 < l.len then [l.blk] else []) ++ rowShws l.ins
def BlkR (w : World) (ρ : Map) (l : Loc) : Blk → Prop
  | .box rw cs => Lie w ρ l.blk l.off cs ∧ (rw = true → w.there l.blk l.off cs.length)
  | .flat rw τ cap xs => l.len = xs.length ∧ l.len ≤ l.cap ∧ (∀ c, cap = some c → l.cap = c) ∧ Lie w none0 l.blk l.off (flats τ xs) ∧ (rw = true → Ther w l.blk l.off (l.cap * τ.sz) τ.u8)
  | .rows rw τ xss => l.len = xss.length ∧ l.len ≤ l.cap ∧ (∃ vs, w.rangeAt l.blk l.off vs ∧ All2 RowV l.ins vs) ∧ All2 (RowR w rw τ) l.ins xss ∧
      (rw = true → Ther w l.blk l.off l.cap false ∧ (rowsFoot l).Nodup)
theorem BlkR.mono {w : World} {ρ ρ' : Map} {l : Loc} {B : Blk} (hl : ρ.le ρ') (h : BlkR w ρ l B) : BlkR w ρ' l B := by
  cases B with
  | box rw cs => exact ⟨h.1.mono hl, h.2⟩
  | flat rw τ cap xs => exact h
  | rows rw τ xss => exact h
theorem flat_length : ∀ (τ : FT) (x : τ.Ty), (τ.flat x).length = τ.sz := fun τ x => by
  cases τ <;> rfl
theorem flats_length (τ : FT) : ∀ xs : List τ.Ty, (flats τ xs).length = xs.length * τ.sz
  | [] => by simp [flats]
  | x :: xs => by
    have := flats_length τ xs
    unfold flats at *
    rw [List.flatMap_cons, List.length_append, flat_length, this, List.length_cons, Nat.succ_mul, Nat.add_comm]
theorem sz_pos (τ : FT) : 0 < τ.sz := by cases τ <;> simp [FT.sz]
theorem BlkR.block {w w' : World} {ρ : Map} {l : Loc} {B : Blk} (hnr : ∀ rw τ xss, B ≠ .rows rw τ xss) (hb : B.occ l → w'.heap[l.blk]? = w.heap[l.blk]?) (h : BlkR w ρ l B) : BlkR w' ρ l B := by
  cases B with
  | rows rw τ xss => exact absurd rfl (hnr rw τ xss)
  | box rw cs => exact ⟨h.1.block (hb trivial), fun hr => there_block (hb trivial) (h.2 hr)⟩
  | flat rw τ cap xs =>
    obtain ⟨h1, h2, h3, h4, h5⟩ := h
    refine ⟨h1, h2, h3, ?_, fun hr => ?_⟩
    · by_cases hn : 0 < l.len
      · exact h4.block (hb (by cases rw with | true => exact Nat.lt_of_lt_of_le hn h2 | false => exact hn))
      · have : xs = [] := List.eq_nil_of_length_eq_zero (by omega)
        subst this; exact Lie.nil _ _ _ _
    · subst hr
      by_cases hn : 0 < l.cap
      · exact (h5 rfl).block (hb hn)
      · have : l.cap = 0 := by omega
        rw [this]; exact ⟨fun j hj => by simp at hj, fun h => by simp at h⟩

theorem RowR.block {w w' : World} {rw : Bool} {τ : FT} {q : RLoc} {xs : List τ.Ty} (hb : (0 < if rw = true then q.cap else q.len) → w'.heap[q.blk]? = w.heap[q.blk]?) (h : RowR w rw τ q xs) : RowR w' rw τ q xs := by
  obtain ⟨h1, h2, h4, h5⟩ := h
  refine ⟨h1, h2, ?_, fun hr => ?_⟩
  · by_cases hn : 0 < q.len
    · exact h4.block (hb (by split <;> omega))
    · have : xs = [] := List.eq_nil_of_length_eq_zero (by omega)
      subst this; exact Lie.nil _ _ _ _
  · subst hr
    by_cases hn : 0 < q.cap
    · exact (h5 rfl).block (hb (by simpa using hn))
    · have : q.cap = 0 := by omega
      rw [this]; exact ⟨fun j hj => by simp at hj, fun h => by simp at h⟩
theorem RowR.weak {w : World} {rw : Bool} {τ : FT} {q : RLoc} {xs : List τ.Ty} (h : RowR w rw τ q xs) : RowR w false τ q xs := ⟨h.1, h.2.1, h.2.2.1, fun e => by cases e⟩
theorem all2_mem {α β : Type} {R S : α → β → Prop} : ∀ {as : List α} {bs : List β}, (∀ a ∈ as, ∀ b, R a b → S a b) → All2 R as bs → All2 S as bs
  | [], [], _, _ => trivial
  | a :: as, b :: bs, h, ⟨h1, h2⟩ => ⟨h a (by simp) b h1, all2_mem (fun a ha => h a (List.mem_cons_of_mem _ ha)) h2⟩
  | [], _ :: _, _, h => h.elim
  | _ :: _, [], _, h => h.elim
theorem BlkR.rows_block {w w' : World} {ρ : Map} {l : Loc} {rw : Bool} {τ : FT} {xss : List (List τ.Ty)} (hb : ∀ x, x ∈ (if rw = true then rowsFoot l else rowsShw l) → w'.heap[x]? = w.heap[x]?) (h : BlkR w ρ l (.rows rw τ xss)) : BlkR w' ρ l (.rows rw τ xss) := by
  obtain ⟨h1, h2, ⟨vs, h3, h3'⟩, h4, h5⟩ := h
  have hlen := h4.length
  have hlv := h3'.length
  refine ⟨h1, h2, ⟨vs, ?_, h3'⟩, all2_mem (fun q hq xs hr => hr.block fun hp => hb _ ?_) h4, fun hr => ⟨?_, (h5 hr).2⟩⟩
  · by_cases hn : 0 < l.len
    · refine rangeAt_block (hb _ ?_) h3
      cases rw with
      | true => simp only [if_true, rowsFoot]; exact List.mem_append_left _ (by rw [if_pos (by omega)]; simp)
      | false => simp only [Bool.false_eq_true, if_false, rowsShw]; exact List.mem_append_left _ (by rw [if_pos hn]; simp)
    · have : vs = [] := List.eq_nil_of_length_eq_zero (by omega)
      subst this; exact fun j v hj => by simp at hj
  · subst hr
    by_cases hn : 0 < l.cap
    · exact (h5 rfl).1.block (hb _ (by simp only [if_true, rowsFoot]; exact List.mem_append_left _ (by rw [if_pos hn]; simp)))
    · have : l.cap = 0 := by omega
      rw [this]; exact ⟨fun j hj => by simp at hj, fun h => by simp at h⟩
  · cases rw with
    | true => simp only [if_true, rowsFoot] at hp ⊢; exact List.mem_append_right _ (List.mem_flatMap.2 ⟨q, hq, by rw [if_pos hp]; simp⟩)
    | false => simp only [Bool.false_eq_true, if_false, rowsShw] at hp ⊢; exact List.mem_append_right _ (List.mem_flatMap.2 ⟨q, hq, by rw [if_pos hp]; simp⟩)
theorem BlkR.rows_weak {w : World} {ρ : Map} {l : Loc} {rw : Bool} {τ : FT} {xss : List (List τ.Ty)} (h : BlkR w ρ l (.rows rw τ xss)) : BlkR w none0 l (.rows false τ xss) :=
  ⟨h.1, h.2.1, h.2.2.1, h.2.2.2.1.mono (fun _ _ h => h.weak), fun e => by cases e⟩
theorem all2_get {α β : Type} {R : α → β → Prop} {as : List α} {bs : List β} {i : Nat} {a : α} {z : β} (h : All2 R as bs) (ha : as[i]? = some a) : i < bs.length ∧ R a (bs.getD i z) := by
  obtain ⟨b, hb, hr⟩ := All2.get h ha
  have hi : i < bs.length := by
    rcases Nat.lt_or_ge i bs.length with q | q
    · exact q
    · rw [List.getElem?_eq_none q] at hb; cases hb
  refine ⟨hi, ?_⟩
  rw [List.getD_eq_getElem?_getD, hb]; exact hr

theorem fC_iff (x : Cell) (k : Cell → Prop) : fC x k ↔ k x := by cases x <;> exact Iff.rfl
theorem fL_iff : ∀ (cs : List Cell) (k : List Cell → Prop), fL cs k ↔ k cs
  | [], _ => Iff.rfl
  | c :: cs, k => by simp only [fL]; rw [fC_iff, fL_iff cs]
theorem tk_out : ∀ (cs : List Cell) (o n : Nat) (k : List Cell → Prop), tk cs o n k → o + n ≤ cs.length ∧ k ((cs.drop o).take n)
  | cs, 0, 0, k, h => by
    have : tk cs 0 0 k = k [] := by cases cs <;> rfl
    rw [this] at h; exact ⟨by simp, by simpa using h⟩
  | [], 0, n + 1, _, h => h.elim
  | [], o + 1, _, _, h => by simp only [tk] at h
  | c :: cs, 0, n + 1, k, h => by
    simp only [tk] at h
    rw [fC_iff] at h
    obtain ⟨h1, h2⟩ := tk_out cs 0 n _ h
    exact ⟨by simp at h1 ⊢; omega, by simpa using h2⟩
  | c :: cs, o + 1, n, k, h => by
    have : tk (c :: cs) (o + 1) n k = tk cs o n k := by cases n <;> rfl
    rw [this] at h
    obtain ⟨h1, h2⟩ := tk_out cs o n _ h
    exact ⟨by simp; omega, by simpa using h2⟩
theorem sp_out : ∀ (cs : List Cell) (o : Nat) (vs : List Cell) (k : List Cell → Prop), sp cs o vs k → o + vs.length ≤ cs.length ∧ k (cs.take o ++ vs ++ cs.drop (o + vs.length))
  | cs, 0, [], k, h => by
    have : sp cs 0 [] k = k cs := by cases cs <;> rfl
    rw [this] at h; exact ⟨by simp, by simpa using h⟩
  | [], 0, v :: vs, _, h => h.elim
  | [], o + 1, _, _, h => by simp only [sp] at h
  | _ :: cs, 0, v :: vs, k, h => by
    simp only [sp] at h
    obtain ⟨h1, h2⟩ := sp_out cs 0 vs _ h
    exact ⟨by simp at h1 ⊢; omega, by simpa using h2⟩
  | c :: cs, o + 1, vs, k, h => by
    have : sp (c :: cs) (o + 1) vs k = sp cs o vs (fun r => k (c :: r)) := by cases vs <;> rfl
    rw [this] at h
    obtain ⟨h1, h2⟩ := sp_out cs o vs _ h
    refine ⟨by simp; omega, ?_⟩
    have e : o + 1 + vs.length = (o + vs.length) + 1 := by omega
    rw [e]; simpa using h2
theorem lenIs_out : ∀ (cs : List Cell) (n : Nat) (k : Prop), lenIs cs n k → cs.length = n ∧ k
  | [], 0, _, h => ⟨rfl, h⟩
  | [], _ + 1, _, h => h.elim
  | _ :: _, 0, _, h => h.elim
  | _ :: cs, n + 1, k, h => by obtain ⟨h1, h2⟩ := lenIs_out cs n k h; exact ⟨by simp [h1], h2⟩
theorem mk1_out {agg : Bool} {cs : List Cell} {k : V1 → Prop} (h : mk1 agg cs k) : (agg = true ∧ k (.g cs)) ∨ (agg = false ∧ ∃ c, cs = [c] ∧ k (.c c)) := by
  cases agg with
  | true => exact .inl ⟨rfl, h⟩
  | false =>
    match cs, h with
    | [c], h => exact .inr ⟨rfl, c, rfl, h⟩
def cellsOf1 : V1 → List Cell | .c x => [x] | .g cs => cs
theorem cells1_out {x : V1} {k : List Cell → Prop} (h : cells1 x k) : k (cellsOf1 x) := by cases x <;> exact h
theorem V1R.cells {ρ : Map} {x : V1} {v : Value} (h : V1R ρ x v) : CellsR ρ (cellsOf1 x) v.cells.toList := by
  cases x with
  | c x =>
    have h1 := CellR.one h
    have : v.cells = #[v] := by cases v <;> first | rfl | simp [Value.oneCell'] at h1
    rw [this]; exact ⟨h, trivial⟩
  | g cs => obtain ⟨vs, rfl, h2⟩ := h; simpa [Value.cells, cellsOf1] using h2
theorem asV_out {v : TV} {k : V1 → Prop} (h : asV v k) : ∃ x, v = .v x ∧ k x := by
  cases v <;> first | exact ⟨_, rfl, h⟩ | exact h.elim
theorem asC_out {v : TV} {k : Cell → Prop} (h : asC v k) : ∃ x, v = .v (.c x) ∧ k x := by
  cases v with
  | v x => cases x with
    | c x => exact ⟨_, rfl, h⟩
    | g _ => exact h.elim
  | _ => exact h.elim

def CEq (c d : Cell) : Prop := ∀ ρ v, CellR ρ c v → CellR none0 d v
theorem pInt_out {k : IntKind} {cs : List Cell} {f : Int → List Cell → Prop} (h : pInt k cs f) : ∃ n r, cs = .int k n :: r ∧ f n r := by
  unfold pInt at h
  split at h
  · rename_i j n cs
    split at h
    · rename_i hj; rw [ikEq_eq hj]; exact ⟨n, cs, rfl, h⟩
    · exact h.elim
  · exact h.elim
theorem pBool_out {cs : List Cell} {f : Bool → List Cell → Prop} (h : pBool cs f) : ∃ c b r, cs = c :: r ∧ CEq c (.bool b) ∧ f b r := by
  unfold pBool at h
  split at h
  · exact ⟨.tt, true, _, rfl, fun _ _ h => h, h⟩
  · exact ⟨.ff, false, _, rfl, fun _ _ h => h, h⟩
  · exact ⟨_, _, _, rfl, fun _ _ h => h, h⟩
  · exact h.elim
theorem pStr_out {cs : List Cell} {f : ByteArray → List Cell → Prop} (h : pStr cs f) : ∃ n r, cs = .str n :: r ∧ f n r := by
  unfold pStr at h
  split at h
  · exact ⟨_, _, rfl, h⟩
  · exact h.elim
theorem ceq_int (k : IntKind) (n : Int) : CEq (.int k n) (.int k n) := fun _ _ h => h
theorem ceq_str (s : ByteArray) : CEq (.str s) (.str s) := fun _ _ h => h
abbrev CEqs : List Cell → List Cell → Prop := All2 CEq
def Reads {α : Type} (p : List Cell → (α → List Cell → Prop) → Prop) (fl : α → List Cell → List Cell) : Prop :=
  ∀ cs f, p cs f → ∃ x r, f x r ∧ ∃ us, cs = us ++ r ∧ ∃ ds, (∀ r, fl x r = ds ++ r) ∧ CEqs us ds
theorem reads_int (k : IntKind) : Reads (pInt k) (fun n r => .int k n :: r) := fun cs f h => by
  obtain ⟨n, r, rfl, h1⟩ := pInt_out h
  exact ⟨n, r, h1, [.int k n], rfl, [.int k n], fun _ => rfl, ceq_int k n, trivial⟩
theorem reads_bool : Reads pBool (fun b r => .bool b :: r) := fun cs f h => by
  obtain ⟨c, b, r, rfl, hc, h1⟩ := pBool_out h
  exact ⟨b, r, h1, [c], rfl, [.bool b], fun _ => rfl, hc, trivial⟩
theorem reads_str : Reads pStr (fun s r => .str s :: r) := fun cs f h => by
  obtain ⟨n, r, rfl, h1⟩ := pStr_out h
  exact ⟨n, r, h1, [.str n], rfl, [.str n], fun _ => rfl, ceq_str n, trivial⟩
theorem reads_key : Reads pKey Key.flat := fun cs f h => by
  unfold pKey at h
  obtain ⟨a, _, rfl, h1⟩ := pInt_out h
  obtain ⟨b, _, rfl, h2⟩ := pInt_out h1
  obtain ⟨c, _, rfl, h3⟩ := pInt_out h2
  obtain ⟨d, r, rfl, h4⟩ := pInt_out h3
  exact ⟨_, r, h4, [.int .i64 a, .int .i64 b, .int .i64 c, .int .i64 d], rfl, [.int .i64 a, .int .i64 b, .int .i64 c, .int .i64 d], fun _ => rfl, ceq_int _ _, ceq_int _ _, ceq_int _ _, ceq_int _ _, trivial⟩
theorem reads_word : Reads pWord Word.flat := fun cs f h => by
  unfold pWord at h
  obtain ⟨n, _, rfl, h1⟩ := pInt_out h
  obtain ⟨c, b, _, rfl, hc, h2⟩ := pBool_out h1
  obtain ⟨k, r, h3, us, rfl, ds, hd, he⟩ := reads_key _ _ h2
  exact ⟨_, r, h3, .int .i64 n :: c :: us, rfl, .int .i64 n :: .bool b :: ds, fun r => by simp [Word.flat, hd], ceq_int _ _, hc, he⟩
theorem reads_inst : Reads pInst Inst.flat := fun cs f h => by
  unfold pInst at h
  obtain ⟨a, _, rfl, h1⟩ := pInt_out h
  obtain ⟨b, _, rfl, h2⟩ := pInt_out h1
  obtain ⟨c, _, rfl, h3⟩ := pInt_out h2
  obtain ⟨d, _, rfl, h4⟩ := pInt_out h3
  obtain ⟨e, r, rfl, h5⟩ := pInt_out h4
  exact ⟨_, r, h5, [.int .i64 a, .int .i64 b, .int .i64 c, .int .i64 d, .int .i64 e], rfl, [.int .i64 a, .int .i64 b, .int .i64 c, .int .i64 d, .int .i64 e], fun _ => rfl, ceq_int _ _, ceq_int _ _, ceq_int _ _, ceq_int _ _, ceq_int _ _, trivial⟩
theorem reads_eff : Reads pEff Eff.flat := fun cs f h => by
  unfold pEff at h
  obtain ⟨t, _, rfl, h1⟩ := pInt_out h
  obtain ⟨r, _, rfl, h2⟩ := pInt_out h1
  obtain ⟨v, _, h3, u1, rfl, d1, e1, q1⟩ := reads_word _ _ h2
  obtain ⟨n, _, h4, u2, rfl, d2, e2, q2⟩ := reads_word _ _ h3
  obtain ⟨a, _, rfl, h5⟩ := pInt_out h4
  obtain ⟨p, _, h6, u3, rfl, d3, e3, q3⟩ := reads_word _ _ h5
  obtain ⟨d, r', rfl, h7⟩ := pInt_out h6
  exact ⟨_, r', h7, .int .i64 t :: .int .i64 r :: (u1 ++ (u2 ++ (.int .i64 a :: (u3 ++ [.int .i64 d])))), by simp, .int .i64 t :: .int .i64 r :: (d1 ++ (d2 ++ (.int .i64 a :: (d3 ++ [.int .i64 d])))),
    fun r => by simp [Eff.flat, e1, e2, e3], ceq_int _ _, ceq_int _ _, q1.append (q2.append ⟨ceq_int _ _, q3.append ⟨ceq_int _ _, trivial⟩⟩)⟩
theorem reads_entry : Reads pEntry Entry.flat := fun cs f h => by
  unfold pEntry at h
  obtain ⟨p, _, h1, u1, rfl, d1, e1, q1⟩ := reads_word _ _ h
  obtain ⟨x, _, h2, u2, rfl, d2, e2, q2⟩ := reads_inst _ _ h1
  obtain ⟨c, b, _, rfl, hc, h3⟩ := pBool_out h2
  obtain ⟨e, _, h4, u3, rfl, d3, e3, q3⟩ := reads_eff _ _ h3
  obtain ⟨g, r, h5, u4, rfl, d4, e4, q4⟩ := reads_word _ _ h4
  exact ⟨_, r, h5, u1 ++ (u2 ++ (c :: (u3 ++ u4))), by simp, d1 ++ (d2 ++ (.bool b :: (d3 ++ d4))), fun r => by simp [Entry.flat, e1, e2, e3, e4], q1.append (q2.append ⟨hc, q3.append q4⟩)⟩
theorem parse_out {τ : FT} {cs : List Cell} {f : τ.Ty → Prop} (h : τ.parse cs f) : ∃ x, f x ∧ CEqs cs (τ.flat x) := by
  have key : ∀ {α : Type} (p : List Cell → (α → List Cell → Prop) → Prop) (fl : α → List Cell → List Cell) (g : α → Prop), Reads p fl →
      p cs (fun x r => match r with | [] => g x | _ :: _ => False) → ∃ x, g x ∧ CEqs cs (fl x []) := by
    intro α p fl g hr hp
    obtain ⟨x, r, hx, us, rfl, ds, hd, he⟩ := hr _ _ hp
    cases r with
    | nil => exact ⟨x, hx, by rw [hd]; simpa using he⟩
    | cons _ _ => exact hx.elim
  unfold FT.parse at h
  cases τ with
  | int k => exact key (pInt k) _ f (reads_int k) h
  | bool => exact key pBool _ f reads_bool h
  | str => exact key pStr _ f reads_str h
  | word => exact key pWord _ f reads_word h
  | inst => exact key pInst _ f reads_inst h
  | entry => exact key pEntry _ f reads_entry h
  | pick =>
    simp only [FT.pars, pTwo] at h
    obtain ⟨a, _, rfl, h1⟩ := pInt_out h
    obtain ⟨b, r, rfl, h2⟩ := pInt_out h1
    cases r with
    | nil => exact ⟨_, h2, ceq_int _ _, ceq_int _ _, trivial⟩
    | cons _ _ => exact h2.elim
  | span =>
    simp only [FT.pars, pTwo] at h
    obtain ⟨a, _, rfl, h1⟩ := pInt_out h
    obtain ⟨b, r, rfl, h2⟩ := pInt_out h1
    cases r with
    | nil => exact ⟨_, h2, ceq_int _ _, ceq_int _ _, trivial⟩
    | cons _ _ => exact h2.elim
  | seen =>
    simp only [FT.pars, pSeen] at h
    obtain ⟨a, _, rfl, h1⟩ := pInt_out h
    obtain ⟨b, _, rfl, h2⟩ := pInt_out h1
    obtain ⟨c, _, rfl, h3⟩ := pInt_out h2
    obtain ⟨d, r, rfl, h4⟩ := pInt_out h3
    cases r with
    | nil => exact ⟨_, h4, ceq_int _ _, ceq_int _ _, ceq_int _ _, ceq_int _ _, trivial⟩
    | cons _ _ => exact h4.elim
theorem CEqs.cells {ρ : Map} : ∀ {cs ds : List Cell} {vs : List Value}, CEqs cs ds → CellsR ρ cs vs → CellsR none0 ds vs
  | [], [], [], _, _ => trivial
  | _ :: _, _ :: _, _ :: _, ⟨h1, h2⟩, ⟨h3, h4⟩ => ⟨h1 _ _ h3, CEqs.cells h2 h4⟩
  | [], [], _ :: _, _, h => h.elim
  | [], _ :: _, _, h, _ => h.elim
  | _ :: _, [], _, h, _ => h.elim
  | _ :: _, _ :: _, [], _, h => h.elim
end Go.Pi
