/- The relation between PI's state and the model's machine, and how it is carried on: blocks that are made, lent, given back. No conditions. -/
import Derived.Test.YtgpchgakonpcfaaGreatDoorPiRel
import GoSem.Claims
namespace Go.Pi
set_option linter.unusedVariables false
set_option linter.unusedSimpArgs false

def Frame (w w' : World) (R : List Nat) : Prop :=
  w'.os = w.os ∧ w'.tape = w.tape ∧ w'.output = w.output ∧ w.heap.size ≤ w'.heap.size ∧ ∀ k, k < w.heap.size → k ∉ R → w'.heap[k]? = w.heap[k]?
theorem Frame.refl (w : World) (R : List Nat) : Frame w w R := ⟨rfl, rfl, rfl, Nat.le_refl _, fun _ _ _ => rfl⟩
def tabName : String := "internal/strconv.uint64pow10"
def tabVals : Array Value := ((List.range 20).map fun i => Value.int .u64 ((10 ^ i : Nat) : Int)).toArray
def errNames : List String := ["strconv.ErrRange", "strconv.ErrSyntax"]
def LowT (P : Program) (w : World) (F : List Nat) : Prop := ∀ b, P.globalNamed tabName = some b → b < w.heap.size ∧ b ∉ F ∧ w.var? P tabName = some tabVals
def LowE (P : Program) (w : World) (F : List Nat) : Prop := ∀ nm ∈ errNames, ∀ b, P.globalNamed nm = some b → b < w.heap.size ∧ b ∉ F ∧ ∃ tp p, w.var? P nm = some #[.iface tp p]
def Low (P : Program) (w : World) (F : List Nat) : Prop := LowT P w F ∧ LowE P w F
theorem var_step {P : Program} {w w' : World} {F : List Nat} {nm : String} {b : Nat} {vs : Array Value} (hb : P.globalNamed nm = some b) (h1 : b < w.heap.size) (h2 : b ∉ F) (h3 : w.var? P nm = some vs) (hf : Frame w w' F) : w'.var? P nm = some vs := by
  unfold World.var? at h3 ⊢
  rw [hb] at h3 ⊢
  simp only [Option.bind_some] at h3 ⊢
  rw [hf.2.2.2.2 b h1 h2]
  exact h3
theorem Low.step {P : Program} {w w' : World} {F F' : List Nat} (h : Low P w F) (hf : Frame w w' F) (hF : ∀ x ∈ F', w.heap.size ≤ x ∨ x ∈ F) : Low P w' F' := by
  have far : ∀ {b : Nat}, b < w.heap.size → b ∉ F → b ∉ F' := fun h1 h2 hm => by
    rcases hF _ hm with q | q
    · omega
    · exact h2 q
  refine ⟨fun b hb => ?_, fun nm hn b hb => ?_⟩
  · obtain ⟨h1, h2, h3⟩ := h.1 b hb
    exact ⟨Nat.lt_of_lt_of_le h1 hf.2.2.2.1, far h1 h2, var_step hb h1 h2 h3 hf⟩
  · obtain ⟨h1, h2, tp, p, h3⟩ := h.2 nm hn b hb
    exact ⟨Nat.lt_of_lt_of_le h1 hf.2.2.2.1, far h1 h2, tp, p, var_step hb h1 h2 h3 hf⟩
def noErrs (P : Program) : Bool := errNames.all fun nm => (P.globalNamed nm).isNone
def noLow (P : Program) : Bool := (P.globalNamed tabName).isNone && noErrs P
theorem LowE.none {P : Program} {w : World} {F : List Nat} (h : noErrs P = true) : LowE P w F := fun nm hn b hb => by
  have := List.all_eq_true.1 h nm hn
  rw [hb] at this; cases this
theorem Low.none {P : Program} {w : World} {F : List Nat} (h : noLow P = true) : Low P w F := by
  simp only [noLow, Bool.and_eq_true] at h
  exact ⟨(fun b hb => by rw [hb] at h; cases h.1), LowE.none h.2⟩
structure Ctx (P : Program) where
  w0 : World
  R0 : List Nat
  G0 : List Nat
  N : Nat
  args : List Value
  hds : List (Option (List Value))
  qs : Nat → Prop
  lw : Low P w0 R0

theorem Frame.trans {w w' w'' : World} {R R' : List Nat} (h : Frame w w' R) (h' : Frame w' w'' R') (hR : ∀ x ∈ R', w.heap.size ≤ x ∨ x ∈ R) : Frame w w'' R := by
  obtain ⟨a1, a2, a3, a4, a5⟩ := h
  obtain ⟨b1, b2, b3, b4, b5⟩ := h'
  refine ⟨b1.trans a1, b2.trans a2, b3.trans a3, Nat.le_trans a4 b4, fun k hk hn => ?_⟩
  rw [b5 k (by omega) (fun hm => by rcases hR k hm with h | h <;> first | omega | exact hn h), a5 k hk hn]

def Blk.foot : Blk → Loc → List Nat
  | .box true _, l => [l.blk]
  | .box false _, _ => []
  | .flat true _ _ _, l => if 0 < l.cap then [l.blk] else []
  | .flat false _ _ _, _ => []
  | .rows true _ _, l => rowsFoot l
  | .rows false _ _, _ => []
def Blk.shw : Blk → Loc → List Nat
  | .box true _, _ => []
  | .box false _, l => [l.blk]
  | .flat true _ _ _, _ => []
  | .flat false _ _ _, l => if 0 < l.len then [l.blk] else []
  | .rows true _ _, _ => []
  | .rows false _ _, l => rowsShw l
theorem BlkR.heap {w w' : World} {ρ : Map} {l : Loc} {B : Blk} (hb : ∀ x, x ∈ B.foot l ∨ x ∈ B.shw l → w'.heap[x]? = w.heap[x]?) (h : BlkR w ρ l B) : BlkR w' ρ l B := by
  cases B with
  | box rw cs => exact BlkR.block (fun _ _ _ e => by cases e) (fun ho => hb _ (by cases rw <;> simp [Blk.foot, Blk.shw])) h
  | flat rw τ cap xs => exact BlkR.block (fun _ _ _ e => by cases e) (fun ho => hb _ (by cases rw <;> simp [Blk.foot, Blk.shw, Blk.occ] at ho ⊢ <;> exact ho)) h
  | rows rw τ xss => exact BlkR.rows_block (fun x hx => hb x (by cases rw <;> simp [Blk.foot, Blk.shw] at hx ⊢ <;> exact hx)) h
theorem BlkR.nodup {w : World} {ρ : Map} {l : Loc} {B : Blk} (h : BlkR w ρ l B) : (B.foot l).Nodup := by
  cases B with
  | box rw cs => cases rw <;> simp [Blk.foot]
  | flat rw τ cap xs => cases rw <;> simp only [Blk.foot] <;> first | simp | (split <;> simp)
  | rows rw τ xss => cases rw with
    | true => exact (h.2.2.2.2 rfl).2
    | false => simp [Blk.foot]

structure HR {P : Program} (c : Ctx P) (ρ : Map) (Z Y : List Nat) (st : St) (w : World) : Prop where
  bk : ∀ b B, st.hget b = some B → ∃ l, ρ b = some l ∧ BlkR w ρ l B
  sp : ∀ b B l b' B' l', st.hget b = some B → ρ b = some l → st.hget b' = some B' → ρ b' = some l' → b ≠ b' → ∀ x ∈ B.foot l, x ∉ B'.foot l' ∧ x ∉ B'.shw l'
  ow : ∀ b B l, st.hget b = some B → ρ b = some l → (∀ x ∈ B.foot l, x < w.heap.size ∧ (c.w0.heap.size ≤ x ∨ x ∈ c.R0)) ∧ (∀ x ∈ B.shw l, x < w.heap.size ∧ x ∈ c.G0)
  zn : Z.Nodup
  zb : ∀ z ∈ Z, z < w.heap.size ∧ (c.w0.heap.size ≤ z ∨ z ∈ c.R0) ∧ z ∉ Y ∧ ∀ b B l, st.hget b = some B → ρ b = some l → z ∉ B.foot l ∧ z ∉ B.shw l
  yb : ∀ y ∈ Y, y < w.heap.size ∧ y ∈ c.G0 ∧ ∀ b B l, st.hget b = some B → ρ b = some l → y ∉ B.foot l
  nx : st.nx.Nodup
  nf : ∀ i ∈ st.nx, ρ i = none
  fr : Frame c.w0 w c.R0
  qf : st.q = true → ∀ i ∈ st.fr, ∀ B l, st.hget i = some B → ρ i = some l → ∀ x ∈ B.foot l, ¬ c.qs x
  qz : st.q = true → ∀ z ∈ Z, ¬ c.qs z
  qw : st.q = true → ∀ n, c.qs n → n < w.heap.size

structure Same (st st' : St) : Prop where
  tm : st'.tm = st.tm
  ar : st'.ar = st.ar
  q : st'.q = st.q
theorem Same.refl (st : St) : Same st st := ⟨rfl, rfl, rfl⟩
theorem Same.trans {a b c : St} (h : Same a b) (k : Same b c) : Same a c := ⟨k.tm.trans h.tm, k.ar.trans h.ar, k.q.trans h.q⟩

theorem hget_cons {st : St} {b : Nat} {B : Option Blk} {r : List (Nat × Option Blk)} (h : st.hp = (b, B) :: r) (x : Nat) :
    st.hget x = if x = b then B else (match aget r x with | some (some B) => some B | _ => none) := by
  unfold St.hget
  rw [h, aget_cons]
  by_cases e : x = b
  · simp [e]; cases B <;> rfl
  · simp [e]; rfl

section
variable {P : Program} {c : Ctx P} {ρ : Map} {Z Y : List Nat} {st : St} {w : World}

theorem HR.none_of_nx (h : HR c ρ Z Y st w) {i : Nat} (hi : i ∈ st.nx) : st.hget i = none := by
  cases hg : st.hget i with
  | none => rfl
  | some B => obtain ⟨l, hl, _⟩ := h.bk i B hg; rw [h.nf i hi] at hl; cases hl

theorem HR.attach {ρ' : Map} {b : Nat} {B : Blk} {l : Loc} {st' : St} (hle : ρ.le ρ') (hoth : ∀ x, x ≠ b → ρ' x = ρ x) (hb : ρ' b = some l) (hnone : st.hget b = none)
    (h : HR c ρ (B.foot l ++ Z) Y st w) (hB : BlkR w ρ' l B) (hs : ∀ x ∈ B.shw l, x ∈ Y) (hget : ∀ x, st'.hget x = if x = b then some B else st.hget x)
    (hnx : ∃ p, p ++ st'.nx = st.nx) (hnb : b ∉ st'.nx) (hq : st'.q = st.q) (hfr : ∀ i ∈ st'.fr, i ∈ st.fr ∨ i = b) : HR c ρ' Z Y st' w := by
  have other : ∀ {x : Nat} {C : Blk} {m : Loc}, x ≠ b → st'.hget x = some C → ρ' x = some m → st.hget x = some C ∧ ρ x = some m := fun hx hg hm => by
    rw [hget, if_neg hx] at hg; rw [hoth _ hx] at hm; exact ⟨hg, hm⟩
  have this : ∀ {C : Blk} {m : Loc}, st'.hget b = some C → ρ' b = some m → C = B ∧ m = l := fun hg hm => by
    rw [hget, if_pos rfl] at hg; rw [hb] at hm; exact ⟨(Option.some.inj hg).symm, (Option.some.inj hm).symm⟩
  have hZ := List.nodup_append.1 h.zn
  refine ⟨fun x C hg => ?_, fun x C m x' C' m' hg hm hg' hm' hne y hy => ?_, fun x C m hg hm => ?_, hZ.2.1, fun z hz => ?_, fun y hy => ?_, ?_, fun i hi => ?_, h.fr, fun hqq i hi C m hg hm x hx => ?_, fun hqq z hz => ?_, fun hqq => h.qw (hq ▸ hqq)⟩
  · by_cases e : x = b
    · subst e
      rw [hget, if_pos rfl] at hg
      injection hg with hg
      subst hg
      exact ⟨l, hb, hB⟩
    · rw [hget, if_neg e] at hg
      obtain ⟨m, h1, h2⟩ := h.bk x C hg
      exact ⟨m, hle _ _ h1, h2.mono hle⟩
  · by_cases e : x = b
    · subst e
      obtain ⟨rfl, rfl⟩ := this hg hm
      obtain ⟨g1, g2⟩ := other (Ne.symm hne) hg' hm'
      exact (h.zb y (List.mem_append_left _ hy)).2.2.2 _ _ _ g1 g2
    · obtain ⟨g1, g2⟩ := other e hg hm
      by_cases e' : x' = b
      · subst e'
        obtain ⟨rfl, rfl⟩ := this hg' hm'
        refine ⟨fun hy' => ((h.zb y (List.mem_append_left _ hy')).2.2.2 _ _ _ g1 g2).1 hy, fun hy' => (h.yb y (hs y hy')).2.2 _ _ _ g1 g2 hy⟩
      · obtain ⟨g3, g4⟩ := other e' hg' hm'
        exact h.sp _ _ _ _ _ _ g1 g2 g3 g4 hne y hy
  · by_cases e : x = b
    · subst e
      obtain ⟨rfl, rfl⟩ := this hg hm
      exact ⟨fun y hy => ⟨(h.zb y (List.mem_append_left _ hy)).1, (h.zb y (List.mem_append_left _ hy)).2.1⟩, fun y hy => ⟨(h.yb y (hs y hy)).1, (h.yb y (hs y hy)).2.1⟩⟩
    · obtain ⟨g1, g2⟩ := other e hg hm
      exact h.ow _ _ _ g1 g2
  · obtain ⟨z1, z2, z3, z4⟩ := h.zb z (List.mem_append_right _ hz)
    refine ⟨z1, z2, z3, fun x C m hg hm => ?_⟩
    by_cases e : x = b
    · subst e
      obtain ⟨rfl, rfl⟩ := this hg hm
      exact ⟨fun hy => hZ.2.2 z hy z hz rfl, fun hy => z3 (hs z hy)⟩
    · obtain ⟨g1, g2⟩ := other e hg hm
      exact z4 _ _ _ g1 g2
  · obtain ⟨y1, y2, y3⟩ := h.yb y hy
    refine ⟨y1, y2, fun x C m hg hm => ?_⟩
    by_cases e : x = b
    · subst e
      obtain ⟨rfl, rfl⟩ := this hg hm
      exact fun hm => (h.zb y (List.mem_append_left _ hm)).2.2.1 hy
    · obtain ⟨g1, g2⟩ := other e hg hm
      exact y3 _ _ _ g1 g2
  · obtain ⟨p, hp⟩ := hnx
    have := h.nx
    rw [← hp] at this
    exact (List.nodup_append.1 this).2.1
  · obtain ⟨p, hp⟩ := hnx
    rw [hoth i (fun e => hnb (e ▸ hi))]
    exact h.nf i (by rw [← hp]; exact List.mem_append_right _ hi)
  · have hqs : st.q = true := hq ▸ hqq
    by_cases e : i = b
    · subst e
      obtain ⟨rfl, rfl⟩ := this hg hm
      exact h.qz hqs x (List.mem_append_left _ hx)
    · obtain ⟨g1, g2⟩ := other e hg hm
      exact h.qf hqs i ((hfr i hi).resolve_right e) _ _ g1 g2 x hx
  · exact h.qz (hq ▸ hqq) z (List.mem_append_right _ hz)

theorem HR.drop {b : Nat} {st' : St} (h : HR c ρ Z Y st w) (hget : ∀ x, st'.hget x = if x = b then none else st.hget x) (hnx : st'.nx = st.nx) (hq : st'.q = st.q) (hfr : st'.fr = st.fr) : HR c ρ Z Y st' w := by
  have other : ∀ {x : Nat} {C : Blk}, st'.hget x = some C → st.hget x = some C := fun {x C} hg => by
    rw [hget] at hg
    split at hg
    · cases hg
    · exact hg
  refine ⟨fun x C hg => h.bk x C (other hg), fun x C m x' C' m' hg hm hg' hm' => h.sp _ _ _ _ _ _ (other hg) hm (other hg') hm', fun x C m hg hm => h.ow _ _ _ (other hg) hm, h.zn, fun z hz => ?_, fun y hy => ?_, hnx ▸ h.nx, hnx ▸ h.nf, h.fr, ?_, fun hqq => h.qz (hq ▸ hqq), fun hqq => h.qw (hq ▸ hqq)⟩
  · obtain ⟨z1, z2, z3, z4⟩ := h.zb z hz
    exact ⟨z1, z2, z3, fun x C m hg hm => z4 _ _ _ (other hg) hm⟩
  · obtain ⟨y1, y2, y3⟩ := h.yb y hy
    exact ⟨y1, y2, fun x C m hg hm => y3 _ _ _ (other hg) hm⟩
  · rw [hfr]; intro hqq i hi C m hg hm; exact h.qf (hq ▸ hqq) i hi _ _ (other hg) hm

theorem HR.release {b : Nat} {B : Blk} {l : Loc} {st' : St} (h : HR c ρ Z Y st w) (hb : st.hget b = some B) (hl : ρ b = some l) (hget : ∀ x, st'.hget x = if x = b then none else st.hget x)
    (hnx : st'.nx = st.nx) (hq : st'.q = st.q) (hfr : st'.fr = st.fr) (hqq : st.q = true → b ∈ st.fr) : HR c ρ (B.foot l ++ Z) Y st' w := by
  have h' := h.drop hget hnx hq hfr
  have other : ∀ {x : Nat} {C : Blk}, st'.hget x = some C → x ≠ b ∧ st.hget x = some C := fun {x C} hg => by
    rw [hget] at hg
    split at hg
    · cases hg
    · exact ⟨‹_›, hg⟩
  have hnd : (B.foot l).Nodup := by
    obtain ⟨l', hl', hB⟩ := h.bk _ _ hb
    rw [hl] at hl'
    cases hl'
    exact hB.nodup
  refine ⟨h'.bk, h'.sp, h'.ow, List.nodup_append.2 ⟨hnd, h.zn, fun x hx z hz e => ?_⟩, fun z hz => ?_, h'.yb, h'.nx, h'.nf, h'.fr, h'.qf, fun hq1 z hz => ?_, h'.qw⟩
  · subst e; exact ((h.zb x hz).2.2.2 _ _ _ hb hl).1 hx
  · rcases List.mem_append.1 hz with hz | hz
    · obtain ⟨o1, o2⟩ := (h.ow _ _ _ hb hl).1 z hz
      exact ⟨o1, o2, fun hy => (h.yb z hy).2.2 _ _ _ hb hl hz, fun x C m hg hm => h.sp _ _ _ _ _ _ hb hl (other hg).2 hm (other hg).1.symm z hz⟩
    · exact h'.zb z hz
  · rcases List.mem_append.1 hz with hz | hz
    · exact h.qf (hq ▸ hq1) b (hqq (hq ▸ hq1)) _ _ hb hl z hz
    · exact h'.qz hq1 z hz

theorem HR.world {w' : World} {Z' Y' : List Nat} (h : HR c ρ Z Y st w) (hf : Frame w w' Z) (hz : Z'.Nodup) (hzz : ∀ z ∈ Z', z < w'.heap.size ∧ (z ∈ Z ∨ w.heap.size ≤ z) ∧ z ∉ Y')
    (hy : ∀ y ∈ Y', y < w.heap.size ∧ y ∈ c.G0 ∧ ∀ b B l, st.hget b = some B → ρ b = some l → y ∉ B.foot l) : HR c ρ Z' Y' st w' := by
  obtain ⟨f1, f2, f3, f4, f5⟩ := hf
  have f0 := h.fr
  refine ⟨fun b B hg => ?_, h.sp, fun b B l hg hl => ?_, hz, fun z hz' => ?_, fun y hy' => ?_, h.nx, h.nf, ?_, h.qf, fun hq z hz' => ?_, fun hq n hn => Nat.lt_of_lt_of_le (h.qw hq n hn) f4⟩
  · obtain ⟨l, h1, h2⟩ := h.bk b B hg
    refine ⟨l, h1, h2.heap fun x hx => f5 x ?_ fun hxz => ?_⟩
    · rcases hx with hx | hx
      · exact ((h.ow _ _ _ hg h1).1 x hx).1
      · exact ((h.ow _ _ _ hg h1).2 x hx).1
    · have := (h.zb x hxz).2.2.2 _ _ _ hg h1
      rcases hx with hx | hx
      · exact this.1 hx
      · exact this.2 hx
  · obtain ⟨o1, o2⟩ := h.ow _ _ _ hg hl
    exact ⟨fun x hx => ⟨by have := (o1 x hx).1; omega, (o1 x hx).2⟩, fun x hx => ⟨by have := (o2 x hx).1; omega, (o2 x hx).2⟩⟩
  · obtain ⟨a1, a2, a3⟩ := hzz z hz'
    refine ⟨a1, ?_, a3, fun b B l hg hl => ?_⟩
    · rcases a2 with a2 | a2
      · exact (h.zb z a2).2.1
      · exact .inl (by have := f0.2.2.2.1; omega)
    · rcases a2 with a2 | a2
      · exact (h.zb z a2).2.2.2 _ _ _ hg hl
      · exact ⟨fun hx => by have := ((h.ow _ _ _ hg hl).1 z hx).1; omega, fun hx => by have := ((h.ow _ _ _ hg hl).2 z hx).1; omega⟩
  · obtain ⟨y1, y2, y3⟩ := hy y hy'
    exact ⟨by omega, y2, y3⟩
  · exact f0.trans ⟨f1, f2, f3, f4, f5⟩ (fun x hx => (h.zb x hx).2.1)
  · rcases (hzz z hz').2.1 with a | a
    · exact h.qz hq z a
    · exact fun hz => by have := h.qw hq z hz; omega
end

def HdR (ρ : Map) (x : TV) (h : Option (List Value)) : Prop := ∀ hs, h = some hs → ∃ nn τ b l, x = .v (.c (.sl nn τ b)) ∧ ρ b = some l ∧ All2 RowV l.ins hs
theorem HdR.mono {ρ ρ' : Map} (hl : ρ.le ρ') {x : TV} {h : Option (List Value)} (hh : HdR ρ x h) : HdR ρ' x h := fun hs e => by
  obtain ⟨nn, τ, b, l, h1, h2, h3⟩ := hh hs e; exact ⟨nn, τ, b, l, h1, hl _ _ h2, h3⟩
structure ArR (ρ : Map) (xs : List TV) (args : List Value) (hds : List (Option (List Value))) : Prop where
  tv : TVsR ρ xs args
  hd : All2 (HdR ρ) xs hds
theorem ArR.mono {ρ ρ' : Map} (hl : ρ.le ρ') {xs : List TV} {args : List Value} {hds : List (Option (List Value))} (h : ArR ρ xs args hds) : ArR ρ' xs args hds := ⟨TVsR.mono hl h.tv, h.hd.mono (fun _ _ => HdR.mono hl)⟩
structure Rel {P : Program} (c : Ctx P) (ρ : Map) (Z Y : List Nat) (st : St) (a : Act) (w : World) : Prop where
  hr : HR c ρ Z Y st w
  N : a.tmps.size = c.N
  tm : ∀ i v, aget st.tm i = some v → ∃ u, a.tmps[i]? = some u ∧ TVR ρ v u
  ar : ArR ρ st.ar c.args c.hds
  df : a.defers = []

def SlV (A : Option Addr) (l : Loc) (v : Value) : Prop := v = .slice A l.len l.cap ∧ (A = none → l.cap = 0) ∧ (0 < l.cap → A = some ⟨l.blk, l.off, none⟩)
def RepTC (w : World) : TC → Value → List Nat → List Nat → Prop
  | .int k n, v, F, G => v = .int k n ∧ F = [] ∧ G = []
  | .bool b, v, F, G => v = .bool b ∧ F = [] ∧ G = []
  | .str s, v, F, G => v = .string s ∧ F = [] ∧ G = []
  | .ro τ xs, v, F, G => ∃ l A, SlV A l v ∧ BlkR w none0 l (.flat false τ none xs) ∧ F = [] ∧ G = (Blk.flat false τ none xs).shw l
  | .rn τ xs, v, F, G => ∃ l A, SlV A l v ∧ A ≠ none ∧ BlkR w none0 l (.flat false τ none xs) ∧ F = [] ∧ G = (Blk.flat false τ none xs).shw l
  | .ow τ xs, v, F, G => ∃ l A, SlV A l v ∧ BlkR w none0 l (.flat true τ none xs) ∧ F = (Blk.flat true τ none xs).foot l ∧ G = []
  | .oc τ cap xs, v, F, G => ∃ l A, SlV A l v ∧ BlkR w none0 l (.flat true τ (some cap) xs) ∧ F = (Blk.flat true τ none xs).foot l ∧ G = []
  | .rows rw τ xss, v, F, G => ∃ l A, SlV A l v ∧ BlkR w none0 l (.rows rw τ xss) ∧ F = (Blk.rows rw τ xss).foot l ∧ G = (Blk.rows rw τ xss).shw l
  | .nl _, v, F, G => v = .slice none 0 0 ∧ F = [] ∧ G = []
  | .nili, v, F, G => v = .nilIface ∧ F = [] ∧ G = []
  | .ife, v, F, G => (∃ t p, v = .iface t p) ∧ F = [] ∧ G = []
  | .unk, v, F, G => v.oneCell' = true ∧ F = [] ∧ G = []
def Reps {α : Type} (R : α → Value → List Nat → List Nat → Prop) : List α → List Value → List Nat → List Nat → Prop
  | [], [], F, G => F = [] ∧ G = []
  | t :: ts, v :: vs, F, G => ∃ F1 F2 G1 G2, R t v F1 G1 ∧ Reps R ts vs F2 G2 ∧ F = F1 ++ F2 ∧ G = G1 ++ G2
  | _, _, _, _ => False
abbrev RepTCs (w : World) := Reps (RepTC w)
def RepT1 (w : World) : T1 → Value → List Nat → List Nat → Prop
  | .c x, v, F, G => RepTC w x v F G
  | .g cs, v, F, G => ∃ vs : List Value, v = .agg vs.toArray ∧ RepTCs w cs vs F G
  | .ptr rw off cs, v, F, G => ∃ blk base vs F1 G1, v = .pointer (some ⟨blk, base + off, none⟩) ∧ w.rangeAt blk base vs ∧ RepTCs w cs vs F1 G1 ∧ blk < w.heap.size ∧
      (rw = true → w.there blk base cs.length) ∧ F = F1 ++ (if rw = true then [blk] else []) ∧ G = G1 ++ (if rw = true then [] else [blk])
abbrev RepT1s (w : World) := Reps (RepT1 w)
def RepT (w : World) : Tree → Value → List Nat → List Nat → Prop
  | .v x, v, F, G => RepT1 w x v F G
  | .tup xs, v, F, G => ∃ vs : List Value, v = .tuple vs.toArray ∧ RepT1s w xs vs F G
  | .fn f xs, v, F, G => ∃ vs : List Value, v = .func (.func f) #[] vs.toArray ∧ RepT1s w xs vs F G
  | .rows n cs, v, F, G => ∃ blk base c vs G1, v = .slice (some ⟨blk, base, none⟩) n c ∧ n ≤ c ∧ w.rangeAt blk base vs ∧ RepTCs w cs vs [] G1 ∧ blk < w.heap.size ∧ F = [] ∧ G = G1 ++ [blk]
abbrev RepTs (w : World) := Reps (RepT w)

theorem new_out {st : St} {B : Blk} {k : St → Nat → Prop} (h : new st B k) : ∃ i nx, st.nx = i :: nx ∧ k ⟨st.tm, (i, some B) :: st.hp, nx, st.ar, st.q, i :: st.fr⟩ i := by
  obtain ⟨tm, hp, nx, ar, q, fr⟩ := st
  cases nx with
  | nil => exact h.elim
  | cons i nx => exact ⟨i, nx, rfl, h⟩
theorem setB_out {st : St} {b : Nat} {B : Option Blk} {k : St → Prop} (h : setB st b B k) : k ⟨st.tm, (b, B) :: st.hp, st.nx, st.ar, st.q, st.fr⟩ := h
theorem md_out {st : St} {b : Nat} {k : Prop} (h : md st b k) : (st.q = true → b ∈ st.fr) ∧ k := by
  unfold md at h
  cases hq : st.q with
  | false => rw [hq] at h; exact ⟨fun e => by simp at e, h⟩
  | true =>
    rw [hq] at h
    cases hm : mem b st.fr with
    | false => simp [hm] at h
    | true => rw [hm] at h; exact ⟨fun _ => (mem_iff _ _).1 hm, h⟩

theorem HR.made {P : Program} {c : Ctx P} {ρ : Map} {Z Y : List Nat} {st : St} {w : World} {B : Blk} {l : Loc} {i : Nat} {nx : List Nat} (hn : st.nx = i :: nx) (h : HR c ρ (B.foot l ++ Z) Y st w)
    (hB : BlkR w ρ l B) (hs : ∀ x ∈ B.shw l, x ∈ Y) : HR c (ρ.add i l) Z Y ⟨st.tm, (i, some B) :: st.hp, nx, st.ar, st.q, i :: st.fr⟩ w ∧ ρ.le (ρ.add i l) := by
  have hi : ρ i = none := h.nf i (by rw [hn]; simp)
  have hle := Map.le_add l hi
  refine ⟨HR.attach (b := i) (l := l) (st := st) hle (fun x hx => Map.add_other ρ l hx) (Map.add_same ρ i l) (h.none_of_nx (by rw [hn]; simp)) h (hB.mono hle) hs (fun x => ?_) ⟨[i], by simp [hn]⟩ ?_ rfl (fun j hj => ?_), hle⟩
  · rw [hget_cons rfl]; rfl
  · have := h.nx; rw [hn] at this; exact (List.nodup_cons.1 this).1
  · rcases List.mem_cons.1 hj with e | e
    · exact .inr e
    · exact .inl e

section intern
variable {P : Program} {c : Ctx P} {Y : List Nat} {w : World}
structure Put {P : Program} (c : Ctx P) (ρ : Map) (Z Y : List Nat) (st : St) (w : World) (ρ' : Map) (st' : St) : Prop where
  hr : HR c ρ' Z Y st' w
  le : ρ.le ρ'
  same : Same st st'
  nx : ∀ i ∈ st'.nx, i ∈ st.nx
  get : ∀ y, y ∉ st.nx → st'.hget y = st.hget y
theorem Put.refl {ρ : Map} {Z : List Nat} {st : St} (h : HR c ρ Z Y st w) : Put c ρ Z Y st w ρ st := ⟨h, Map.le_refl ρ, Same.refl st, fun _ h => h, fun _ _ => rfl⟩
theorem Put.trans {ρ ρ' ρ'' : Map} {Z Z' : List Nat} {st st' st'' : St} (p : Put c ρ Z' Y st w ρ' st') (q : Put c ρ' Z Y st' w ρ'' st'') : Put c ρ Z Y st w ρ'' st'' :=
  ⟨q.hr, Map.le_trans p.le q.le, p.same.trans q.same, fun i hi => p.nx i (q.nx i hi), fun y hy => (q.get y (fun h => hy (p.nx y h))).trans (p.get y hy)⟩
theorem Put.made {ρ : Map} {Z : List Nat} {st : St} {B : Blk} {l : Loc} {i : Nat} {nx : List Nat} (hn : st.nx = i :: nx) (h : HR c ρ (B.foot l ++ Z) Y st w)
    (hB : BlkR w ρ l B) (hs : ∀ x ∈ B.shw l, x ∈ Y) : Put c ρ Z Y st w (ρ.add i l) ⟨st.tm, (i, some B) :: st.hp, nx, st.ar, st.q, i :: st.fr⟩ := by
  obtain ⟨g1, g2⟩ := HR.made hn h hB hs
  exact ⟨g1, g2, ⟨rfl, rfl, rfl⟩, fun j hj => by rw [hn]; exact List.mem_cons_of_mem _ hj, fun y hy => by
    rw [hget_cons rfl, if_neg (fun e : y = i => hy (by rw [hn, e]; simp))]; rfl⟩

theorem ic_out {ρ : Map} {Z F G : List Nat} {st : St} {t : TC} {v : Value} {k : St → Cell → Prop} (hr : RepTC w t v F G) (h : HR c ρ (F ++ Z) Y st w) (hG : ∀ g ∈ G, g ∈ Y) (hk : ic st t k) :
    ∃ ρ' st' x, Put c ρ Z Y st w ρ' st' ∧ CellR ρ' x v ∧ k st' x := by
  cases t with
  | int kd n => obtain ⟨rfl, rfl, rfl⟩ := hr; exact ⟨ρ, st, .int kd n, Put.refl h, rfl, hk⟩
  | bool b => obtain ⟨rfl, rfl, rfl⟩ := hr; exact ⟨ρ, st, .bool b, Put.refl h, rfl, hk⟩
  | str s => obtain ⟨rfl, rfl, rfl⟩ := hr; exact ⟨ρ, st, .str s, Put.refl h, rfl, hk⟩
  | nl τ => obtain ⟨rfl, rfl, rfl⟩ := hr; exact ⟨ρ, st, .nils τ, Put.refl h, rfl, hk⟩
  | nili => obtain ⟨rfl, rfl, rfl⟩ := hr; exact ⟨ρ, st, .nili, Put.refl h, rfl, hk⟩
  | ife => obtain ⟨h1, rfl, rfl⟩ := hr; exact ⟨ρ, st, .ife, Put.refl h, h1, hk⟩
  | unk => obtain ⟨h1, rfl, rfl⟩ := hr; exact ⟨ρ, st, .unk, Put.refl h, h1, hk⟩
  | ro τ xs =>
    obtain ⟨l, A, ⟨rfl, h2, h3⟩, hB, rfl, rfl⟩ := hr
    have hk1 : new st (.flat false τ none xs) (fun st i => k st (.sl false τ i)) := hk
    obtain ⟨i, nx, hn, hk2⟩ := new_out hk1
    exact ⟨_, _, .sl false τ i, Put.made (l := l) hn (B := .flat false τ none xs) h hB hG, ⟨l, A, Map.add_same _ _ _, rfl, hB.2.1, h2, h3, fun e => by cases e⟩, hk2⟩
  | rn τ xs =>
    obtain ⟨l, A, ⟨rfl, h2, h3⟩, hA, hB, rfl, rfl⟩ := hr
    have hk1 : new st (.flat false τ none xs) (fun st i => k st (.sl true τ i)) := hk
    obtain ⟨i, nx, hn, hk2⟩ := new_out hk1
    exact ⟨_, _, .sl true τ i, Put.made (l := l) hn (B := .flat false τ none xs) h hB hG, ⟨l, A, Map.add_same _ _ _, rfl, hB.2.1, h2, h3, fun _ => hA⟩, hk2⟩
  | ow τ xs =>
    obtain ⟨l, A, ⟨rfl, h2, h3⟩, hB, rfl, rfl⟩ := hr
    have hk1 : new st (.flat true τ none xs) (fun st i => k st (.sl false τ i)) := hk
    obtain ⟨i, nx, hn, hk2⟩ := new_out hk1
    exact ⟨_, _, .sl false τ i, Put.made (l := l) hn (B := .flat true τ none xs) h hB (fun x hx => by simp [Blk.shw] at hx), ⟨l, A, Map.add_same _ _ _, rfl, hB.2.1, h2, h3, fun e => by cases e⟩, hk2⟩
  | oc τ cap xs =>
    obtain ⟨l, A, ⟨rfl, h2, h3⟩, hB, rfl, rfl⟩ := hr
    have hk1 : new st (.flat true τ (some cap) xs) (fun st i => k st (.sl false τ i)) := hk
    obtain ⟨i, nx, hn, hk2⟩ := new_out hk1
    exact ⟨_, _, .sl false τ i, Put.made (l := l) hn (B := .flat true τ (some cap) xs) h hB (fun x hx => by simp [Blk.shw] at hx), ⟨l, A, Map.add_same _ _ _, rfl, hB.2.1, h2, h3, fun e => by cases e⟩, hk2⟩

  | rows rw τ xss =>
    obtain ⟨l, A, ⟨rfl, h2, h3⟩, hB, rfl, rfl⟩ := hr
    have hk1 : new st (.rows rw τ xss) (fun st i => k st (.sl false .str i)) := hk
    obtain ⟨i, nx, hn, hk2⟩ := new_out hk1
    exact ⟨_, _, .sl false .str i, Put.made (l := l) hn (B := .rows rw τ xss) h hB hG, ⟨l, A, Map.add_same _ _ _, rfl, hB.2.1, h2, h3, fun e => by cases e⟩, hk2⟩

theorem ics_out : ∀ {ts : List TC} {vs : List Value} {ρ : Map} {Z F G : List Nat} {st : St} {k : St → List Cell → Prop}, RepTCs w ts vs F G → HR c ρ (F ++ Z) Y st w → (∀ g ∈ G, g ∈ Y) → ics st ts k →
    ∃ ρ' st' xs, Put c ρ Z Y st w ρ' st' ∧ CellsR ρ' xs vs ∧ xs.length = ts.length ∧ k st' xs
  | [], [], ρ, Z, F, G, st, k, hr, h, _, hk => by
    obtain ⟨rfl, rfl⟩ := hr
    exact ⟨ρ, st, [], Put.refl h, trivial, rfl, hk⟩
  | t :: ts, v :: vs, ρ, Z, F, G, st, k, hr, h, hG, hk => by
    obtain ⟨F1, F2, G1, G2, h1, h2, rfl, rfl⟩ := hr
    rw [List.append_assoc] at h
    obtain ⟨ρ1, st1, x, p1, r1, hk1⟩ := ic_out h1 h (fun g hg => hG g (List.mem_append_left _ hg)) hk
    obtain ⟨ρ2, st2, xs, p2, r2, hlen, hk2⟩ := ics_out h2 p1.hr (fun g hg => hG g (List.mem_append_right _ hg)) hk1
    exact ⟨ρ2, st2, x :: xs, p1.trans p2, ⟨r1.mono p2.le, r2⟩, by simp [hlen], hk2⟩
  | [], _ :: _, _, _, _, _, _, _, hr, _, _, _ => hr.elim
  | _ :: _, [], _, _, _, _, _, _, hr, _, _, _ => hr.elim

theorem i1_out {ρ : Map} {Z F G : List Nat} {st : St} {t : T1} {v : Value} {k : St → V1 → Prop} (hr : RepT1 w t v F G) (h : HR c ρ (F ++ Z) Y st w) (hG : ∀ g ∈ G, g ∈ Y) (hk : i1 st t k) :
    ∃ ρ' st' x, Put c ρ Z Y st w ρ' st' ∧ V1R ρ' x v ∧ k st' x := by
  cases t with
  | c x =>
    have hk0 : ic st x (fun st x => k st (.c x)) := hk
    obtain ⟨ρ', st', y, p, r, hk1⟩ := ic_out hr h hG hk0
    exact ⟨ρ', st', .c y, p, r, hk1⟩
  | g cs =>
    obtain ⟨vs, rfl, hr⟩ := hr
    obtain ⟨ρ', st', y, p, r, _, hk1⟩ := ics_out hr h hG hk
    exact ⟨ρ', st', .g y, p, ⟨vs, rfl, r⟩, hk1⟩
  | ptr rw off cs =>
    obtain ⟨blk, base, vs, F1, G1, rfl, hra, hcs, hlt, hth, rfl, rfl⟩ := hr
    rw [List.append_assoc] at h
    obtain ⟨ρ1, st1, xs, p, r, hlen, hk1⟩ := ics_out hcs h (fun g hg => hG g (List.mem_append_left _ hg)) hk
    obtain ⟨i, nx, hn, hk2⟩ := new_out hk1
    have hfoot : (Blk.box rw xs).foot ⟨blk, base, 0, 0, []⟩ = if rw = true then [blk] else [] := by cases rw <;> rfl
    have hshw : (Blk.box rw xs).shw ⟨blk, base, 0, 0, []⟩ = if rw = true then [] else [blk] := by cases rw <;> rfl
    have g := Put.made (l := ⟨blk, base, 0, 0, []⟩) hn (B := .box rw xs) (by rw [hfoot]; exact p.hr) ⟨⟨vs, hra, r⟩, fun e => by rw [hlen]; exact hth e⟩
      (fun x hx => by rw [hshw] at hx; exact hG x (List.mem_append_right _ hx))
    exact ⟨_, _, .c (.ptr i off), p.trans g, ⟨_, Map.add_same _ _ _, rfl⟩, hk2⟩

theorem i1s_out : ∀ {ts : List T1} {vs : List Value} {ρ : Map} {Z F G : List Nat} {st : St} {k : St → List V1 → Prop}, RepT1s w ts vs F G → HR c ρ (F ++ Z) Y st w → (∀ g ∈ G, g ∈ Y) → i1s st ts k →
    ∃ ρ' st' xs, Put c ρ Z Y st w ρ' st' ∧ V1sR ρ' xs vs ∧ k st' xs
  | [], [], ρ, Z, F, G, st, k, hr, h, _, hk => by
    obtain ⟨rfl, rfl⟩ := hr
    exact ⟨ρ, st, [], Put.refl h, trivial, hk⟩
  | t :: ts, v :: vs, ρ, Z, F, G, st, k, hr, h, hG, hk => by
    obtain ⟨F1, F2, G1, G2, h1, h2, rfl, rfl⟩ := hr
    rw [List.append_assoc] at h
    obtain ⟨ρ1, st1, x, p1, r1, hk1⟩ := i1_out h1 h (fun g hg => hG g (List.mem_append_left _ hg)) hk
    obtain ⟨ρ2, st2, xs, p2, r2, hk2⟩ := i1s_out h2 p1.hr (fun g hg => hG g (List.mem_append_right _ hg)) hk1
    exact ⟨ρ2, st2, x :: xs, p1.trans p2, ⟨r1.mono p2.le, r2⟩, hk2⟩
  | [], _ :: _, _, _, _, _, _, _, hr, _, _, _ => hr.elim
  | _ :: _, [], _, _, _, _, _, _, hr, _, _, _ => hr.elim

theorem itr_out {ρ : Map} {Z F G : List Nat} {st : St} {t : Tree} {v : Value} {k : St → TV → Prop} (hr : RepT w t v F G) (h : HR c ρ (F ++ Z) Y st w) (hG : ∀ g ∈ G, g ∈ Y) (hk : itr st t k) :
    ∃ ρ' st' x, Put c ρ Z Y st w ρ' st' ∧ TVR ρ' x v ∧ k st' x := by
  cases t with
  | v x =>
    have hk0 : i1 st x (fun st x => k st (.v x)) := hk
    obtain ⟨ρ', st', y, p, r, hk1⟩ := i1_out hr h hG hk0
    exact ⟨ρ', st', .v y, p, r, hk1⟩
  | tup cs =>
    obtain ⟨vs, rfl, hr⟩ := hr
    obtain ⟨ρ', st', y, p, r, hk1⟩ := i1s_out hr h hG hk
    exact ⟨ρ', st', .tup y, p, ⟨vs, rfl, r⟩, hk1⟩
  | fn f cs =>
    obtain ⟨vs, rfl, hr⟩ := hr
    obtain ⟨ρ', st', y, p, r, hk1⟩ := i1s_out hr h hG hk
    exact ⟨ρ', st', .fn f y, p, ⟨vs, rfl, r⟩, hk1⟩
  | rows n cs =>
    obtain ⟨blk, base, cc, vs, G1, rfl, hc, hra, hcs, hlt, rfl, rfl⟩ := hr
    have hk0 : i1 st (.ptr false 0 cs) (fun st x => match x with | .c (.ptr i 0) => k st (.rows i 0 n) | _ => False) := hk
    have hrp : RepT1 w (.ptr false 0 cs) (.pointer (some ⟨blk, base + 0, none⟩)) [] (G1 ++ [blk]) := ⟨blk, base, vs, [], G1, rfl, hra, hcs, hlt, (fun e => by cases e), rfl, by simp⟩
    obtain ⟨ρ', st', y, p, r, hk1⟩ := i1_out hrp h hG hk0
    split at hk1
    · rename_i i
      obtain ⟨l, hl, hv⟩ := r
      simp only [Nat.add_zero, Value.pointer.injEq, Option.some.injEq, Addr.mk.injEq, and_true] at hv
      exact ⟨ρ', st', .rows i 0 n, p, ⟨l, cc, hl, by rw [hv.1, hv.2]; rfl, hc⟩, hk1⟩
    · exact hk1.elim
def hdsOf (w : World) (v : Value) : List Value :=
  match v with
  | .slice (some a) n _ => (List.range n).map fun i => (w.cell? ⟨a.block, a.off + i, none⟩).getD .nilIface
  | _ => []
def hdOf (w : World) (t : Tree) (v : Value) : Option (List Value) :=
  match t with
  | .v (.c (.rows true _ _)) => some (hdsOf w v)
  | _ => none
def hds (w : World) : List Tree → List Value → List (Option (List Value))
  | a :: as, v :: vs => hdOf w a v :: hds w as vs
  | _, _ => []
theorem hdsOf_eq {w : World} {A : Option Addr} {l : Loc} {v : Value} {vs : List Value} (h : SlV A l v) (hc : l.len ≤ l.cap) (hr : w.rangeAt l.blk l.off vs) (hl : vs.length = l.len) : hdsOf w v = vs := by
  obtain ⟨rfl, h1, h2⟩ := h
  by_cases h0 : 0 < l.cap
  · rw [h2 h0]
    refine List.ext_getElem? fun i => ?_
    simp only [hdsOf, List.getElem?_map]
    by_cases hi : i < l.len
    · have hv : vs[i]? = some vs[i] := List.getElem?_eq_getElem (by omega)
      rw [List.getElem?_range hi, Option.map_some, hr i _ hv, hv]; rfl
    · rw [List.getElem?_eq_none (by simp; omega), List.getElem?_eq_none (by omega)]; rfl
  · have : l.len = 0 := by omega
    have hv : vs = [] := List.eq_nil_of_length_eq_zero (by omega)
    subst hv
    cases A with
    | none => rfl
    | some a => simp [hdsOf, this]
theorem hdsOf_range {w : World} {A : Option Addr} {l : Loc} {v : Value} (h : SlV A l v) (hc : l.len ≤ l.cap) (hr : All2 RowV l.ins (hdsOf w v)) : w.rangeAt l.blk l.off (hdsOf w v) := fun j u hj => by
  obtain ⟨rfl, h1, h2⟩ := h
  by_cases h0 : 0 < l.cap
  · rw [h2 h0] at hj hr
    obtain ⟨q, _, A', he, _⟩ := All2.mem_right hr (List.mem_of_getElem? hj)
    simp only [hdsOf, List.getElem?_map, Option.map_eq_some_iff] at hj
    obtain ⟨i, hi, hu⟩ := hj
    rw [List.getElem?_eq_some_iff] at hi
    obtain ⟨hi, rfl⟩ := hi
    simp only [List.getElem_range] at hu
    cases hc : w.cell? ⟨l.blk, l.off + j, none⟩ with
    | none => rw [hc] at hu; rw [← hu] at he; cases he
    | some z => rw [hc] at hu; rw [← hu]; rfl
  · have h3 : l.len = 0 := by omega
    cases A with
    | none => cases hj
    | some a => simp [hdsOf, h3] at hj
theorem hdR_of {ρ : Map} {w : World} {nn : Bool} {τ' : FT} {b : Nat} {l : Loc} {A : Option Addr} {v : Value} {rw : Bool} {τ : FT} {xss : List (List τ.Ty)} (h : SlV A l v) (hl : ρ b = some l) (hB : BlkR w none0 l (.rows rw τ xss)) : HdR ρ (.v (.c (.sl nn τ' b))) (some (hdsOf w v)) := fun hs e => by
  cases e
  obtain ⟨h1, h2, ⟨vs, h3, h3'⟩, h4, _⟩ := hB
  refine ⟨nn, τ', b, l, rfl, hl, ?_⟩
  rw [hdsOf_eq h h2 h3 (by rw [← h3'.length, h4.length, h1])]; exact h3'
theorem itr_outH {ρ : Map} {Z F G : List Nat} {st : St} {t : Tree} {v : Value} {k : St → TV → Prop} (hr : RepT w t v F G) (h : HR c ρ (F ++ Z) Y st w) (hG : ∀ g ∈ G, g ∈ Y) (hk : itr st t k) :
    ∃ ρ' st' x, Put c ρ Z Y st w ρ' st' ∧ TVR ρ' x v ∧ HdR ρ' x (hdOf w t v) ∧ k st' x := by
  have key : (∃ τ xss, t = .v (.c (.rows true τ xss))) ∨ hdOf w t v = none := by
    unfold hdOf
    split
    · exact .inl ⟨_, _, rfl⟩
    · exact .inr rfl
  rcases key with ⟨τ, xss, rfl⟩ | key
  · obtain ⟨l, A, hs, hB, rfl, rfl⟩ := hr
    have hk1 : new st (.rows true τ xss) (fun st i => k st (.v (.c (.sl false .str i)))) := hk
    obtain ⟨i, nx, hn, hk2⟩ := new_out hk1
    exact ⟨_, _, .v (.c (.sl false .str i)), Put.made (l := l) hn (B := .rows true τ xss) h hB hG, ⟨l, A, Map.add_same _ _ _, hs.1, hB.2.1, hs.2.1, hs.2.2, fun e => by cases e⟩, hdR_of hs (Map.add_same _ _ _) hB, hk2⟩
  · obtain ⟨ρ', st', x, h1, h2, h3⟩ := itr_out hr h hG hk
    exact ⟨ρ', st', x, h1, h2, (fun hs e => by rw [key] at e; cases e), h3⟩
theorem itrs_out : ∀ {ts : List Tree} {vs : List Value} {ρ : Map} {Z F G : List Nat} {st : St} {k : St → List TV → Prop}, RepTs w ts vs F G → HR c ρ (F ++ Z) Y st w → (∀ g ∈ G, g ∈ Y) → itrs st ts k →
    ∃ ρ' st' xs, Put c ρ Z Y st w ρ' st' ∧ TVsR ρ' xs vs ∧ All2 (HdR ρ') xs (hds w ts vs) ∧ k st' xs
  | [], [], ρ, Z, F, G, st, k, hr, h, _, hk => by
    obtain ⟨rfl, rfl⟩ := hr
    exact ⟨ρ, st, [], Put.refl h, trivial, trivial, hk⟩
  | t :: ts, v :: vs, ρ, Z, F, G, st, k, hr, h, hG, hk => by
    obtain ⟨F1, F2, G1, G2, h1, h2, rfl, rfl⟩ := hr
    rw [List.append_assoc] at h
    obtain ⟨ρ1, st1, x, p1, r1, d1, hk1⟩ := itr_outH h1 h (fun g hg => hG g (List.mem_append_left _ hg)) hk
    obtain ⟨ρ2, st2, xs, p2, r2, d2, hk2⟩ := itrs_out h2 p1.hr (fun g hg => hG g (List.mem_append_right _ hg)) hk1
    exact ⟨ρ2, st2, x :: xs, p1.trans p2, ⟨r1.mono p2.le, r2⟩, ⟨d1.mono p2.le, d2⟩, hk2⟩
  | [], _ :: _, _, _, _, _, _, _, hr, _, _, _ => hr.elim
  | _ :: _, [], _, _, _, _, _, _, hr, _, _, _ => hr.elim
end intern
end Go.Pi
