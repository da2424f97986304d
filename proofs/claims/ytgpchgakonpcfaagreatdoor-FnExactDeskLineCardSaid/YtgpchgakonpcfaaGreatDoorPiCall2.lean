/- Contracts of functions, and a call under a contract. No conditions. -/
import Derived.Test.YtgpchgakonpcfaaGreatDoorPiCall
namespace Go.Pi
set_option linter.unusedVariables false
set_option linter.unusedSimpArgs false

def Callable (P : Program) (f : Nat) : Prop := ∀ (args : Array Value) (w : World), (callFunc f args).run P w = .ok (.enter f args) w
def HdK (w w' : World) : List Tree → List Tree → List Value → Prop
  | a :: as, o :: os, v :: vs => ((∃ τ xss, a = .v (.c (.rows true τ xss))) → (∃ τ xss, o = .v (.c (.rows true τ xss))) → ∀ ins, All2 RowV ins (hdsOf w v) → All2 RowV ins (hdsOf w' v)) ∧ HdK w w' as os vs
  | _, _, _ => True
def SpecQ (P : Program) (f : Nat) (lend : List Bool) (ain : List Tree) (Q : Tree → List Tree → Prop) : Prop :=
  ∀ (w : World) (vs : List Value) (F G : List Nat), RepTs w ain vs F G → F.Nodup → (∀ x ∈ F, x < w.heap.size) → (∀ x ∈ G, x < w.heap.size ∧ x ∉ F) → Low P w F →
    Calls P f vs.toArray w fun e w' => ∃ res os, Q res os ∧ ∃ v F1 G1 Fo Go, e = .returned v ∧ RepT w' res v F1 G1 ∧ RepTs w' os (lends lend vs) Fo Go ∧ (Fo ++ F1).Nodup ∧
      (∀ x ∈ Fo ++ F1, x < w'.heap.size ∧ (x ∈ F ∨ w.heap.size ≤ x)) ∧ (∀ x ∈ Go ++ G1, x ∈ G) ∧ Frame w w' F ∧ HdK w w' (lends lend ain) os (lends lend vs)
abbrev Spec (P : Program) (f : Nat) (lend : List Bool) (ain : List Tree) (res : Tree) (os : List Tree) : Prop := SpecQ P f lend ain fun r o => r = res ∧ o = os
theorem SpecQ.mono {P : Program} {f : Nat} {lend : List Bool} {ain : List Tree} {Q Q' : Tree → List Tree → Prop} (h : SpecQ P f lend ain Q) (k : ∀ r o, Q r o → Q' r o) : SpecQ P f lend ain Q' := fun w vs F G h1 h2 h3 h4 h5 =>
  (h w vs F G h1 h2 h3 h4 h5).mono fun e w' he => by obtain ⟨r, o, hq, he⟩ := he; exact ⟨r, o, k r o hq, he⟩
def CallsX (P : Program) (f : Nat) (args : Array Value) (w : World) (R : Ending → World → Prop) : Prop :=
  (Callable P f ∧ Calls P f args w R) ∨ ∃ v w', (callFunc f args).run P w = .ok (.value v) w' ∧ R (.returned v) w'
theorem CallsX.mono {P : Program} {f : Nat} {args : Array Value} {w : World} {R R' : Ending → World → Prop} (h : CallsX P f args w R) (hr : ∀ e w', R e w' → R' e w') : CallsX P f args w R' := by
  rcases h with ⟨hc, h⟩ | ⟨v, w', h1, h2⟩
  · exact .inl ⟨hc, h.mono hr⟩
  · exact .inr ⟨v, w', h1, hr _ _ h2⟩
def SpecX (P : Program) (f : Nat) (lend : List Bool) (ain : List Tree) (Q : Tree → List Tree → Prop) : Prop :=
  ∀ (w : World) (vs : List Value) (F G : List Nat), RepTs w ain vs F G → F.Nodup → (∀ x ∈ F, x < w.heap.size) → (∀ x ∈ G, x < w.heap.size ∧ x ∉ F) → Low P w F →
    CallsX P f vs.toArray w fun e w' => ∃ res os, Q res os ∧ ∃ v F1 G1 Fo Go, e = .returned v ∧ RepT w' res v F1 G1 ∧ RepTs w' os (lends lend vs) Fo Go ∧ (Fo ++ F1).Nodup ∧
      (∀ x ∈ Fo ++ F1, x < w'.heap.size ∧ (x ∈ F ∨ w.heap.size ≤ x)) ∧ (∀ x ∈ Go ++ G1, x ∈ G) ∧ Frame w w' F ∧ HdK w w' (lends lend ain) os (lends lend vs)
theorem SpecQ.x {P : Program} {f : Nat} {lend : List Bool} {ain : List Tree} {Q : Tree → List Tree → Prop} (hc : Callable P f) (h : SpecQ P f lend ain Q) : SpecX P f lend ain Q := fun w vs F G h1 h2 h3 h4 h5 => .inl ⟨hc, h w vs F G h1 h2 h3 h4 h5⟩
def FunOk (P : Program) (c : Fun) : Prop := ∀ (ain : List Tree) (K : Tree → List Tree → Prop), c.go ain K → SpecX P c.f c.lend ain K
def EnvOk (P : Program) (E : List Fun) : Prop := ∀ c ∈ E, FunOk P c

theorem fgo_out {P : Program} : ∀ {E : List Fun} {f : Nat} {ts : List Tree} {K : Tree → List Tree → Prop}, EnvOk P E → fgo E f ts K → SpecX P f (flend E f) ts K
  | [], _, _, _, _, h => h.elim
  | c :: cs, f, ts, K, hE, h => by
    simp only [fgo] at h
    cases hb : Nat.beq c.f f with
    | true =>
      rw [hb] at h
      have e : c.f = f := Nat.eq_of_beq_eq_true hb
      subst e
      have h2 := hE c (by simp)
      simp only [flend, hb]
      exact h2 _ _ h
    | false =>
      rw [hb] at h
      simp only [flend, hb]
      exact fgo_out (fun d hd => hE d (by simp [hd])) h

theorem roC_G {w : World} {t : TC} {v : Value} {F G : List Nat} (h : RepTC w t v F G) (hr : roC t = false) : G = [] := by
  cases t
  case rows rw τ xss =>
    cases rw with
    | true => obtain ⟨_, _, _, _, _, h⟩ := h; exact h
    | false => cases hr
  all_goals simp only [roC] at hr <;> first | (cases hr; done) | exact h.2.2 | (obtain ⟨_, _, _, _, _, h⟩ := h; exact h)
theorem roL_G {w : World} : ∀ {ts : List TC} {vs : List Value} {F G : List Nat}, RepTCs w ts vs F G → roL ts = false → G = []
  | [], [], _, _, h, _ => h.2
  | t :: ts, v :: vs, _, _, h, hr => by
    obtain ⟨F1, F2, G1, G2, h1, h2, rfl, rfl⟩ := h
    simp only [roL] at hr
    split at hr
    · cases hr
    · rename_i h0
      rw [roC_G h1 h0, roL_G h2 hr]; rfl
  | [], _ :: _, _, _, h, _ => h.elim
  | _ :: _, [], _, _, h, _ => h.elim
theorem ro1_G {w : World} {t : T1} {v : Value} {F G : List Nat} (h : RepT1 w t v F G) (hr : ro1 t = false) : G = [] := by
  cases t with
  | c x => exact roC_G h hr
  | g cs => obtain ⟨vs, rfl, h⟩ := h; exact roL_G h hr
  | ptr rw off cs =>
    obtain ⟨blk, base, vs, F1, G1, rfl, _, hcs, _, _, rfl, rfl⟩ := h
    cases rw with
    | true => rw [roL_G hcs hr]; rfl
    | false => cases hr
theorem ro1s_G {w : World} : ∀ {ts : List T1} {vs : List Value} {F G : List Nat}, RepT1s w ts vs F G → ro1s ts = false → G = []
  | [], [], _, _, h, _ => h.2
  | t :: ts, v :: vs, _, _, h, hr => by
    obtain ⟨F1, F2, G1, G2, h1, h2, rfl, rfl⟩ := h
    simp only [ro1s] at hr
    split at hr
    · cases hr
    · rename_i h0
      rw [ro1_G h1 h0, ro1s_G h2 hr]; rfl
  | [], _ :: _, _, _, h, _ => h.elim
  | _ :: _, [], _, _, h, _ => h.elim
theorem roT_G {w : World} {t : Tree} {v : Value} {F G : List Nat} (h : RepT w t v F G) (hr : roT t = false) : G = [] := by
  cases t with
  | v x => exact ro1_G h hr
  | tup cs => obtain ⟨vs, rfl, h⟩ := h; exact ro1s_G h hr
  | fn f cs => obtain ⟨vs, rfl, h⟩ := h; exact ro1s_G h hr
  | rows n cs => cases hr
theorem roTs_G {w : World} : ∀ {ts : List Tree} {vs : List Value} {F G : List Nat}, RepTs w ts vs F G → roTs ts = false → G = []
  | [], [], _, _, h, _ => h.2
  | t :: ts, v :: vs, _, _, h, hr => by
    obtain ⟨F1, F2, G1, G2, h1, h2, rfl, rfl⟩ := h
    simp only [roTs] at hr
    split at hr
    · cases hr
    · rename_i h0
      rw [roT_G h1 h0, roTs_G h2 hr]; rfl
  | [], _ :: _, _, _, h, _ => h.elim
  | _ :: _, [], _, _, h, _ => h.elim

section
variable {P : Program} {c : Ctx P} {ρ : Map} {Z Y : List Nat} {st : St} {w : World}

theorem isRw_eq {b : Nat} {B : Blk} (h : st.hget b = some B) : isRw st b = B.rw := by
  unfold isRw; rw [h]; cases B <;> rfl
theorem foot_rw {B : Blk} {l : Loc} {x : Nat} (h : x ∈ B.foot l) : B.rw = true := by
  cases B with
  | box rw cs => cases rw <;> simp [Blk.foot, Blk.rw] at h ⊢
  | flat rw τ cap xs => cases rw <;> simp [Blk.foot, Blk.rw] at h ⊢
  | rows rw τ xss => cases rw <;> simp [Blk.foot, Blk.rw] at h ⊢
theorem mem_rwIds : ∀ {l : List Nat} {b : Nat}, b ∈ rwIds st l ↔ b ∈ l ∧ isRw st b = true
  | [], b => by simp [rwIds]
  | x :: xs, b => by
    simp only [rwIds]
    cases hx : isRw st x with
    | true =>
      simp only [List.mem_cons, mem_rwIds (l := xs)]
      constructor
      · rintro (rfl | ⟨h1, h2⟩)
        · exact ⟨.inl rfl, hx⟩
        · exact ⟨.inr h1, h2⟩
      · rintro ⟨rfl | h1, h2⟩
        · exact .inl rfl
        · exact .inr ⟨h1, h2⟩
    | false =>
      simp only [List.mem_cons, mem_rwIds (l := xs)]
      constructor
      · rintro ⟨h1, h2⟩; exact ⟨.inr h1, h2⟩
      · rintro ⟨rfl | h1, h2⟩
        · rw [hx] at h2; cases h2
        · exact ⟨h1, h2⟩
theorem feet_rwIds : ∀ (l : List Nat), feet ρ st (rwIds st l) = feet ρ st l
  | [] => rfl
  | x :: xs => by
    simp only [rwIds]
    cases hx : isRw st x with
    | true => simp only [feet, List.flatMap_cons]; rw [show xs.flatMap (footOf ρ st) = feet ρ st xs from rfl, ← feet_rwIds xs]
    | false =>
      have h0 : footOf ρ st x = [] := by
        rw [List.eq_nil_iff_forall_not_mem]
        intro y hy
        obtain ⟨B, l, hB, hl, hm⟩ := footOf_mem hy
        rw [isRw_eq hB, foot_rw hm] at hx; cases hx
      simp only [feet, List.flatMap_cons, h0, List.nil_append]; exact feet_rwIds xs
theorem feet_disj (h : HR c ρ Z Y st w) {a b x : Nat} (hne : a ≠ b) (hx : x ∈ footOf ρ st a) : x ∉ footOf ρ st b ∧ x ∉ shwOf ρ st b := by
  obtain ⟨B, l, hB, hl, hm⟩ := footOf_mem hx
  refine ⟨fun hy => ?_, fun hy => ?_⟩
  · obtain ⟨B', l', hB', hl', hm'⟩ := footOf_mem hy
    exact (h.sp _ _ _ _ _ _ hB hl hB' hl' hne x hm).1 hm'
  · obtain ⟨B', l', hB', hl', hm'⟩ := shwOf_mem hy
    exact (h.sp _ _ _ _ _ _ hB hl hB' hl' hne x hm).2 hm'
theorem footOf_nodup (h : HR c ρ Z Y st w) (b : Nat) : (footOf ρ st b).Nodup := by
  cases hg : st.hget b with
  | none => simp [footOf, hg]
  | some B =>
    obtain ⟨l, hl, hB⟩ := h.bk _ _ hg
    rw [footOf_eq hg hl]
    exact hB.nodup
theorem feet_nodup (h : HR c ρ Z Y st w) : ∀ {l : List Nat}, l.Nodup → (feet ρ st l).Nodup
  | [], _ => List.nodup_nil
  | x :: xs, hn => by
    obtain ⟨h1, h2⟩ := List.nodup_cons.1 hn
    simp only [feet, List.flatMap_cons]
    refine List.nodup_append.2 ⟨footOf_nodup h x, feet_nodup h h2, fun y hy z hz e => ?_⟩
    subst e
    obtain ⟨b, hb, hyb⟩ := List.mem_flatMap.1 hz
    exact (feet_disj h (fun e : x = b => h1 (e ▸ hb)) hy).1 hyb

theorem kill_out : ∀ {bs : List Nat} {st : St} {Z : List Nat} {k : St → Prop}, HR c ρ Z Y st w → bs.Nodup → (∀ b ∈ bs, isRw st b = true) → kill bs st k →
    ∃ st' Z', HR c ρ Z' Y st' w ∧ Z'.Perm (feet ρ st bs ++ Z) ∧ Same st st' ∧ (∀ x, st'.hget x = if x ∈ bs then none else st.hget x) ∧ st'.nx = st.nx ∧ st'.fr = st.fr ∧ k st'
  | [], st, Z, k, h, _, _, hk => ⟨st, Z, h, List.Perm.refl _, Same.refl st, fun x => by simp, rfl, rfl, hk⟩
  | b :: bs, st, Z, k, h, hn, hr, hk => by
    obtain ⟨hmd, hk1⟩ := md_out hk
    have hk2 := setB_out hk1
    obtain ⟨h1, h2⟩ := List.nodup_cons.1 hn
    have hb := hr b (by simp)
    cases hg : st.hget b with
    | none => simp [isRw, hg] at hb
    | some B =>
      obtain ⟨l, hl, _⟩ := h.bk b B hg
      have hget : ∀ x, (⟨st.tm, (b, none) :: st.hp, st.nx, st.ar, st.q, st.fr⟩ : St).hget x = if x = b then none else st.hget x := fun x => by rw [hget_cons rfl]; rfl
      have h' := h.release hg hl hget rfl rfl rfl hmd
      obtain ⟨st', Z', a1, a2, a3, a4, a5, a6, a7⟩ := kill_out (bs := bs) h' h2 (fun x hx => by
        have hne : x ≠ b := fun e => h1 (e ▸ hx)
        have := hr x (by simp [hx])
        unfold isRw at this ⊢
        rw [hget, if_neg hne]; exact this) hk2
      have hfeet : feet ρ ⟨st.tm, (b, none) :: st.hp, st.nx, st.ar, st.q, st.fr⟩ bs = feet ρ st bs := by
        have key : ∀ l : List Nat, b ∉ l → feet ρ ⟨st.tm, (b, none) :: st.hp, st.nx, st.ar, st.q, st.fr⟩ l = feet ρ st l := by
          intro l
          induction l with
          | nil => intro _; rfl
          | cons x xs ih =>
            intro hx
            have hxb : x ≠ b := fun e => hx (by simp [e])
            simp only [feet, List.flatMap_cons] at ih ⊢
            rw [ih (fun h => hx (by simp [h]))]
            congr 1
            unfold footOf
            rw [hget, if_neg hxb]
        exact key bs h1
      refine ⟨st', Z', a1, ?_, ⟨a3.tm, a3.ar, a3.q⟩, fun x => ?_, a5, a6, a7⟩
      · rw [hfeet] at a2
        refine a2.trans ?_
        simp only [feet, List.flatMap_cons]
        rw [show footOf ρ st b = B.foot l from footOf_eq hg hl]
        rw [← List.append_assoc]
        exact List.Perm.append_right _ List.perm_append_comm
      · rw [a4, hget]
        by_cases hx : x ∈ bs
        · simp [hx]
        · by_cases e : x = b
          · simp [e]
          · simp [hx, e]

theorem HR.less {F : List Nat} (h : HR c ρ (F ++ Z) Y st w) : HR c ρ Z Y st w :=
  ⟨h.bk, h.sp, h.ow, (List.nodup_append.1 h.zn).2.1, fun z hz => h.zb z (List.mem_append_right _ hz), h.yb, h.nx, h.nf, h.fr, h.qf, fun hq z hz => h.qz hq z (List.mem_append_right _ hz), h.qw⟩
theorem rwIds_append : ∀ (a b : List Nat), rwIds st (a ++ b) = rwIds st a ++ rwIds st b
  | [], _ => rfl
  | x :: xs, b => by
    simp only [rwIds, List.cons_append]
    split <;> simp [rwIds_append xs b]

structure Bk {P : Program} (c : Ctx P) (ρ : Map) (Z Y : List Nat) (s0 st : St) (w : World) (ids : List Nat) (ρ' : Map) (st' : St) : Prop where
  hr : HR c ρ' Z Y st' w
  le : ρ.le ρ'
  same : Same st st'
  nx : ∀ i ∈ st'.nx, i ∈ st.nx
  get : ∀ y, y ∉ rwIds s0 ids → y ∉ st.nx → st'.hget y = st.hget y
def Free (s0 st : St) (ids : List Nat) : Prop := ∀ b ∈ rwIds s0 ids, st.hget b = none ∧ b ∉ st.nx
theorem Bk.refl {s0 : St} {ids : List Nat} (h : HR c ρ Z Y st w) : Bk c ρ Z Y s0 st w ids ρ st := ⟨h, Map.le_refl ρ, Same.refl st, fun _ h => h, fun _ _ _ => rfl⟩
theorem Free.next {s0 st' : St} {ids ids' : List Nat} {ρ' : Map} (hf : Free s0 st (ids ++ ids')) (hn : (rwIds s0 (ids ++ ids')).Nodup) (b : Bk c ρ Z Y s0 st w ids ρ' st') : Free s0 st' ids' := fun x hx => by
  rw [rwIds_append] at hn
  have hx2 : x ∈ rwIds s0 (ids ++ ids') := by rw [rwIds_append]; exact List.mem_append_right _ hx
  obtain ⟨f1, f2⟩ := hf x hx2
  have hx3 : x ∉ rwIds s0 ids := fun h => (List.nodup_append.1 hn).2.2 x h x hx rfl
  exact ⟨by rw [b.get x hx3 f2]; exact f1, fun h => f2 (b.nx x h)⟩
theorem Bk.trans {s0 st' st'' : St} {ids ids' : List Nat} {ρ' ρ'' : Map} {Z' : List Nat} (b : Bk c ρ Z' Y s0 st w ids ρ' st') (b' : Bk c ρ' Z Y s0 st' w ids' ρ'' st'') : Bk c ρ Z Y s0 st w (ids ++ ids') ρ'' st'' :=
  ⟨b'.hr, Map.le_trans b.le b'.le, b.same.trans b'.same, fun i hi => b.nx i (b'.nx i hi), fun y hy hn => by
    rw [rwIds_append] at hy
    rw [b'.get y (fun h => hy (List.mem_append_right _ h)) (fun h => hn (b.nx y h)), b.get y (fun h => hy (List.mem_append_left _ h)) hn]⟩

theorem BlkR.same {rw : Bool} {τ : FT} {cap : Option Nat} {xs : List τ.Ty} {l l' : Loc} {A A' : Option Addr} {v : Value} (h : BlkR w none0 l' (.flat rw τ cap xs)) (h1 : SlV A l v) (h2 : SlV A' l' v) :
    BlkR w none0 l (.flat rw τ cap xs) ∧ (Blk.flat rw τ cap xs).foot l = (Blk.flat rw τ cap xs).foot l' := by
  obtain ⟨rfl, a2, a3⟩ := h1
  obtain ⟨e, b2, b3⟩ := h2
  injection e with e1 e2 e3
  subst e1
  obtain ⟨c1, c2, c3, c4, c5⟩ := h
  by_cases hc : 0 < l.cap
  · have ea := (a3 hc).symm.trans (b3 (by omega))
    injection ea with ea
    injection ea with ea1 ea2 ea3
    refine ⟨⟨by omega, by omega, fun n hn => by rw [e3]; exact c3 n hn, by rw [ea1, ea2]; exact c4, fun hr => by rw [ea1, ea2, e3]; exact c5 hr⟩, ?_⟩
    cases rw with
    | true => simp only [Blk.foot, e3, ea1]
    | false => rfl
  · have hx : xs = [] := List.eq_nil_of_length_eq_zero (by omega)
    subst hx
    have h0 : l.cap = 0 := by omega
    refine ⟨⟨by omega, by omega, fun n hn => by rw [e3]; exact c3 n hn, Lie.nil _ _ _ _, fun _ => by rw [h0]; exact ⟨fun j hj => by simp at hj, fun h => by simp at h⟩⟩, ?_⟩
    cases rw with
    | true => simp only [Blk.foot]; rw [if_neg (by omega), if_neg (by omega)]
    | false => rfl

theorem HR.again {b : Nat} {B : Blk} {l : Loc} {s0 : St} {ids : List Nat} (hl : ρ b = some l) (hnone : st.hget b = none) (hnx : b ∉ st.nx) (h : HR c ρ (B.foot l ++ Z) Y st w) (hB : BlkR w ρ l B) (hs : ∀ x ∈ B.shw l, x ∈ Y) (hid : b ∈ rwIds s0 ids) :
    Bk c ρ Z Y s0 st w ids ρ ⟨st.tm, (b, some B) :: st.hp, st.nx, st.ar, st.q, st.fr⟩ := by
  have hget : ∀ x, (⟨st.tm, (b, some B) :: st.hp, st.nx, st.ar, st.q, st.fr⟩ : St).hget x = if x = b then some B else st.hget x := fun x => by rw [hget_cons rfl]; rfl
  exact ⟨HR.attach (Map.le_refl ρ) (fun _ _ => rfl) hl hnone h hB hs hget ⟨[], rfl⟩ hnx rfl (fun i hi => .inl hi), Map.le_refl ρ, ⟨rfl, rfl, rfl⟩, fun _ h => h, fun y hy _ => by
    rw [hget, if_neg (fun e : y = b => hy (e ▸ hid))]⟩

theorem backC_out {s0 : St} {t : TC} {v : Value} {x : Cell} {F G : List Nat} {k : St → Prop} (hr : RepTC w t v F G) (hv : CellR ρ x v) (h : HR c ρ (F ++ Z) Y st w) (hf : Free s0 st (idC s0 x))
    (hk : backC s0 st x t k) : ∃ st', Bk c ρ Z Y s0 st w (idC s0 x) ρ st' ∧ k st' := by
  have skip : k st → ∃ st', Bk c ρ Z Y s0 st w (idC s0 x) ρ st' ∧ k st' := fun hk => ⟨st, Bk.refl h.less, hk⟩
  cases x with
  | sl nn τ b =>
    simp only [backC] at hk
    split at hk
    · rename_i σ cap xs hg
      split at hk
      · rename_i σ' ys
        split at hk
        · rename_i he
          have he := ftEq_eq he
          subst he
          obtain ⟨_, hk1⟩ := chk_o hk
          have hk2 := setB_out hk1
          obtain ⟨l', A', s', hB, rfl, rfl⟩ := hr
          obtain ⟨l, A, hl, rfl, hle, h1, h2, h3⟩ := hv
          obtain ⟨hB', hfo⟩ := hB.same ⟨rfl, h1, h2⟩ s'
          have hid : b ∈ rwIds s0 (idC s0 (.sl nn τ b)) := by
            rw [mem_rwIds]; exact ⟨by simp [idC, hg], by rw [isRw_eq hg]; rfl⟩
          obtain ⟨f1, f2⟩ := hf b hid
          rw [← hfo] at h
          exact ⟨_, HR.again (B := .flat true σ' none ys) hl f1 f2 h hB' (fun x hx => by simp [Blk.shw] at hx) hid, hk2⟩
        · exact hk.elim
      · exact skip hk
      · exact hk.elim
    · exact skip hk
  | slp nn τ b o n => exact hk.elim
  | rsl τ b i => exact hk.elim
  | rel _ _ _ _ _ => exact skip hk
  | int _ _ => exact skip hk
  | tt => exact skip hk
  | ff => exact skip hk
  | bool _ => exact skip hk
  | str _ => exact skip hk
  | nilp => exact skip hk
  | ptr _ _ => exact skip hk
  | eptr _ _ _ _ => exact skip hk
  | nils _ => exact skip hk
  | nilz _ => exact skip hk
  | nili => exact skip hk
  | ife => exact skip hk
  | unk => exact skip hk
theorem backL_out {s0 : St} : ∀ {ts : List TC} {vs : List Value} {xs : List Cell} {F G : List Nat} {st : St} {k : St → Prop}, RepTCs w ts vs F G → CellsR ρ xs vs → HR c ρ (F ++ Z) Y st w →
    (rwIds s0 (idL s0 xs)).Nodup → Free s0 st (idL s0 xs) → backL s0 st xs ts k → ∃ st', Bk c ρ Z Y s0 st w (idL s0 xs) ρ st' ∧ k st'
  | [], [], [], F, G, st, k, hr, hv, h, hn, hf, hk => by
    obtain ⟨rfl, rfl⟩ := hr
    exact ⟨st, Bk.refl h, hk⟩
  | t :: ts, v :: vs, x :: xs, F, G, st, k, hr, hv, h, hn, hf, hk => by
    obtain ⟨F1, F2, G1, G2, r1, r2, rfl, rfl⟩ := hr
    rw [List.append_assoc] at h
    have hn1 : (rwIds s0 (idC s0 x ++ idL s0 xs)).Nodup := hn
    have hf1 : Free s0 st (idC s0 x ++ idL s0 xs) := hf
    obtain ⟨st1, b1, hk1⟩ := backC_out r1 hv.1 h (fun b hb => hf1 b (by rw [rwIds_append]; exact List.mem_append_left _ hb)) hk
    obtain ⟨st2, b2, hk2⟩ := backL_out r2 hv.2 b1.hr (by rw [rwIds_append] at hn1; exact (List.nodup_append.1 hn1).2.1) (hf1.next hn1 b1) hk1
    exact ⟨st2, b1.trans b2, hk2⟩
  | [], [], _ :: _, _, _, _, _, _, hv, _, _, _, _ => hv.elim
  | _ :: _, _ :: _, [], _, _, _, _, _, hv, _, _, _, _ => hv.elim
  | [], _ :: _, _, _, _, _, _, hr, _, _, _, _, _ => hr.elim
  | _ :: _, [], _, _, _, _, _, hr, _, _, _, _, _ => hr.elim

theorem back1_out {s0 : St} {t : T1} {v : Value} {x : V1} {F G : List Nat} {k : St → Prop} (hr : RepT1 w t v F G) (hv : V1R ρ x v) (h : HR c ρ (F ++ Z) Y st w) (hG : ∀ g ∈ G, g ∈ Y)
    (hn : (rwIds s0 (id1 s0 x)).Nodup) (hf : Free s0 st (id1 s0 x)) (hk : back1 s0 st x t k) : ∃ ρ' st', Bk c ρ Z Y s0 st w (id1 s0 x) ρ' st' ∧ k st' := by
  cases x with
  | g cs =>
    cases t with
    | g ts =>
      obtain ⟨vs, rfl, hr⟩ := hr
      obtain ⟨us, hu, hv⟩ := hv
      have hvu : vs = us := by injection hu with hu; simpa using congrArg Array.toList hu
      subst hvu
      obtain ⟨st', b, hk1⟩ := backL_out hr hv h hn hf hk
      exact ⟨ρ, st', b, hk1⟩
    | c _ => exact hk.elim
    | ptr _ _ _ => exact hk.elim
  | c x =>
    have plain : ∀ t', RepTC w t' v F G → backC s0 st x t' k → id1 s0 (.c x) = idC s0 x → ∃ ρ' st', Bk c ρ Z Y s0 st w (id1 s0 (.c x)) ρ' st' ∧ k st' := fun t' hr hk e => by
      rw [e] at hf ⊢
      obtain ⟨st', b, hk1⟩ := backC_out hr hv h hf hk
      exact ⟨ρ, st', b, hk1⟩
    cases x with
    | ptr b off =>
      simp only [back1] at hk
      split at hk
      · rename_i cs0 hg
        cases t with
        | c _ => exact hk.elim
        | g _ => exact hk.elim
        | ptr rw off' ts =>
          cases rw with
          | false => exact hk.elim
          | true =>
            simp only at hk
            split at hk
            · rename_i he
              have he : off = off' := Nat.eq_of_beq_eq_true he
              subst he
              obtain ⟨blk, base, vs, F1, G1, rfl, hra, hcs, hlt, hth, rfl, rfl⟩ := hr
              obtain ⟨l, hl, e⟩ := hv
              injection e with e
              injection e with e
              injection e with e1 e2 e3
              have e2 : base = l.off := by omega
              subst e1 e2
              have hid : id1 s0 (.c (.ptr b off)) = idL s0 cs0 ++ [b] := by simp [id1, hg]
              have hbid : b ∈ rwIds s0 (id1 s0 (.c (.ptr b off))) := by rw [hid, mem_rwIds]; exact ⟨by simp, by rw [isRw_eq hg]; rfl⟩
              obtain ⟨f1, f2⟩ := hf b hbid
              rw [List.append_assoc] at h
              obtain ⟨ρ1, st1, xs, p, r, hlen, hk1⟩ := ics_out hcs h (fun g hg => hG g (List.mem_append_left _ hg)) hk
              have hk2 := setB_out hk1
              have b2 := HR.again (s0 := s0) (ids := id1 s0 (.c (.ptr b off))) (B := .box true xs) (p.le _ _ hl) ((p.get b f2).trans f1) (fun hb => f2 (p.nx b hb)) p.hr ⟨⟨vs, hra, r⟩, fun _ => by rw [hlen]; exact hth rfl⟩ (fun x hx => by simp [Blk.shw] at hx) hbid
              exact ⟨ρ1, _, ⟨b2.hr, Map.le_trans p.le b2.le, p.same.trans b2.same, fun i hi => p.nx i (b2.nx i hi), fun y hy hn => (b2.get y hy (fun h => hn (p.nx y h))).trans (p.get y hn)⟩, hk2⟩
            · exact hk.elim
      · exact ⟨ρ, st, Bk.refl h.less, hk⟩
      · exact hk.elim
    | eptr τ b i o =>
      cases t with
      | c t => exact ⟨ρ, st, Bk.refl h.less, hk⟩
      | g _ => exact hk.elim
      | ptr _ _ _ => exact hk.elim
    | int _ _ => cases t with
      | c t => exact plain t hr hk rfl
      | g _ => exact hk.elim
      | ptr _ _ _ => exact hk.elim
    | tt => cases t with
      | c t => exact plain t hr hk rfl
      | g _ => exact hk.elim
      | ptr _ _ _ => exact hk.elim
    | ff => cases t with
      | c t => exact plain t hr hk rfl
      | g _ => exact hk.elim
      | ptr _ _ _ => exact hk.elim
    | bool _ => cases t with
      | c t => exact plain t hr hk rfl
      | g _ => exact hk.elim
      | ptr _ _ _ => exact hk.elim
    | str _ => cases t with
      | c t => exact plain t hr hk rfl
      | g _ => exact hk.elim
      | ptr _ _ _ => exact hk.elim
    | nilp => cases t with
      | c t => exact plain t hr hk rfl
      | g _ => exact hk.elim
      | ptr _ _ _ => exact hk.elim
    | nils _ => cases t with
      | c t => exact plain t hr hk rfl
      | g _ => exact hk.elim
      | ptr _ _ _ => exact hk.elim
    | sl _ _ _ => cases t with
      | c t => exact plain t hr hk rfl
      | g _ => exact hk.elim
      | ptr _ _ _ => exact hk.elim
    | slp _ _ _ _ _ => cases t with
      | c t => exact plain t hr hk rfl
      | g _ => exact hk.elim
      | ptr _ _ _ => exact hk.elim
    | rsl _ _ _ => cases t with
      | c t => exact plain t hr hk rfl
      | g _ => exact hk.elim
      | ptr _ _ _ => exact hk.elim
    | rel τ b i j o =>
      cases t with
      | c t => exact ⟨ρ, st, Bk.refl h.less, hk⟩
      | g _ => exact hk.elim
      | ptr _ _ _ => exact hk.elim
    | nilz _ => cases t with
      | c t => exact plain t hr hk rfl
      | g _ => exact hk.elim
      | ptr _ _ _ => exact hk.elim
    | nili => cases t with
      | c t => exact plain t hr hk rfl
      | g _ => exact hk.elim
      | ptr _ _ _ => exact hk.elim
    | ife => cases t with
      | c t => exact plain t hr hk rfl
      | g _ => exact hk.elim
      | ptr _ _ _ => exact hk.elim
    | unk => cases t with
      | c t => exact plain t hr hk rfl
      | g _ => exact hk.elim
      | ptr _ _ _ => exact hk.elim

theorem backs1_out {s0 : St} : ∀ {ts : List T1} {vs : List Value} {xs : List V1} {ρ : Map} {F G : List Nat} {st : St} {k : St → Prop}, RepT1s w ts vs F G → V1sR ρ xs vs → HR c ρ (F ++ Z) Y st w → (∀ g ∈ G, g ∈ Y) →
    (rwIds s0 (id1s s0 xs)).Nodup → Free s0 st (id1s s0 xs) → backs1 s0 st xs ts k → ∃ ρ' st', Bk c ρ Z Y s0 st w (id1s s0 xs) ρ' st' ∧ k st'
  | [], [], [], ρ, F, G, st, k, hr, hv, h, hG, hn, hf, hk => by
    obtain ⟨rfl, rfl⟩ := hr
    exact ⟨ρ, st, Bk.refl h, hk⟩
  | t :: ts, v :: vs, x :: xs, ρ, F, G, st, k, hr, hv, h, hG, hn, hf, hk => by
    obtain ⟨F1, F2, G1, G2, r1, r2, rfl, rfl⟩ := hr
    rw [List.append_assoc] at h
    have hn1 : (rwIds s0 (id1 s0 x ++ id1s s0 xs)).Nodup := hn
    have hf1 : Free s0 st (id1 s0 x ++ id1s s0 xs) := hf
    have hn2 := hn1
    rw [rwIds_append] at hn2
    obtain ⟨ρ1, st1, b1, hk1⟩ := back1_out r1 hv.1 h (fun g hg => hG g (List.mem_append_left _ hg)) (List.nodup_append.1 hn2).1 (fun b hb => hf1 b (by rw [rwIds_append]; exact List.mem_append_left _ hb)) hk
    obtain ⟨ρ2, st2, b2, hk2⟩ := backs1_out r2 (V1sR.mono b1.le hv.2) b1.hr (fun g hg => hG g (List.mem_append_right _ hg)) (List.nodup_append.1 hn2).2.1 (hf1.next hn1 b1) hk1
    exact ⟨ρ2, st2, b1.trans b2, hk2⟩
  | [], [], _ :: _, _, _, _, _, _, _, hv, _, _, _, _, _ => hv.elim
  | _ :: _, _ :: _, [], _, _, _, _, _, _, hv, _, _, _, _, _ => hv.elim
  | [], _ :: _, _, _, _, _, _, _, hr, _, _, _, _, _, _ => hr.elim
  | _ :: _, [], _, _, _, _, _, _, hr, _, _, _, _, _, _ => hr.elim
theorem back_out {s0 : St} {t : Tree} {v : Value} {x : TV} {F G : List Nat} {k : St → Prop} (hr : RepT w t v F G) (hv : TVR ρ x v) (h : HR c ρ (F ++ Z) Y st w) (hG : ∀ g ∈ G, g ∈ Y)
    (hn : (rwIds s0 (idV s0 x)).Nodup) (hf : Free s0 st (idV s0 x)) (hk : back s0 st x t k) : ∃ ρ' st', Bk c ρ Z Y s0 st w (idV s0 x) ρ' st' ∧ k st' := by
  cases x with
  | v x =>
    cases t with
    | v t => exact back1_out hr hv h hG hn hf hk
    | tup _ => exact hk.elim
    | fn _ _ => exact hk.elim
    | rows _ _ => exact hk.elim
  | fn f xs =>
    cases t with
    | fn f' ts =>
      obtain ⟨vs, rfl, hr⟩ := hr
      obtain ⟨us, hu, hv⟩ := hv
      have hvu : vs = us := by injection hu with h1 h2 h3; simpa using congrArg Array.toList h3
      subst hvu
      exact backs1_out hr hv h hG hn hf hk
    | v _ => exact hk.elim
    | tup _ => exact hk.elim
    | rows _ _ => exact hk.elim
  | tup _ => exact hk.elim
  | rows _ _ _ => exact hk.elim
  | unk => exact hk.elim
theorem backs_out {s0 : St} : ∀ {ts : List Tree} {vs : List Value} {xs : List TV} {ρ : Map} {F G : List Nat} {st : St} {k : St → Prop}, RepTs w ts vs F G → TVsR ρ xs vs → HR c ρ (F ++ Z) Y st w → (∀ g ∈ G, g ∈ Y) →
    (rwIds s0 (idVs s0 xs)).Nodup → Free s0 st (idVs s0 xs) → backs s0 st xs ts k → ∃ ρ' st', Bk c ρ Z Y s0 st w (idVs s0 xs) ρ' st' ∧ k st'
  | [], [], [], ρ, F, G, st, k, hr, hv, h, hG, hn, hf, hk => by
    obtain ⟨rfl, rfl⟩ := hr
    exact ⟨ρ, st, Bk.refl h, hk⟩
  | t :: ts, v :: vs, x :: xs, ρ, F, G, st, k, hr, hv, h, hG, hn, hf, hk => by
    obtain ⟨F1, F2, G1, G2, r1, r2, rfl, rfl⟩ := hr
    rw [List.append_assoc] at h
    have hn1 : (rwIds s0 (idV s0 x ++ idVs s0 xs)).Nodup := hn
    have hf1 : Free s0 st (idV s0 x ++ idVs s0 xs) := hf
    have hn2 := hn1
    rw [rwIds_append] at hn2
    obtain ⟨ρ1, st1, b1, hk1⟩ := back_out r1 hv.1 h (fun g hg => hG g (List.mem_append_left _ hg)) (List.nodup_append.1 hn2).1 (fun b hb => hf1 b (by rw [rwIds_append]; exact List.mem_append_left _ hb)) hk
    obtain ⟨ρ2, st2, b2, hk2⟩ := backs_out r2 (TVsR.mono b1.le hv.2) b1.hr (fun g hg => hG g (List.mem_append_right _ hg)) (List.nodup_append.1 hn2).2.1 (hf1.next hn1 b1) hk1
    exact ⟨ρ2, st2, b1.trans b2, hk2⟩
  | [], [], _ :: _, _, _, _, _, _, _, hv, _, _, _, _, _ => hv.elim
  | _ :: _, _ :: _, [], _, _, _, _, _, _, hv, _, _, _, _, _ => hv.elim
  | [], _ :: _, _, _, _, _, _, _, hr, _, _, _, _, _, _ => hr.elim
  | _ :: _, [], _, _, _, _, _, _, hr, _, _, _, _, _, _ => hr.elim

theorem apart_out {m : List Bool} {xs : List TV} {k : Prop} (h : apart st m xs k) :
    (rwIds st (idVs st (lends m xs))).Nodup ∧ (∀ b ∈ rwIds st (idVs st (lends m xs)), b ∉ idVs st (keeps m xs)) ∧ k := by
  unfold apart at h
  cases hl : lends m xs with
  | nil => rw [hl] at h; exact ⟨by simp [idVs, rwIds], fun b hb => by simp [idVs, rwIds] at hb, h⟩
  | cons y ys =>
    rw [hl] at h
    simp only at h
    split at h
    · exact h.elim
    · rename_i h1
      split at h
      · rename_i h2
        exact ⟨(nodup_iff _).1 h1, (disj_iff _ _).1 h2, h⟩
      · exact h.elim
theorem anyRw_false : ∀ {l : List Nat}, anyRw st l = false → ∀ b ∈ l, isRw st b = false
  | [], _, _, hb => by cases hb
  | x :: xs, h, b, hb => by
    simp only [anyRw] at h
    split at h
    · cases h
    · rename_i h0
      rcases List.mem_cons.1 hb with rfl | hb
      · exact h0
      · exact anyRw_false h b hb
theorem shown_out {m : List Bool} {xs : List TV} {r : Tree} {os : List Tree} {k : Prop} (h : shown st m xs r os k) :
    ((roT r = false ∧ roTs os = false) ∨ feet ρ st (idVs st (keeps m xs)) = []) ∧ k := by
  unfold shown at h
  split at h
  · rename_i h0
    exact ⟨.inl (by simpa using h0), h⟩
  · split at h
    · rename_i h0
      refine ⟨.inr ?_, h⟩
      rw [List.eq_nil_iff_forall_not_mem]
      intro y hy
      obtain ⟨b, hb, hyb⟩ := List.mem_flatMap.1 hy
      obtain ⟨B, l, hB, hl, hm⟩ := footOf_mem hyb
      have := anyRw_false h0 b hb
      rw [isRw_eq hB, foot_rw hm] at this
      cases this
    · exact h.elim

theorem callO_out {E : List Fun} (hE : EnvOk P E) {d : Option Nat} {f : Nat} {xs : List TV} {vs : List Value} {k : St → Prop} (h : HR c ρ [] [] st w) (hv : TVsR ρ xs vs) (hk : callO E st d f xs k) :
    CallsX P f vs.toArray w fun e w' => ∃ v ρ' st' x, e = .returned v ∧ HR c ρ' [] [] st' w' ∧ ρ.le ρ' ∧ Same st st' ∧ TVR ρ' x v ∧ putD st' d x k ∧
      (st.q = true → ∀ n, c.qs n → w'.heap[n]? = w.heap[n]?) := by
  obtain ⟨hn, hd, hk1⟩ := apart_out hk
  obtain ⟨ts, F, G, hk2, rts, hF, hG, hlv⟩ := trs_out h hv hk1
  have hspec := fgo_out hE hk2
  -- what may be written, what is shown
  have hfn : (feet ρ st (idVs st (lends (flend E f) xs))).Nodup := by rw [← feet_rwIds]; exact feet_nodup h hn
  have hFm : ∀ x ∈ F, x ∈ feet ρ st (idVs st (lends (flend E f) xs)) := fun x hx => hF.subset hx
  have bound : ∀ b x, (x ∈ footOf ρ st b ∨ x ∈ shwOf ρ st b) → x < w.heap.size := fun b x hx => by
    rcases hx with hx | hx
    · obtain ⟨B, l, hB, hl, hm⟩ := footOf_mem hx; exact ((h.ow _ _ _ hB hl).1 x hm).1
    · obtain ⟨B, l, hB, hl, hm⟩ := shwOf_mem hx; exact ((h.ow _ _ _ hB hl).2 x hm).1
  have hrw : ∀ b x, x ∈ footOf ρ st b → isRw st b = true := fun b x hx => by
    obtain ⟨B, l, hB, hl, hm⟩ := footOf_mem hx; rw [isRw_eq hB]; exact foot_rw hm
  have hnrw : ∀ b x, x ∈ shwOf ρ st b → isRw st b = false := fun b x hx => by
    obtain ⟨B, l, hB, hl, hm⟩ := shwOf_mem hx
    rw [isRw_eq hB]
    cases B with
    | box rw cs => cases rw <;> simp [Blk.shw, Blk.rw] at hm ⊢
    | flat rw τ cap xs => cases rw <;> simp [Blk.shw, Blk.rw] at hm ⊢
    | rows rw τ xss => cases rw <;> simp [Blk.shw, Blk.rw] at hm ⊢
  have hGF : ∀ x ∈ G, x < w.heap.size ∧ x ∉ F := fun x hx => by
    have far : ∀ b, (x ∈ footOf ρ st b ∨ x ∈ shwOf ρ st b) → (x ∈ footOf ρ st b → b ∈ idVs st (keeps (flend E f) xs)) → x ∉ F := fun b hb hbk hxF => by
      obtain ⟨a, ha, hxa⟩ := List.mem_flatMap.1 (hFm x hxF)
      have haw := hrw a x hxa
      have ham : a ∈ rwIds st (idVs st (lends (flend E f) xs)) := mem_rwIds.2 ⟨ha, haw⟩
      rcases hb with hb | hb
      · have hne : a ≠ b := fun e => hd a ham (e ▸ hbk hb)
        exact (feet_disj h hne hxa).1 hb
      · have hne : a ≠ b := fun e => by have := hnrw b x hb; rw [← e, haw] at this; cases this
        exact (feet_disj h hne hxa).2 hb
    rcases hG x hx with hx | hx | hx
    · obtain ⟨b, hb, hxb⟩ := List.mem_flatMap.1 hx
      exact ⟨bound b x (.inr hxb), far b (.inr hxb) (fun hf => by have := hrw b x hf; rw [hnrw b x hxb] at this; cases this)⟩
    · obtain ⟨b, hb, hxb⟩ := List.mem_flatMap.1 hx
      exact ⟨bound b x (.inr hxb), far b (.inr hxb) (fun hf => by have := hrw b x hf; rw [hnrw b x hxb] at this; cases this)⟩
    · obtain ⟨b, hb, hxb⟩ := List.mem_flatMap.1 hx
      exact ⟨bound b x (.inl hxb), far b (.inl hxb) (fun _ => hb)⟩
  refine (hspec w vs F G rts (hF.nodup hfn) (fun x hx => ?_) hGF (c.lw.step h.fr fun x hx => ?_)).mono fun e w' he => ?_
  · obtain ⟨b, hb, hxb⟩ := List.mem_flatMap.1 (hFm x hx)
    exact bound b x (.inl hxb)
  · obtain ⟨b, hb, hxb⟩ := List.mem_flatMap.1 (hFm x hx)
    obtain ⟨B, l, hB, hl, hm⟩ := footOf_mem hxb
    exact ((h.ow _ _ _ hB hl).1 x hm).2
  obtain ⟨res, os, hk3, v, F1, G1, Fo, Go, rfl, rres, ros, hnd, hown, hgs, hfr, _⟩ := he
  obtain ⟨hsh, hk4⟩ := shown_out (ρ := ρ) hk3
  -- the lent blocks are let go
  obtain ⟨st1, Z1, h1, hp1, s1, g1, n1, f1, hk5⟩ := kill_out h hn (fun b hb => (mem_rwIds.1 hb).2) hk4
  rw [List.append_nil, feet_rwIds] at hp1
  have hfr1 : Frame w w' Z1 := ⟨hfr.1, hfr.2.1, hfr.2.2.1, hfr.2.2.2.1, fun n hn hz => hfr.2.2.2.2 n hn (fun hF' => hz (hp1.mem_iff.2 (hFm n hF')))⟩
  -- what is shown beyond the call was shown, and to be read alone
  have hY : ∀ y ∈ Go ++ G1, y < w.heap.size ∧ y ∈ c.G0 ∧ ∀ b B l, st1.hget b = some B → ρ b = some l → y ∉ B.foot l := fun y hy => by
    rcases hsh with ⟨e1, e2⟩ | e
    · rw [roTs_G ros e2, roT_G rres e1] at hy; cases hy
    · have hyG := hgs y hy
      have : ∃ b, y ∈ shwOf ρ st b := by
        rcases hG y hyG with hx | hx | hx
        · obtain ⟨b, _, hxb⟩ := List.mem_flatMap.1 hx; exact ⟨b, hxb⟩
        · obtain ⟨b, _, hxb⟩ := List.mem_flatMap.1 hx; exact ⟨b, hxb⟩
        · rw [e] at hx; cases hx
      obtain ⟨b, hyb⟩ := this
      obtain ⟨B, l, hB, hl, hm⟩ := shwOf_mem hyb
      refine ⟨bound b y (.inr hyb), ((h.ow _ _ _ hB hl).2 y hm).2, fun b' B' l' hB' hl' hm' => ?_⟩
      rw [g1] at hB'
      split at hB'
      · cases hB'
      · by_cases hne : b' = b
        · subst hne
          have e1 := hrw b' y (by rw [footOf_eq hB' hl']; exact hm')
          rw [hnrw b' y hyb] at e1; cases e1
        · exact (h.sp _ _ _ _ _ _ hB' hl' hB hl hne y hm').2 hm
  have h2 : HR c ρ (Fo ++ (F1 ++ [])) (Go ++ G1) st1 w' := by
    rw [List.append_nil]
    refine h1.world hfr1 hnd (fun z hz => ⟨(hown z hz).1, ?_, fun hy => ?_⟩) hY
    · rcases (hown z hz).2 with a | a
      · exact .inl (hp1.mem_iff.2 (hFm z a))
      · exact .inr a
    · have h3 := hGF z (hgs z hy)
      rcases (hown z hz).2 with a | a
      · exact h3.2 a
      · omega
  have hfree : Free st st1 (idVs st (lends (flend E f) xs)) := fun b hb => ⟨by rw [g1, if_pos hb], fun hnx => by
    have := (mem_rwIds.1 hb).2
    rw [n1] at hnx
    unfold isRw at this
    rw [h.none_of_nx hnx] at this
    cases this⟩
  obtain ⟨ρ2, st2, b2, hk6⟩ := backs_out ros hlv h2 (fun g hg => List.mem_append_left _ hg) hn hfree hk5
  obtain ⟨ρ3, st3, x, p3, hx, hk7⟩ := itr_out rres b2.hr (fun g hg => List.mem_append_right _ hg) hk6
  refine ⟨v, ρ3, st3, x, rfl, ?_, Map.le_trans b2.le p3.le, s1.trans (b2.same.trans p3.same), hx, hk7, fun hq n hnq => ?_⟩
  · have h4 := p3.hr
    exact ⟨h4.bk, h4.sp, h4.ow, h4.zn, fun z hz => (by cases hz), fun y hy => (by cases hy), h4.nx, h4.nf, h4.fr, h4.qf, fun _ z hz => (by cases hz), h4.qw⟩
  · refine hfr1.2.2.2.2 n (h.qw hq n hnq) fun hz => ?_
    exact h1.qz (s1.q.trans hq) n hz hnq

theorem HR.updF {b : Nat} {B B' : Blk} {l : Loc} {st' : St} {w' : World} (h : HR c ρ [] [] st w) (hg : st.hget b = some B) (hl : ρ b = some l) (hf : B'.foot l = B.foot l) (hs : B'.shw l = [])
    (hB' : BlkR w' ρ l B') (hfr : Frame w w' (B.foot l)) (hst : st' = ⟨st.tm, (b, some B') :: st.hp, st.nx, st.ar, st.q, st.fr⟩) (hq : st.q = true → b ∈ st.fr) : HR c ρ [] [] st' w' := by
  subst hst
  have h1 : HR c ρ (B.foot l ++ []) [] ⟨st.tm, (b, none) :: st.hp, st.nx, st.ar, st.q, st.fr⟩ w :=
    h.release hg hl (fun x => hget_cons rfl x) rfl rfl rfl hq
  have hlt : ∀ x ∈ B.foot l, x < w.heap.size := fun x hx => ((h.ow _ _ _ hg hl).1 x hx).1
  have h2 : HR c ρ (B'.foot l ++ []) [] ⟨st.tm, (b, none) :: st.hp, st.nx, st.ar, st.q, st.fr⟩ w' := by
    refine h1.world (Z' := B'.foot l ++ []) (Y' := []) (by rw [List.append_nil]; exact hfr) ?_ (fun z hz => ?_) (fun y hy => by cases hy)
    · rw [hf]; exact h1.zn
    · rw [hf] at hz
      exact ⟨Nat.lt_of_lt_of_le (hlt z (by simpa using hz)) hfr.2.2.2.1, .inl hz, fun hy => by cases hy⟩
  have hbn : b ∉ st.nx := fun hm => by rw [h.nf b hm] at hl; cases hl
  refine HR.attach (b := b) (B := B') (l := l) (st := ⟨st.tm, (b, none) :: st.hp, st.nx, st.ar, st.q, st.fr⟩) (Map.le_refl ρ) (fun _ _ => rfl) hl (by rw [hget_cons rfl, if_pos rfl]) h2 hB' (by rw [hs]; intro x hx; cases hx) (fun x => ?_) ⟨[], rfl⟩ hbn rfl (fun i hi => .inl hi)
  rw [hget_cons rfl, hget_cons rfl]
  by_cases e : x = b
  · simp [e]
  · simp [e]
theorem rowFeet_ne : ∀ {ins : List RLoc} {i j : Nat} {q r : RLoc}, (rowFeet ins).Nodup → ins[i]? = some q → ins[j]? = some r → i ≠ j → 0 < q.cap → 0 < r.cap → q.blk ≠ r.blk
  | [], i, j, q, r, _, h, _, _, _, _ => by simp at h
  | x :: ins, i, j, q, r, hn, hi, hj, hne, hq, hr => by
    have hn' : ((if 0 < x.cap then [x.blk] else []) ++ rowFeet ins).Nodup := hn
    obtain ⟨n1, n2, n3⟩ := List.nodup_append.1 hn'
    have tail : ∀ {k : Nat} {s : RLoc}, ins[k]? = some s → 0 < s.cap → s.blk ∈ rowFeet ins := fun hk hs =>
      List.mem_flatMap.2 ⟨_, List.mem_of_getElem? hk, by rw [if_pos hs]; simp⟩
    cases i with
    | zero =>
      cases j with
      | zero => exact absurd rfl hne
      | succ j =>
        simp only [List.getElem?_cons_zero, Option.some.injEq] at hi
        subst hi
        simp only [List.getElem?_cons_succ] at hj
        exact n3 _ (by rw [if_pos hq]; simp) _ (tail hj hr)
    | succ i =>
      simp only [List.getElem?_cons_succ] at hi
      cases j with
      | zero =>
        simp only [List.getElem?_cons_zero, Option.some.injEq] at hj
        subst hj
        exact fun e => n3 _ (by rw [if_pos hr]; simp) _ (tail hi hq) e.symm
      | succ j =>
        simp only [List.getElem?_cons_succ] at hj
        exact rowFeet_ne n2 hi hj (fun e => hne (by rw [e])) hq hr
theorem all2_set {α β : Type} {R S : α → β → Prop} : ∀ {as : List α} {bs : List β} {i : Nat} {y : β}, All2 R as bs → (∀ a, as[i]? = some a → S a y) → (∀ j a b, j ≠ i → as[j]? = some a → R a b → S a b) → All2 S as (bs.set i y)
  | [], [], _, _, _, _, _ => trivial
  | a :: as, b :: bs, 0, y, ⟨h1, h2⟩, hs, ho => ⟨hs a rfl, all2_mem' (fun j a' b' hj => ho (j + 1) a' b' (by omega) hj) h2⟩
  | a :: as, b :: bs, i + 1, y, ⟨h1, h2⟩, hs, ho => ⟨ho 0 a b (by omega) rfl h1, all2_set h2 (fun a ha => hs a ha) (fun j a' b' hj ha => ho (j + 1) a' b' (by omega) ha)⟩
  | [], _ :: _, _, _, h, _, _ => h.elim
  | _ :: _, [], _, _, h, _, _ => h.elim
where
  all2_mem' {α β : Type} {R S : α → β → Prop} : ∀ {as : List α} {bs : List β}, (∀ (j : Nat) a b, as[j]? = some a → R a b → S a b) → All2 R as bs → All2 S as bs
  | [], [], _, _ => trivial
  | a :: as, b :: bs, h, ⟨h1, h2⟩ => ⟨h 0 a b rfl h1, all2_mem' (fun j a' b' ha => h (j + 1) a' b' ha) h2⟩
  | [], _ :: _, _, h => h.elim
  | _ :: _, [], _, h => h.elim
theorem rows_setF {w w' : World} {ρ : Map} {l : Loc} {τ : FT} {xss : List (List τ.Ty)} {i : Nat} {q : RLoc} {ys : List τ.Ty} (h : BlkR w ρ l (.rows true τ xss)) (hq : l.ins[i]? = some q) (hnew : RowR w' true τ q ys)
    (hoth : ∀ x ∈ rowsFoot l, (0 < q.cap → x ≠ q.blk) → w'.heap[x]? = w.heap[x]?) : BlkR w' ρ l (.rows true τ (xss.set i ys)) := by
  obtain ⟨h1, h2, ⟨vs, h3, h3'⟩, h4, h5⟩ := h
  obtain ⟨h6, h7⟩ := h5 rfl
  obtain ⟨n1, n2, n3⟩ := List.nodup_append.1 h7
  have hil : i < l.ins.length := by
    rcases Nat.lt_or_ge i l.ins.length with g | g
    · exact g
    · rw [List.getElem?_eq_none g] at hq; cases hq
  have hcl : 0 < l.cap := by have := h4.length; omega
  have hb := hoth l.blk (List.mem_append_left _ (by rw [if_pos hcl]; simp)) (fun hc => n3 _ (by rw [if_pos hcl]; simp) _ (List.mem_flatMap.2 ⟨q, List.mem_of_getElem? hq, by rw [if_pos hc]; simp⟩))
  refine ⟨by simpa using h1, h2, ⟨vs, rangeAt_block hb h3, h3'⟩, all2_set h4 (fun a ha => by rw [hq] at ha; cases ha; exact hnew) (fun j a b hj ha hr => hr.block fun hp => hoth _ ?_ fun hc => ?_), fun _ => ⟨h6.block hb, h7⟩⟩
  · exact List.mem_append_right _ (List.mem_flatMap.2 ⟨a, List.mem_of_getElem? ha, by rw [if_pos (by simpa using hp)]; simp⟩)
  · exact rowFeet_ne n2 ha hq hj (by simpa using hp) hc
theorem plain_out : ∀ {xs : List TV} {vs : List Value} {k : List Tree → Prop}, TVsR ρ xs vs → plain xs k → ∃ ts, k ts ∧ RepTs w ts vs [] []
  | [], [], k, _, hk => ⟨[], hk, rfl, rfl⟩
  | x :: xs, v :: vs, k, hv, hk => by
    have hk : asN x (fun t => plain xs fun ts => k (t :: ts)) := hk
    unfold asN at hk
    split at hk
    · rename_i kd n
      obtain ⟨ts, h1, h2⟩ := plain_out hv.2 hk
      exact ⟨_, h1, [], [], [], [], ⟨hv.1, rfl, rfl⟩, h2, rfl, rfl⟩
    · exact hk.elim
  | [], _ :: _, _, hv, _ => hv.elim
  | _ :: _, [], _, hv, _ => hv.elim
theorem plainR_out {r : Tree} {v : Value} {F G : List Nat} {k : TV → Prop} (hr : RepT w r v F G) (hk : plainR r k) : ∃ x, TVR ρ x v ∧ k x := by
  unfold plainR at hk
  split at hk
  · rename_i kd n
    exact ⟨.v (.c (.int kd n)), hr.1, hk⟩
  · exact hk.elim
theorem lends_nil : ∀ {m : List Bool} {xs : List TV} {vs : List Value}, TVsR ρ xs vs → lends m xs = [] → lends m vs = []
  | [], xs, vs, _, _ => by cases vs <;> rfl
  | b :: m, [], [], _, _ => by cases b <;> rfl
  | true :: m, x :: xs, v :: vs, _, h => by cases h
  | false :: m, x :: xs, v :: vs, h, e => lends_nil (m := m) h.2 e
  | _ :: _, [], _ :: _, h, _ => h.elim
  | _ :: _, _ :: _, [], h, _ => h.elim
theorem RowV.same {q q' : RLoc} {v : Value} (h : RowV q v) (h' : RowV q' v) : q.len = q'.len ∧ q.cap = q'.cap ∧ (0 < q.cap → q.blk = q'.blk ∧ q.off = q'.off) := by
  obtain ⟨A, rfl, h1, h2, h3⟩ := h
  obtain ⟨A', e, h1', h2', h3'⟩ := h'
  injection e with e1 e2 e3
  refine ⟨e2, e3, fun hc => ?_⟩
  have e4 := (h3 hc).symm.trans (e1.trans (h3' (by omega)))
  injection e4 with e4
  injection e4 with e5 e6
  exact ⟨e5, e6⟩
theorem rowR_same {w : World} {rw : Bool} {τ : FT} : ∀ {ins ins' : List RLoc} {vs : List Value} {xss : List (List τ.Ty)}, All2 RowV ins vs → All2 RowV ins' vs → All2 (RowR w rw τ) ins' xss → All2 (RowR w rw τ) ins xss
  | [], [], [], [], _, _, _ => trivial
  | q :: ins, q' :: ins', v :: vs, xs :: xss, ⟨a1, a2⟩, ⟨b1, b2⟩, ⟨c1, c2⟩ => by
    refine ⟨?_, rowR_same a2 b2 c2⟩
    obtain ⟨e1, e2, e3⟩ := a1.same b1
    obtain ⟨d1, d2, d3, d4⟩ := c1
    have hle : q.len ≤ q.cap := by rw [e1, e2]; exact d2
    by_cases hc : 0 < q.cap
    · obtain ⟨e4, e5⟩ := e3 hc
      exact ⟨e1.trans d1, hle, by rw [e4, e5]; exact d3, fun hr => by rw [e4, e5, e2]; exact d4 hr⟩
    · have hx : xs = [] := List.eq_nil_of_length_eq_zero (by omega)
      subst hx
      have h0 : q.cap = 0 := by omega
      exact ⟨e1.trans d1, hle, Lie.nil _ _ _ _, fun _ => by rw [h0]; exact ⟨fun j hj => by simp at hj, fun h => by simp at h⟩⟩
  | [], _ :: _, [], _, _, h, _ => h.elim
  | [], _, _ :: _, _, h, _, _ => h.elim
  | _ :: _, _, [], _, h, _, _ => h.elim
  | _ :: _, [], _ :: _, _, _, h, _ => h.elim
  | _ :: _, _ :: _, _ :: _, [], _, _, h => h.elim
  | [], [], [], _ :: _, _, _, h => h.elim
theorem rows_same {w w' : World} {l l' : Loc} {A A' : Option Addr} {v : Value} {τ σ : FT} {xss : List (List τ.Ty)} {yss : List (List σ.Ty)} (h : BlkR w ρ l (.rows true τ xss)) (hs : SlV A l v) (h' : BlkR w' none0 l' (.rows true σ yss)) (hs' : SlV A' l' v)
    (hh : ∀ ins, All2 RowV ins (hdsOf w v) → All2 RowV ins (hdsOf w' v)) : BlkR w' ρ l (.rows true σ yss) := by
  obtain ⟨h1, h2, ⟨vs, h3, h3'⟩, h4, h5⟩ := h
  obtain ⟨g1, g2, ⟨us, g3, g3'⟩, g4, g5⟩ := h'
  have e1 := hdsOf_eq hs h2 h3 (by rw [← h3'.length, h4.length, h1])
  have e2 := hdsOf_eq hs' g2 g3 (by rw [← g3'.length, g4.length, g1])
  have h6 := hh l.ins (by rw [e1]; exact h3')
  have hr := hdsOf_range hs h2 h6
  have hss := hs
  obtain ⟨rfl, a1, a2⟩ := hs
  obtain ⟨e, b1, b2⟩ := hs'
  injection e with e3 e4 e5
  refine ⟨e4.trans g1, h2, ⟨_, hr, h6⟩, rowR_same h6 (by rw [e2]; exact g3') g4, fun hrw => ⟨?_, (h5 rfl).2⟩⟩
  by_cases hc : 0 < l.cap
  · have e6 := (a2 hc).symm.trans (e3.trans (b2 (by omega)))
    injection e6 with e6
    injection e6 with e7 e8
    rw [e7, e8, e5]; exact (g5 rfl).1
  · have h0 : l.cap = 0 := by omega
    rw [h0]; exact ⟨fun j hj => by simp at hj, fun h => by simp at h⟩

theorem callS_out {E : List Fun} (hE : EnvOk P E) {d : Option Nat} {f b : Nat} {i : Option Nat} {x0 : TV} {rest : List TV} {vs : List Value} {k : St → Prop} (h : HR c ρ [] [] st w) (hv : TVsR ρ (x0 :: rest) vs)
    (hx : (∃ τ j, x0 = .v (.c (.rsl τ b j)) ∧ i = some j) ∨ (∃ nn τ, x0 = .v (.c (.sl nn τ b)) ∧ i = none)) (hk : callS E st d f b i rest k) :
    CallsX P f vs.toArray w fun e w' => ∃ v ρ' st' x, e = .returned v ∧ HR c ρ' [] [] st' w' ∧ ρ.le ρ' ∧ Same st st' ∧ TVR ρ' x v ∧ putD st' d x k ∧
      (st.q = true → ∀ n, c.qs n → w'.heap[n]? = w.heap[n]?) := by
  cases vs with
  | nil => exact hv.elim
  | cons v0 vs =>
  unfold callS at hk
  split at hk
  case h_2 => exact hk.elim
  rename_i m hm
  split at hk
  case h_2 => exact hk.elim
  rename_i hlm
  split at hk
  case h_2 => exact hk.elim
  rename_i τ xss hg
  obtain ⟨ts, hk1, hts⟩ := plain_out (w := w) hv.2 hk
  have hlv := lends_nil hv.2 hlm
  obtain ⟨l, hl, hB⟩ := h.bk b _ hg
  have hlow : ∀ {F : List Nat}, (∀ x ∈ F, x ∈ rowsFoot l) → Low P w F := fun hF => c.lw.step h.fr fun x hx => ((h.ow _ _ _ hg hl).1 x (hF x hx)).2
  have hsz : ∀ x ∈ rowsFoot l, x < w.heap.size := fun x hx => ((h.ow _ _ _ hg hl).1 x hx).1
  have quiet : ∀ {w' : World} {F : List Nat}, (st.q = true → b ∈ st.fr) → Frame w w' F → (∀ x ∈ F, x ∈ rowsFoot l) → st.q = true → ∀ n, c.qs n → w'.heap[n]? = w.heap[n]? := fun hqf hfr hF hq n hn =>
    hfr.2.2.2.2 n (h.qw hq n hn) fun hm => h.qf hq b (hqf hq) _ _ hg hl n (hF n hm) hn
  have wide : ∀ {w' : World} {F : List Nat}, Frame w w' F → (∀ x ∈ F, x ∈ rowsFoot l) → Frame w w' (rowsFoot l) := fun hfr hF => ⟨hfr.1, hfr.2.1, hfr.2.2.1, hfr.2.2.2.1, fun n hn hz => hfr.2.2.2.2 n hn fun hm => hz (hF n hm)⟩
  have hlends : lends (flend E f) (v0 :: vs) = [v0] := by rw [hm]; simp only [lends, hlv]
  rcases hx with ⟨τ', j, rfl, rfl⟩ | ⟨nn, τ', rfl, rfl⟩
  · obtain ⟨l', q, hl', hq, A, hA, hqc, hA0, hA1⟩ := hv.1
    rw [hl] at hl'
    cases hl'
    obtain ⟨hi, hrow⟩ := all2_get (z := []) hB.2.2.2.1 hq
    obtain ⟨r1, r2, r3, r4⟩ := hrow
    have hs0 : SlV A ⟨q.blk, q.off, q.cap, q.len, []⟩ v0 := ⟨hA, hA0, hA1⟩
    have hrep : RepTs w (.v (.c (.ow τ (xss.getD j []))) :: ts) (v0 :: vs) (if 0 < q.cap then [q.blk] else []) [] :=
      ⟨_, [], [], [], ⟨⟨q.blk, q.off, q.cap, q.len, []⟩, A, hs0, ⟨r1, r2, (fun n e => by cases e), r3, r4⟩, rfl, rfl⟩, hts, by rw [List.append_nil]; rfl, by simp⟩
    have hF : ∀ x ∈ (if 0 < q.cap then [q.blk] else []), x ∈ rowsFoot l := fun x hx => List.mem_append_right _ (List.mem_flatMap.2 ⟨q, List.mem_of_getElem? hq, hx⟩)
    refine (fgo_out hE hk1 w (v0 :: vs) _ [] hrep (by split <;> simp) (fun x hx => hsz x (hF x hx)) (fun x hx => by cases hx) (hlow hF)).mono fun e w' he => ?_
    obtain ⟨res, os, hk2, v, F1, G1, Fo, Go, rfl, rres, ros, hnd, hown, hgs, hfr, hhd⟩ := he
    clear hhd
    rw [hlends] at ros
    split at hk2
    case h_2 => exact hk2.elim
    rename_i σ ys
    obtain ⟨e, hk3⟩ := castF_out hk2
    subst e
    obtain ⟨hlen, hk4⟩ := chk_o hk3
    obtain ⟨hmd, hk5⟩ := md_out hk4
    have hk6 := setB_out hk5
    obtain ⟨x, hx, hk7⟩ := plainR_out (ρ := ρ) rres hk6
    obtain ⟨Fa, Fb, Ga, Gb, ⟨l1, A1, hs1, hB1, _, _⟩, _, _, _⟩ := ros
    obtain ⟨⟨b1, b2, _, b4, b5⟩, _⟩ := hB1.same hs0 hs1
    have hB' : BlkR w' ρ l (.rows true σ (xss.set j ys)) := rows_setF hB hq ⟨b1, b2, b4, b5⟩ fun x hx hne => hfr.2.2.2.2 x (hsz x hx) fun hm => by
      split at hm
      · rename_i hc; simp at hm; exact hne hc hm
      · cases hm
    exact ⟨v, ρ, _, x, rfl, HR.updF (B' := .rows true σ (xss.set j ys)) h hg hl rfl rfl hB' (wide hfr hF) rfl hmd, Map.le_refl ρ, ⟨rfl, rfl, rfl⟩, hx, hk7, quiet hmd hfr hF⟩
  · obtain ⟨l', A, hl', hA, hle, hA0, hA1, _⟩ := hv.1
    rw [hl] at hl'
    cases hl'
    have hs0 : SlV A l v0 := ⟨hA, hA0, hA1⟩
    have hrep : RepTs w (.v (.c (.rows true τ xss)) :: ts) (v0 :: vs) (rowsFoot l) [] :=
      ⟨_, [], [], [], ⟨l, A, hs0, hB, rfl, rfl⟩, hts, by rw [List.append_nil]; rfl, rfl⟩
    refine (fgo_out hE hk1 w (v0 :: vs) _ [] hrep (hB.2.2.2.2 rfl).2 hsz (fun x hx => by cases hx) (hlow fun x hx => hx)).mono fun e w' he => ?_
    obtain ⟨res, os, hk2, v, F1, G1, Fo, Go, rfl, rres, ros, hnd, hown, hgs, hfr, hhd⟩ := he
    rw [hlends] at ros hhd
    split at hk2
    case h_2 => exact hk2.elim
    rename_i σ yss
    obtain ⟨hmd, hk5⟩ := md_out hk2
    have hk6 := setB_out hk5
    obtain ⟨x, hx, hk7⟩ := plainR_out (ρ := ρ) rres hk6
    obtain ⟨Fa, Fb, Ga, Gb, ⟨l1, A1, hs1, hB1, _, _⟩, _, _, _⟩ := ros
    rw [hm] at hhd
    have hB' : BlkR w' ρ l (.rows true σ yss) := rows_same hB hs0 hB1 hs1 (hhd.1 ⟨_, _, rfl⟩ ⟨_, _, rfl⟩)
    exact ⟨v, ρ, _, x, rfl, HR.updF (B' := .rows true σ yss) h hg hl rfl rfl hB' hfr rfl hmd, Map.le_refl ρ, ⟨rfl, rfl, rfl⟩, hx, hk7, quiet hmd hfr fun x hx => hx⟩

theorem callK_out {E : List Fun} (hE : EnvOk P E) {d : Option Nat} {f : Nat} {xs : List TV} {vs : List Value} {k : St → Prop} (h : HR c ρ [] [] st w) (hv : TVsR ρ xs vs) (hk : callK E st d f xs k) :
    CallsX P f vs.toArray w fun e w' => ∃ v ρ' st' x, e = .returned v ∧ HR c ρ' [] [] st' w' ∧ ρ.le ρ' ∧ Same st st' ∧ TVR ρ' x v ∧ putD st' d x k ∧
      (st.q = true → ∀ n, c.qs n → w'.heap[n]? = w.heap[n]?) := by
  unfold callK at hk
  split at hk
  · split at hk
    · exact callS_out hE h hv (.inl ⟨_, _, rfl, rfl⟩) hk
    · split at hk
      · exact callS_out hE h hv (.inr ⟨_, _, rfl, rfl⟩) hk
      · exact callO_out hE h hv hk
    · exact callO_out hE h hv hk
  · exact callO_out hE h hv hk
end
end Go.Pi
