/- A function's run by PI is a contract of the function. No conditions. -/
import Derived.Test.YtgpchgakonpcfaaGreatDoorPiExec
namespace Go.Pi
set_option linter.unusedVariables false
set_option linter.unusedSimpArgs false
set_option linter.constructorNameAsVariable false

def rvOk (P : Program) (N : Nat) : List RV → List ResultVar → Bool
  | [], [] => true
  | .t n :: rs, .tmp m :: qs => Nat.beq n m && Nat.ble (n + 1) N && rvOk P N rs qs
  | .c n agg sz :: rs, .cell m t :: qs => Nat.beq n m && szOk P t sz && aggOk P t agg && (agg || Nat.beq sz 1) && rvOk P N rs qs
  | _, _ => false
def fnOk (P : Program) (fn : Func) (pf : PF) : Bool :=
  (match fn.body with | some code => pcOk P fn.ntmps pf.body code | none => false) && rvOk P fn.ntmps pf.res fn.results.toList && Nat.ble fn.params.size fn.ntmps && !(fn.name == "runtime.NumGoroutine") && Nat.beq fn.nfree fn.nfree

def resOf (tmps : Array Value) : ResultVar → Sem Value
  | .tmp t => pure (tmps.getD t undef)
  | .cell b t => do loadVar t (← asAddr (tmps.getD b undef))
theorem results_eq (fn : Func) (tmps : Array Value) : results fn tmps = (do let vs ← fn.results.mapM (resOf tmps); pure (if h : vs.size = 1 then vs[0] else .tuple vs)) := by
  unfold results
  congr 1
section
variable {P : Program} {E : List Fun} {c : Ctx P} {ρ : Map} {st : St} {a : Act} {w : World}

theorem resVs_out (h : Rel c ρ [] [] st a w) : ∀ {rs : List RV} {qs : List ResultVar} {f : List V1 → Prop}, rvOk P c.N rs qs = true → resVs st rs f → ∃ xs vs, f xs ∧ V1sR ρ xs vs ∧ xs.length = rs.length ∧
    (qs.mapM (resOf a.tmps)).run P w = .ok vs w
  | [], [], f, _, hk => ⟨[], [], hk, trivial, rfl, rfl⟩
  | .t n :: rs, .tmp m :: qs, f, hc, hk => by
    simp only [rvOk, Bool.and_eq_true] at hc
    have hnm := Nat.eq_of_beq_eq_true hc.1.1
    subst hnm
    have hk : asV (st.ev (.t n)) (fun v => resVs st rs fun vs => f (v :: vs)) := hk
    obtain ⟨x, hx, hk1⟩ := asV_out hk
    have hv := h.ev (.t n) (.tmp n) (by simp [argOk])
    rw [hx] at hv
    obtain ⟨xs, vs, g1, g2, g3, g4⟩ := resVs_out h hc.2 hk1
    refine ⟨x :: xs, _ :: vs, g1, ⟨hv, g2⟩, by simp [g3], ?_⟩
    simp only [List.mapM_cons, Sem.run_bind, resOf, Sem.run_pure, Result.andThen_ok, g4]
    rfl
  | .c n agg sz :: rs, .cell m t :: qs, f, hc, hk => by
    simp only [rvOk, Bool.and_eq_true, Bool.or_eq_true] at hc
    obtain ⟨⟨⟨⟨hnm, hs⟩, ha⟩, h1⟩, hrest⟩ := hc
    have hnm := Nat.eq_of_beq_eq_true hnm
    subst hnm
    have hk : asC (st.ev (.t n)) (fun p => loadK st agg sz p fun v => resVs st rs fun vs => f (v :: vs)) := hk
    obtain ⟨p, hp, hk1⟩ := asC_out hk
    have hv := h.ev (.t n) (.tmp n) (by simp [argOk])
    rw [hp] at hv
    obtain ⟨z, u, g1, g2, g3⟩ := load_val (P := P) (t := t) h.hr (Map.le_refl ρ) hv hk1 hs ha (fun e => by subst e; simpa using h1)
    obtain ⟨xs, vs, g5, g6, g7, g8⟩ := resVs_out h hrest g1
    have g3 := g3 w (Kept.refl _ _ _ _)
    have hptr : ∃ ad, a.tmps.getD n undef = .pointer (some ad) := by
      have hv' : CellR ρ p (a.tmps.getD n undef) := hv
      unfold loadK at hk1
      split at hk1
      · obtain ⟨l, _, hv⟩ := hv'; exact ⟨_, hv⟩
      · obtain ⟨l, _, hv⟩ := hv'; exact ⟨_, hv⟩
      · obtain ⟨l, _, _, _, hv⟩ := hv'; exact ⟨_, hv⟩
      · exact hk1.elim
    obtain ⟨ad, had⟩ := hptr
    refine ⟨z :: xs, u :: vs, g5, ⟨g2, g6⟩, by simp [g7], ?_⟩
    have hl : (loadVar t ad).run P w = .ok u w := by
      have : a.eval (.tmp n) = .pointer (some ad) := had
      rw [this] at g3
      simpa [Instr.loadAt, Instr.sureAddr] using g3
    have hasA : (asAddr (a.tmps.getD n undef)).run P w = .ok ad w := by rw [had]; rfl
    simp only [List.mapM_cons, Sem.run_bind, resOf, hasA, Result.andThen_ok, hl, g8]
    rfl
  | [], _ :: _, _, hc, _ => by cases hc
  | .t _ :: _, [], _, hc, _ => by cases hc
  | .c _ _ _ :: _, [], _, hc, _ => by cases hc
  | .t _ :: _, .cell _ _ :: _, _, hc, _ => by cases hc
  | .c _ _ _ :: _, .tmp _ :: _, _, hc, _ => by cases hc

theorem zipT_out : ∀ {s : Nat} {m : Nat} {vs : List TV} {f : List (Nat × TV) → Prop}, zipT (List.range' s m) vs f → ∃ tm, f tm ∧ ∀ i v, aget tm i = some v → s ≤ i ∧ vs[i - s]? = some v
  | s, m, [], f, h => by
    have h : f [] := by cases m <;> exact h
    exact ⟨[], h, fun i v hv => by cases hv⟩
  | s, 0, v :: vs, f, h => h.elim
  | s, m + 1, v :: vs, f, h => by
    rw [List.range'_succ] at h
    have h : zipT (List.range' (s + 1) m) vs (fun r => f ((s, v) :: r)) := h
    obtain ⟨tm, h1, h2⟩ := zipT_out h
    refine ⟨_, h1, fun i u hu => ?_⟩
    rw [aget_cons] at hu
    split at hu
    · rename_i e; cases hu; subst e; exact ⟨Nat.le_refl _, by simp⟩
    · obtain ⟨q1, q2⟩ := h2 i u hu
      refine ⟨by omega, ?_⟩
      rw [show i - s = (i - (s + 1)) + 1 by omega]
      simpa using q2
theorem nums_range : nums = List.range' 0 120 := by decide

theorem lends_rel {m : List Bool} : ∀ {xs : List TV} {vs : List Value}, TVsR ρ xs vs → TVsR ρ (lends m xs) (lends m vs) := by
  induction m with
  | nil => intro xs vs h; cases xs <;> cases vs <;> first | trivial | exact h.elim
  | cons b m ih =>
    intro xs vs h
    cases xs with
    | nil => cases All2.nil_left h; cases b <;> trivial
    | cons x xs =>
      obtain ⟨v, vs, rfl, h1, h2⟩ := All2.cons_left h
      cases b with
      | true => exact ⟨h1, ih h2⟩
      | false => exact ih h2

theorem lends_all2 {α β : Type} {R : α → β → Prop} : ∀ {m : List Bool} {xs : List α} {vs : List β}, All2 R xs vs → All2 R (lends m xs) (lends m vs)
  | [], xs, vs, h => by cases xs <;> cases vs <;> first | trivial | exact h.elim
  | b :: m, [], [], _ => by cases b <;> trivial
  | true :: m, x :: xs, v :: vs, h => ⟨h.1, lends_all2 h.2⟩
  | false :: m, x :: xs, v :: vs, h => lends_all2 (m := m) h.2
  | _ :: _, [], _ :: _, h => h.elim
  | _ :: _, _ :: _, [], h => h.elim
theorem lends_hds {w : World} : ∀ (m : List Bool) (as : List Tree) (vs : List Value), lends m (hds w as vs) = hds w (lends m as) (lends m vs)
  | [], as, vs => by cases as <;> cases vs <;> rfl
  | b :: m, [], vs => by cases b <;> cases vs <;> rfl
  | b :: m, a :: as, [] => by cases b <;> simp [hds, lends]
  | true :: m, a :: as, v :: vs => by simp only [hds, lends, lends_hds m as vs]
  | false :: m, a :: as, v :: vs => by simp only [hds, lends, lends_hds m as vs]
def OutH (ρ : Map) (w : World) : List TV → List Tree → List Value → Prop
  | x :: xs, t :: ts, v :: vs => ((∃ τ xss, t = .v (.c (.rows true τ xss))) → ∀ hs, HdR ρ x (some hs) → ∀ ins, All2 RowV ins hs → All2 RowV ins (hdsOf w v)) ∧ OutH ρ w xs ts vs
  | _, _, _ => True
theorem rowV_chain : ∀ {a b : List RLoc} {hs us : List Value}, All2 RowV a hs → All2 RowV b hs → All2 RowV b us → All2 RowV a us
  | [], [], [], [], _, _, _ => trivial
  | q :: a, q' :: b, h :: hs, u :: us, ⟨a1, a2⟩, ⟨b1, b2⟩, ⟨c1, c2⟩ => by
    refine ⟨?_, rowV_chain a2 b2 c2⟩
    obtain ⟨e1, e2, e3⟩ := a1.same b1
    obtain ⟨A, rfl, d1, d2, d3⟩ := c1
    refine ⟨A, by rw [e1, e2], by rw [e1, e2]; exact d1, fun h => by rw [e2]; exact d2 h, fun hc => ?_⟩
    obtain ⟨e4, e5⟩ := e3 hc
    rw [e4, e5]; exact d3 (by omega)
  | [], _ :: _, [], _, _, h, _ => h.elim
  | [], _, _ :: _, _, h, _, _ => h.elim
  | _ :: _, _, [], _, h, _, _ => h.elim
  | _ :: _, [], _ :: _, _, _, h, _ => h.elim
  | _ :: _, _ :: _, _ :: _, [], _, _, h => h.elim
  | [], [], [], _ :: _, _, _, h => h.elim
theorem hdK_of {w w' : World} : ∀ {as : List Tree} {vs : List Value} {xs : List TV} {ts : List Tree}, All2 (HdR ρ) xs (hds w as vs) → OutH ρ w' xs ts vs → HdK w w' as ts vs
  | [], _, _, _, _, _ => trivial
  | _ :: _, [], _, ts, _, _ => by cases ts <;> trivial
  | a :: as, v :: vs, [], ts, h, _ => h.elim
  | a :: as, v :: vs, x :: xs, [], _, _ => trivial
  | a :: as, v :: vs, x :: xs, t :: ts, ⟨h1, h2⟩, ⟨o1, o2⟩ => by
    refine ⟨fun ha ht ins hi => ?_, hdK_of h2 o2⟩
    obtain ⟨τ, xss, rfl⟩ := ha
    exact o1 ht _ h1 ins hi
theorem tr_outH {Z Y : List Nat} (h : HR c ρ Z Y st w) {x : TV} {v : Value} {k : Tree → Prop} (hv : TVR ρ x v) (hk : tr true st x k) :
    ∃ t F G, k t ∧ RepT w t v F G ∧ Got ρ st true (idV st x) F G ∧ ((∃ τ xss, t = .v (.c (.rows true τ xss))) → ∀ hs, HdR ρ x (some hs) → ∀ ins, All2 RowV ins hs → All2 RowV ins (hdsOf w v)) := by
  by_cases hsl : ∃ nn τ b, x = .v (.c (.sl nn τ b))
  · obtain ⟨nn, τ, b, rfl⟩ := hsl
    have hk0 : tc true st (.sl nn τ b) (fun t => k (.v (.c t))) := hk
    have hid : idV st (.v (.c (.sl nn τ b))) = idC st (.sl nn τ b) := rfl
    rw [hid]
    have go : ∀ T : TC, (∀ k : TC → Prop, tc true st (.sl nn τ b) k = k T) → (∀ σ yss, T ≠ .rows true σ yss) → ∃ t F G, k t ∧ RepT w t v F G ∧ Got ρ st true (idC st (.sl nn τ b)) F G ∧ ((∃ τ xss, t = .v (.c (.rows true τ xss))) → ∀ hs, HdR ρ (.v (.c (.sl nn τ b))) (some hs) → ∀ ins, All2 RowV ins hs → All2 RowV ins (hdsOf w v)) := fun T hT hn => by
      have hv0 : CellR ρ (.sl nn τ b) v := hv
      obtain ⟨t, F, G, e, r, g⟩ := tc_out (own := true) (k := fun t => t = T) h hv0 (by rw [hT])
      subst e
      rw [hT] at hk0
      exact ⟨.v (.c t), F, G, hk0, r, g, fun ⟨σ, yss, e⟩ => by cases e; exact absurd rfl (hn _ _)⟩
    cases hg : st.hget b with
    | none => exact go .unk (fun k => by simp [tc, hg]) (fun _ _ e => by cases e)
    | some B =>
      cases B with
      | box rw cs => exact go .unk (fun k => by simp [tc, hg]) (fun _ _ e => by cases e)
      | flat rw σ cap xs => cases rw with
        | true => exact go (.ow σ xs) (fun k => by simp [tc, hg]) (fun _ _ e => by cases e)
        | false => exact go (.ro σ xs) (fun k => by simp [tc, hg]) (fun _ _ e => by cases e)
      | rows rw σ xss => cases rw with
        | false => exact go (.rows false σ xss) (fun k => by simp [tc, hg]) (fun _ _ e => by cases e)
        | true =>
          have hv0 : CellR ρ (.sl nn τ b) v := hv
          obtain ⟨t, F, G, e, r, g⟩ := tc_out (own := true) (k := fun t => t = .rows true σ xss) h hv0 (by simp [tc, hg])
          subst e
          simp only [tc, hg] at hk0
          refine ⟨.v (.c (.rows true σ xss)), F, G, hk0, r, g, fun _ hs hh ins hi => ?_⟩
          obtain ⟨nn', τ', b', l', e, hl', ha⟩ := hh hs rfl
          cases e
          obtain ⟨l, hl, hB⟩ := h.bk b _ hg
          rw [hl] at hl'
          cases hl'
          obtain ⟨l2, A, hl2, hA, hle, hA0, hA1, _⟩ := hv0
          rw [hl] at hl2
          cases hl2
          obtain ⟨h1, h2, ⟨us, h3, h3'⟩, h4, _⟩ := hB
          rw [hdsOf_eq (A := A) ⟨hA, hA0, hA1⟩ h2 h3 (by rw [← h3'.length, h4.length, h1])]
          exact rowV_chain hi ha h3'
  · obtain ⟨t, F, G, h1, h2, h3⟩ := tr_out h hv hk
    exact ⟨t, F, G, h1, h2, h3, fun _ hs hh => by obtain ⟨nn, τ, b, _, e, _⟩ := hh hs rfl; exact absurd ⟨nn, τ, b, e⟩ hsl⟩
theorem outs_out {Z Y : List Nat} (h : HR c ρ Z Y st w) : ∀ {xs : List TV} {vs : List Value} {k : List Tree → Prop}, TVsR ρ xs vs → outs st xs k → ∃ ts F G, k ts ∧ RepTs w ts vs F G ∧ Got ρ st true (idVs st xs) F G ∧ OutH ρ w xs ts vs
  | [], [], k, _, hk => ⟨[], [], [], hk, ⟨rfl, rfl⟩, Got.nil _ _ _ _, trivial⟩
  | x :: xs, v :: vs, k, hv, hk => by
    have hk : tr true st x (fun x => outs st xs fun xs => k (x :: xs)) := hk
    obtain ⟨t, F1, G1, hk1, r1, g1, d1⟩ := tr_outH h hv.1 hk
    obtain ⟨ts, F2, G2, hk2, r2, g2, d2⟩ := outs_out h hv.2 hk1
    exact ⟨t :: ts, F1 ++ F2, G1 ++ G2, hk2, ⟨F1, F2, G1, G2, r1, r2, rfl, rfl⟩, g1.append g2, d1, d2⟩
  | [], _ :: _, _, hv, _ => hv.elim
  | _ :: _, [], _, hv, _ => hv.elim

def kfin (K : Tree → List Tree → Prop) (st : St) (v : TV) : Prop :=
  match nodup (rwIds st (idV st v)) with
  | true => tr true st v fun r => kill (rwIds st (idV st v)) st fun s => match nodup (rwIds s (idVs s s.ar)) with
    | true => outs s s.ar fun os => K r os
    | false => False
  | false => False
theorem spec_of_run {f : Nat} {fn : Func} {pf : PF} {fuel : Nat} {lend : List Bool} {ain : List Tree} {Q : Tree → List Tree → Prop} (hE : EnvOk P E) (hm : P.follows .mixedOrders = true) (hf : P.funcs[f]? = some fn) (hc : fnOk P fn pf = true)
    (hk : runK E fuel lend pf ain Q) (hlen : ∀ w vs F G, RepTs w ain vs F G → vs.length ≤ fn.ntmps) : SpecQ P f lend ain Q := by
  intro w vs F G hrep hFn hFs hG hL
  simp only [fnOk, Bool.and_eq_true] at hc
  obtain ⟨⟨⟨⟨hbody, hres⟩, hpar⟩, _⟩, _⟩ := hc
  cases hb : fn.body with
  | none => rw [hb] at hbody; cases hbody
  | some code =>
  rw [hb] at hbody
  have hvl := hlen w vs F G hrep
  let c : Ctx P := ⟨w, F, G, fn.ntmps, lends lend vs, hds w (lends lend ain) (lends lend vs), (fun _ => False), hL⟩
  have h0 : HR c none0 (F ++ []) G ⟨[], [], nums, [], false, []⟩ w :=
    ⟨(fun b B hb => by simp [St.hget, aget] at hb), (fun b B l b' B' l' hb => by simp [St.hget, aget] at hb), (fun b B l hb => by simp [St.hget, aget] at hb), by simpa using hFn,
     (fun z hz => ⟨hFs z (by simpa using hz), .inr (by simpa using hz), fun hy => (hG z hy).2 (by simpa using hz), fun b B l hb => by simp [St.hget, aget] at hb⟩),
     (fun y hy => ⟨(hG y hy).1, hy, fun b B l hb => by simp [St.hget, aget] at hb⟩), nums_nodup, (fun i _ => rfl), Frame.refl w F, (fun e => by cases e), (fun e => by cases e), (fun e => by cases e)⟩
  obtain ⟨ρ1, st1, xs, hput, htv, hhd, hk1⟩ := itrs_out hrep h0 (fun g hg => hg) hk
  have hk1 : zipT nums xs (fun tm => execK E fuel pf.body ⟨tm, st1.hp, st1.nx, lends lend xs, false, []⟩ (kret pf Q)) := hk1
  rw [nums_range] at hk1
  obtain ⟨tm, hk2, htm⟩ := zipT_out hk1
  have h1 : HR c ρ1 [] [] ⟨tm, st1.hp, st1.nx, lends lend xs, false, []⟩ w := by
    have := hput.hr
    exact ⟨fun b B hb => this.bk b B hb, fun b B l b' B' l' hb hl hb' hl' => this.sp b B l b' B' l' hb hl hb' hl', fun b B l hb hl => this.ow b B l hb hl, List.nodup_nil, (fun z hz => by cases hz), (fun z hz => by cases hz), this.nx, this.nf, this.fr, (fun e => by cases e), (fun e => by cases e), (fun e => by cases e)⟩
  have hrel : Rel c ρ1 [] [] ⟨tm, st1.hp, st1.nx, lends lend xs, false, []⟩ { tmps := vs.toArray ++ Array.replicate (fn.ntmps - vs.toArray.size) undef, defers := [] } w := by
    refine ⟨h1, by simp [c]; omega, fun i v hv => ?_, ⟨lends_rel htv, by rw [show c.hds = lends lend (hds w ain vs) from (lends_hds lend ain vs).symm]; exact lends_all2 hhd⟩, rfl⟩
    obtain ⟨_, hx⟩ := htm i v hv
    obtain ⟨u, hu, hr⟩ := All2.get htv hx
    simp only [Nat.sub_zero] at hu
    have hlt := (List.getElem?_eq_some_iff.1 hu).1
    exact ⟨u, by rw [Array.getElem?_append_left (by simpa using hlt)]; simpa using hu, hr⟩
  refine calls_of_wp hf hb (wp_mono (exec_out hE hm fuel pf.body hbody hrel hk2) fun e a' w' hp => ?_)
  have fin : ∀ (ρ : Map) (st : St), Rel c ρ [] [] st a' w' → ress st pf.res (kfin Q st) →
      a'.defers = [] ∧ ∃ v, (results fn a'.tmps).run P w' = .ok v w' ∧ (∃ res os, Q res os ∧ ∃ v' F1 G1 Fo Go, Ending.returned v = Ending.returned v' ∧ RepT w' res v' F1 G1 ∧ RepTs w' os (lends lend vs) Fo Go ∧ (Fo ++ F1).Nodup ∧
        (∀ x ∈ Fo ++ F1, x < w'.heap.size ∧ (x ∈ F ∨ w.heap.size ≤ x)) ∧ (∀ x ∈ Go ++ G1, x ∈ G) ∧ Frame w w' F ∧ HdK w w' (lends lend ain) os (lends lend vs)) := by
    intro ρ st hrel' hk3
    refine ⟨hrel'.df, ?_⟩
    have hk3 : resVs st pf.res (fun vs => match vs with | [v] => kfin Q st (.v v) | vs => kfin Q st (.tup vs)) := hk3
    obtain ⟨ys, us, hk4, hus, _, hrun⟩ := resVs_out (P := P) hrel' hres hk3
    have hvals : ∃ (x : TV) (v : Value), TVR ρ x v ∧ (results fn a'.tmps).run P w' = .ok v w' ∧ kfin Q st x := by
      have hmap : (fn.results.mapM (resOf a'.tmps)).run P w' = .ok us.toArray w' := by
        rw [Array.mapM_eq_mapM_toList, Sem.run_map, hrun]; rfl
      have hr0 : (results fn a'.tmps).run P w' = .ok (if h : us.toArray.size = 1 then us.toArray[0] else .tuple us.toArray) w' := by
        rw [results_eq, Sem.run_bind, hmap]; rfl
      match ys, hk4, hus with
      | [y], hk4, hus =>
        obtain ⟨u, _, rfl, hu, hnil⟩ := All2.cons_left hus
        cases All2.nil_left hnil
        exact ⟨.v y, u, hu, by rw [hr0]; rfl, hk4⟩
      | [], hk4, hus =>
        cases All2.nil_left hus
        exact ⟨.tup [], .tuple #[], ⟨[], rfl, trivial⟩, by rw [hr0]; rfl, hk4⟩
      | y :: y' :: r, hk4, hus =>
        have hl := All2.length hus
        refine ⟨.tup (y :: y' :: r), .tuple us.toArray, ⟨us, rfl, hus⟩, ?_, hk4⟩
        rw [hr0, dif_neg]
        simp at hl ⊢; omega
    obtain ⟨x, v, hx, hrun, hk5⟩ := hvals
    unfold kfin at hk5
    split at hk5
    · rename_i hnd
      have hnd := (nodup_iff _).1 hnd
      obtain ⟨t, F1, G1, hk6, r1, g1⟩ := tr_out hrel'.hr hx hk5
      obtain ⟨st', Z', hr2, hperm, hsame, hget, _, _, hk7⟩ := kill_out hrel'.hr hnd (fun b hb => (mem_rwIds.1 hb).2) hk6
      split at hk7
      · rename_i hnd2
        have hnd2 := (nodup_iff _).1 hnd2
        have har : st'.ar = st.ar := hsame.ar
        obtain ⟨ts, F2, G2, hq, r2, g2, d2⟩ := outs_out hr2 (har ▸ hrel'.ar.tv) hk7
        have hf1 : (feet ρ st (idV st x)).Nodup := by rw [← feet_rwIds]; exact feet_nodup hrel'.hr hnd
        have hf2 : (feet ρ st' (idVs st' st'.ar)).Nodup := by rw [← feet_rwIds]; exact feet_nodup hr2 hnd2
        have n1 := g1.sub.nodup hf1
        have n2 := g2.sub.nodup hf2
        have hz : ∀ y ∈ F1, y ∈ Z' := fun y hy => hperm.mem_iff.2 (List.mem_append_left _ (by rw [feet_rwIds]; exact g1.sub.subset hy))
        have hown : ∀ y ∈ F2, ∃ b B l, st'.hget b = some B ∧ ρ b = some l ∧ y ∈ B.foot l := fun y hy => by
          obtain ⟨b, _, hyb⟩ := List.mem_flatMap.1 (g2.sub.subset hy)
          obtain ⟨B, l, hB, hl, hm⟩ := footOf_mem hyb
          exact ⟨b, B, l, hB, hl, hm⟩
        refine ⟨v, hrun, t, ts, hq, v, F1, G1, F2, G2, rfl, r1, r2, ?_, fun y hy => ?_, fun y hy => ?_, hrel'.hr.fr, hdK_of (har ▸ hrel'.ar.hd) d2⟩
        · refine List.nodup_append.2 ⟨n2, n1, fun y hy z hz' e => ?_⟩
          subst e
          obtain ⟨b, B, l, hB, hl, hm⟩ := hown y hy
          exact ((hr2.zb y (hz y hz')).2.2.2 b B l hB hl).1 hm
        · rcases List.mem_append.1 hy with h | h
          · obtain ⟨b, B, l, hB, hl, hm⟩ := hown y h
            obtain ⟨o1, o2⟩ := (hr2.ow b B l hB hl).1 y hm
            exact ⟨o1, o2.symm⟩
          · obtain ⟨b, _, hyb⟩ := List.mem_flatMap.1 (g1.sub.subset h)
            obtain ⟨B, l, hB, hl, hm⟩ := footOf_mem hyb
            obtain ⟨o1, o2⟩ := (hrel'.hr.ow b B l hB hl).1 y hm
            exact ⟨o1, o2.symm⟩
        · rcases List.mem_append.1 hy with h | h
          · rcases g2.shw y h with q | ⟨q, _⟩
            · obtain ⟨b, _, hb⟩ := List.mem_flatMap.1 q
              obtain ⟨B, l, hB, hl, hm⟩ := shwOf_mem hb
              exact ((hr2.ow b B l hB hl).2 y hm).2
            · cases q
          · rcases g1.shw y h with q | ⟨q, _⟩
            · obtain ⟨b, _, hb⟩ := List.mem_flatMap.1 q
              obtain ⟨B, l, hB, hl, hm⟩ := shwOf_mem hb
              exact ((hrel'.hr.ow b B l hB hl).2 y hm).2
            · cases q
      · exact hk7.elim
    · exact hk5.elim
  cases e <;> first
    | exact hp.elim
    | (obtain ⟨ρ, st, g1, g2⟩ := hp
       first
        | exact g2.elim
        | (obtain ⟨q1, v, q2, q3⟩ := fin ρ st g1 g2; exact ⟨q1, v, q2, q3⟩))

theorem callable_of {f : Nat} {fn : Func} {pf : PF} (hf : P.funcs[f]? = some fn) (hc : fnOk P fn pf = true) : Callable P f := fun args w => by
  simp only [fnOk, Bool.and_eq_true] at hc
  obtain ⟨⟨⟨⟨hbody, _⟩, _⟩, hnm⟩, _⟩ := hc
  cases hb : fn.body with
  | none => rw [hb] at hbody; cases hbody
  | some code =>
    have : fn.name ≠ "runtime.NumGoroutine" := by simpa using hnm
    simp [callFunc, hf, this, hb]
end
end Go.Pi
