/- Drawn regions, by the tree of their orders; sequential regions. No conditions. -/
import Derived.Test.YtgpchgakonpcfaaGreatDoorPiNorm
namespace Go.Pi
set_option linter.unusedVariables false
set_option linter.unusedSimpArgs false
set_option linter.constructorNameAsVariable false

def pmOf (ss : List Step) (i : Nat) : Bool := match ss[i]? with | some s => pureS s | none => false
def pmT (ss : List Step) (T : List Nat) (i : Nat) : Bool := match mem i T with | true => pmOf ss i | false => true
def stepsOk (P : Program) (N : Nat) (ops : Array Oper) : List Step → List Oper → Bool
  | [], [] => true
  | s :: ss, o :: os => stepOk P N ops o s && stepsOk P N ops ss os
  | _, _ => false
theorem stepsOk_out {P : Program} {N : Nat} {ops : Array Oper} : ∀ {ss : List Step} {os : List Oper}, stepsOk P N ops ss os = true → ss.length = os.length ∧ ∀ (i : Nat) (s : Step), ss[i]? = some s → ∃ o, os[i]? = some o ∧ stepOk P N ops o s = true
  | [], [], _ => ⟨rfl, fun i s h => by simp at h⟩
  | s :: ss, o :: os, h => by
    simp only [stepsOk, Bool.and_eq_true] at h
    obtain ⟨h1, h2⟩ := stepsOk_out h.2
    refine ⟨by simp [h1], fun i t ht => ?_⟩
    cases i with
    | zero => simp at ht; subst ht; exact ⟨o, rfl, h.1⟩
    | succ i => simpa using h2 i t (by simpa using ht)
  | [], _ :: _, h => by cases h
  | _ :: _, [], h => by cases h
theorem nthS_out : ∀ {ss : List Step} {i : Nat} {f : Step → Prop}, nthS ss i f → ∃ s, ss[i]? = some s ∧ f s
  | s :: ss, 0, f, h => ⟨s, rfl, h⟩
  | s :: ss, i + 1, f, h => by obtain ⟨t, h1, h2⟩ := nthS_out (ss := ss) (i := i) h; exact ⟨t, by simpa using h1, h2⟩
  | [], 0, _, h => h.elim
  | [], _ + 1, _, h => h.elim

section
variable {P : Program} {E : List Fun} {ops : Array Oper} {ss : List Step} {T : List Nat} {c : Ctx P}

structure Start {P : Program} (c : Ctx P) (ρ : Map) (w : World) (n : Nat → Prop) (O : List Nat) (h0 : List (Nat × Option Blk)) (ρ0 : Map) (st0 : St) (W0 : World) : Prop where
  hp : st0.hp = h0
  hr : HR (c.at n) ρ0 [] [] st0 W0
  nq : n = stay ρ0 st0 W0 O
  le : ρ0.le ρ
  w : ∀ m, n m → w.heap[m]? = W0.heap[m]?
abbrev Held (n : Nat → Prop) (W0 : World) : World → Prop := fun w' => ∀ m, n m → w'.heap[m]? = W0.heap[m]?

abbrev Ends {P : Program} (c : Ctx P) (k : St → Prop) (Q : Exit → Act → World → Prop) : Prop := ∀ ρ' st' a' w', Rel c ρ' [] [] st' a' w' → st'.q = false → k st' → Q .normal a' w'

mutual
theorem rt_out (hE : EnvOk P E) (hst : stepsOk P c.N ops ss ops.toList = true) (hsel : Region.noSelect ops = true) : ∀ (r : RT) {fuel : Nat} {L : Array Bool} {a : Act} {w : World} {st : St} {k : St → Prop} {Q : Exit → Act → World → Prop} {n : Nat → Prop} {O : List Nat} {h0 : List (Nat × Option Blk)} {ρ0 ρ : Map} {st0 : St} {W0 : World},
    depth r ≤ fuel → rtOk ops (pmT ss T) (fun i => mem i T) r L = true → L.size = ops.size → Closed ops L → Start c ρ w n O h0 ρ0 st0 W0 → Rel (c.at n) ρ [] [] st a w → st.q = true → rtK E ss O h0 r st k → Ends c k Q → (∀ ch a w, ¬ Q (.panic ch) a w) →
    wpB P ops (pmT ss T) Q fuel L (Held n W0) a w
  | .done x, fuel, L, a, w, st, k, Q, n, O, h0, ρ0, ρ, st0, W0, _, hok, _, _, _, hrel, _, hk, hend, _ => by
    have hr : Region.ready .any ops L = [] := by simpa [rtOk] using hok
    have hq : Q .normal a w := by
      cases x with
      | none =>
        have hk' : k ⟨st.tm, st.hp, st.nx, st.ar, false, st.fr⟩ := hk
        exact hend ρ ⟨st.tm, st.hp, st.nx, st.ar, false, st.fr⟩ a w ⟨hrel.hr.loud (n := c.qs) rfl rfl rfl, hrel.N, hrel.tm, hrel.ar, hrel.df⟩ rfl hk'
      | some M =>
        obtain ⟨ρ', st', h1, h2, h3⟩ := norm_out (n := c.qs) hrel hk
        exact hend ρ' st' a w h1 h3 h2
    cases fuel with
    | zero => exact ⟨hr, hq⟩
    | succ fuel => exact ⟨fun _ => hq, by rw [hr]; intro i hi; cases hi⟩
  | .nil, _, _, _, _, _, _, _, _, _, _, _, _, _, _, _, _, _, _, _, _, _, hk, _, _ => hk.elim
  | .tk i r, fuel, L, a, w, st, k, Q, n, O, h0, ρ0, ρ, st0, W0, hd, hok, hL, hc, hs, hrel, hq, hk, hend, hQ => by
    simp only [rtOk, Bool.and_eq_true] at hok
    obtain ⟨⟨⟨hm, hf⟩, htp⟩, hok⟩ := hok
    have hm := (mem_iff _ _).1 hm
    obtain ⟨s, hss, hk⟩ := nthS_out hk
    obtain ⟨o, ho, hso⟩ := (stepsOk_out hst).2 i s hss
    have ho : ops[i]? = some o := by simpa using ho
    obtain ⟨v, st', g1, g2, g3, g4, g5⟩ := take_out hs.hp hs.hr (fun m h1 h2 => by rw [hs.nq]; exact ⟨h1, h2⟩) hs.le hrel hso hs.w hk
    obtain ⟨fuel, rfl⟩ : ∃ f, fuel = f + 1 := ⟨fuel - 1, by simp only [depth] at hd; omega⟩
    refine wpB_first ho (Region.noSelect_spec hsel) (fun ch a w hp => absurd hp (hQ _ _ _)) fuel L _ a w hc (Region.free_spec ho hf) hm g4 (fun hp => g5 (by simpa [pmT, htp, pmOf, hss] using hp)) hs.w ?_
    exact rt_out hE hst hsel r (by simp only [depth] at hd; omega) hok (by simpa using hL) (closed_set hc hm) hs g1 (g3.trans hq) g2 hend hQ
  | .one i b r, fuel, L, a, w, st, k, Q, n, O, h0, ρ0, ρ, st0, W0, hd, hok, hL, hc, hs, hrel, hq, hk, hend, hQ => by
    simp only [rtOk, Bool.and_eq_true] at hok
    obtain ⟨⟨⟨hm, hsub⟩, hb⟩, hok⟩ := hok
    have hm := (mem_iff _ _).1 hm
    obtain ⟨fuel, rfl⟩ : ∃ f, fuel = f + 1 := ⟨fuel - 1, by simp only [depth] at hd; omega⟩
    refine ⟨fun h => (by rw [h] at hm; cases hm), fun j hj => ?_⟩
    have : j = i := by simpa using subL_out hsub j hj
    subst this
    cases b with
    | false =>
      have hk : nthS ss j (fun s => stepK E s st fun st => rtK E ss O h0 r st k) := hk
      obtain ⟨s, hss, hk⟩ := nthS_out hk
      obtain ⟨o, ho, hso⟩ := (stepsOk_out hst).2 j s hss
      have ho : ops[j]? = some o := by simpa using ho
      refine step_out hE hrel ho hso hk fun ρ' st' a' w' g1 g2 g3 g4 g5 => ?_
      have hW : Held n W0 w' := fun m hm => by rw [g5 hq m hm]; exact hs.w m hm
      exact ⟨_, .inl rfl, hW, rt_out hE hst hsel r (by simp only [depth] at hd; omega) hok (by simpa using hL) (closed_set hc hm) ⟨hs.hp, hs.hr, hs.nq, Map.le_trans hs.le g2, hW⟩ g1 (g4.trans hq) g3 hend hQ⟩
    | true =>
      have hk : nthS ss j (fun s => quiet false st fun st => stepK E s st fun st => stretch O st fun st => match st with | ⟨tm, hp, nx, ar, q, fr⟩ => rtK E ss O hp r ⟨tm, hp, nx, ar, q, fr⟩ k) := hk
      obtain ⟨s, hss, hk⟩ := nthS_out hk
      obtain ⟨o, ho, hso⟩ := (stepsOk_out hst).2 j s hss
      have ho : ops[j]? = some o := by simpa using ho
      have hk : stepK E s ⟨st.tm, st.hp, st.nx, st.ar, false, st.fr⟩ (fun st => stretch O st fun st => match st with | ⟨tm, hp, nx, ar, q, fr⟩ => rtK E ss O hp r ⟨tm, hp, nx, ar, q, fr⟩ k) := hk
      have hrel1 : Rel (c.at n) ρ [] [] ⟨st.tm, st.hp, st.nx, st.ar, false, st.fr⟩ a w := ⟨hrel.hr.loud (c := c.at n) (n := n) rfl rfl rfl, hrel.N, hrel.tm, hrel.ar, hrel.df⟩
      refine step_out hE hrel1 ho hso hk fun ρ' st' a' w' g1 g2 g3 g4 g5 => ?_
      have g3 : rtK E ss O st'.hp r ⟨st'.tm, st'.hp, st'.nx, st'.ar, true, O⟩ k := g3
      have hstill : HR (c.at (stay ρ' st' w' O)) ρ' [] [] ⟨st'.tm, st'.hp, st'.nx, st'.ar, true, O⟩ w' := g1.hr.still rfl rfl rfl
      exact ⟨Held (stay ρ' st' w' O) w', .inr (barB_out hL hb), fun _ _ => rfl, rt_out hE hst hsel r (by simp only [depth] at hd; omega) hok (by simpa using hL) (closed_set hc hm)
        ⟨rfl, hstill, rfl, Map.le_refl _, fun _ _ => rfl⟩ ⟨hstill, g1.N, g1.tm, g1.ar, g1.df⟩ rfl g3 hend hQ⟩
  | .alt i b r m, fuel, L, a, w, st, k, Q, n, O, h0, ρ0, ρ, st0, W0, hd, hok, hL, hc, hs, hrel, hq, hk, hend, hQ => by
    simp only [rtOk, Bool.and_eq_true] at hok
    obtain ⟨⟨⟨⟨hm, hsub⟩, hb⟩, hok⟩, hokm⟩ := hok
    have hm := (mem_iff _ _).1 hm
    obtain ⟨fuel, rfl⟩ : ∃ f, fuel = f + 1 := ⟨fuel - 1, by simp only [depth] at hd; omega⟩
    -- the first, whatever is asked at the end
    have first : ∀ {Q' : Exit → Act → World → Prop} {k' : St → Prop}, (∀ st2, rtAll E ss O h0 m st st2 ∧ k st2 → k' st2) → Ends c k' Q' → (∀ ch a w, ¬ Q' (.panic ch) a w) →
        wpOp P ops Q' i (fun a' w' => ∃ S', (S' = Held n W0 ∨ Bar ops (pmT ss T) L i) ∧ S' w' ∧ wpB P ops (pmT ss T) Q' fuel (L.setIfInBounds i true) S' a' w') a w := by
      intro Q' k' hkk hend' hQ'
      cases b with
      | false =>
        have hk : nthS ss i (fun s => stepK E s st fun st1 => rtK E ss O h0 r st1 fun st2 => rtAll E ss O h0 m st st2 ∧ k st2) := hk
        obtain ⟨s, hss, hk⟩ := nthS_out hk
        obtain ⟨o, ho, hso⟩ := (stepsOk_out hst).2 i s hss
        have ho : ops[i]? = some o := by simpa using ho
        refine step_out hE hrel ho hso hk fun ρ' st' a' w' g1 g2 g3 g4 g5 => ?_
        have hW : Held n W0 w' := fun m hm => by rw [g5 hq m hm]; exact hs.w m hm
        exact ⟨_, .inl rfl, hW, rt_out hE hst hsel r (by simp only [depth] at hd; omega) hok (by simpa using hL) (closed_set hc hm) ⟨hs.hp, hs.hr, hs.nq, Map.le_trans hs.le g2, hW⟩ g1 (g4.trans hq) g3
          (fun ρ2 st2 a2 w2 r1 r2 r3 => hend' ρ2 st2 a2 w2 r1 r2 (hkk st2 r3)) hQ'⟩
      | true =>
        have hk : nthS ss i (fun s => quiet false st fun st0 => stepK E s st0 fun st1 => stretch O st1 fun st1 => match st1 with | ⟨tm, hp, nx, ar, q, fr⟩ => rtK E ss O hp r ⟨tm, hp, nx, ar, q, fr⟩ fun st2 => rtAll E ss O h0 m st st2 ∧ k st2) := hk
        obtain ⟨s, hss, hk⟩ := nthS_out hk
        obtain ⟨o, ho, hso⟩ := (stepsOk_out hst).2 i s hss
        have ho : ops[i]? = some o := by simpa using ho
        have hk : stepK E s ⟨st.tm, st.hp, st.nx, st.ar, false, st.fr⟩ (fun st1 => stretch O st1 fun st1 => match st1 with | ⟨tm, hp, nx, ar, q, fr⟩ => rtK E ss O hp r ⟨tm, hp, nx, ar, q, fr⟩ fun st2 => rtAll E ss O h0 m st st2 ∧ k st2) := hk
        have hrel1 : Rel (c.at n) ρ [] [] ⟨st.tm, st.hp, st.nx, st.ar, false, st.fr⟩ a w := ⟨hrel.hr.loud (c := c.at n) (n := n) rfl rfl rfl, hrel.N, hrel.tm, hrel.ar, hrel.df⟩
        refine step_out hE hrel1 ho hso hk fun ρ' st' a' w' g1 g2 g3 g4 g5 => ?_
        have g3 : rtK E ss O st'.hp r ⟨st'.tm, st'.hp, st'.nx, st'.ar, true, O⟩ (fun st2 => rtAll E ss O h0 m st st2 ∧ k st2) := g3
        have hstill : HR (c.at (stay ρ' st' w' O)) ρ' [] [] ⟨st'.tm, st'.hp, st'.nx, st'.ar, true, O⟩ w' := g1.hr.still rfl rfl rfl
        exact ⟨Held (stay ρ' st' w' O) w', .inr (barB_out hL hb), fun _ _ => rfl, rt_out hE hst hsel r (by simp only [depth] at hd; omega) hok (by simpa using hL) (closed_set hc hm)
          ⟨rfl, hstill, rfl, Map.le_refl _, fun _ _ => rfl⟩ ⟨hstill, g1.N, g1.tm, g1.ar, g1.df⟩ rfl g3 (fun ρ2 st2 a2 w2 r1 r2 r3 => hend' ρ2 st2 a2 w2 r1 r2 (hkk st2 r3)) hQ'⟩
    have hex : ∃ st2, st2.q = false ∧ rtAll E ss O h0 m st st2 ∧ k st2 := by
      refine wpOp_ex (Q := fun e _ _ => e = .normal ∧ ∃ st2, st2.q = false ∧ rtAll E ss O h0 m st st2 ∧ k st2) (fun e a w h => h.1) (first (k' := fun st2 => rtAll E ss O h0 m st st2 ∧ k st2) (fun _ h => h) (fun ρ2 st2 a2 w2 r1 r2 r3 => ⟨rfl, st2, r2, r3⟩) (fun ch a w h => by cases h.1)) fun a' w' h => ?_
      obtain ⟨S', _, _, hb⟩ := h
      exact wpB_ex (fun e a w h => h) fuel _ S' a' w' hb
    obtain ⟨st2, _, hall, hk2⟩ := hex
    refine ⟨fun h => (by rw [h] at hm; cases hm), fun j hj => ?_⟩
    rcases List.mem_cons.1 (subL_out hsub j hj) with rfl | hj'
    · exact first (fun _ h => h.2) hend hQ
    · exact alt_out hE hst hsel m (by simp only [depth] at hd; omega) hokm hL hc hs hrel hq hall (fun ρ2 st3 a2 w2 r1 r2 r3 => hend ρ2 st3 a2 w2 r1 r2 (by rw [r3]; exact hk2)) hQ j hj' hj
  | .fin r, fuel, L, a, w, st, k, Q, n, O, h0, ρ0, ρ, st0, W0, hd, hok, hL, hc, hs, hrel, hq, hk, hend, hQ => by
    have hk : ∃ F : St → Prop, rtK E ss O h0 r st F ∧ ∀ st, F st → k st := hk
    obtain ⟨F, hk1, hk2⟩ := hk
    exact rt_out hE hst hsel r (by simpa only [depth] using hd) (by simpa only [rtOk] using hok) hL hc hs hrel hq hk1 (fun ρ2 st2 a2 w2 r1 r2 r3 => hend ρ2 st2 a2 w2 r1 r2 (hk2 _ r3)) hQ
  | .any i b r m, fuel, L, a, w, st, k, Q, n, O, h0, ρ0, ρ, st0, W0, hd, hok, hL, hc, hs, hrel, hq, hk, hend, hQ => by
    simp only [rtOk, Bool.and_eq_true] at hok
    obtain ⟨⟨⟨⟨hm, hsub⟩, hb⟩, hok⟩, hokm⟩ := hok
    have hm := (mem_iff _ _).1 hm
    obtain ⟨fuel, rfl⟩ : ∃ f, fuel = f + 1 := ⟨fuel - 1, by simp only [depth] at hd; omega⟩
    have hmore : rtAny E ss O h0 m st k := by cases b <;> exact hk.2
    refine ⟨fun h => (by rw [h] at hm; cases hm), fun j hj => ?_⟩
    rcases List.mem_cons.1 (subL_out hsub j hj) with rfl | hj'
    · cases b with
      | false =>
        have hk : nthS ss j (fun s => stepK E s st fun st1 => rtK E ss O h0 r st1 k) := hk.1
        obtain ⟨s, hss, hk⟩ := nthS_out hk
        obtain ⟨o, ho, hso⟩ := (stepsOk_out hst).2 j s hss
        have ho : ops[j]? = some o := by simpa using ho
        refine step_out hE hrel ho hso hk fun ρ' st' a' w' g1 g2 g3 g4 g5 => ?_
        have hW : Held n W0 w' := fun m hm => by rw [g5 hq m hm]; exact hs.w m hm
        exact ⟨_, .inl rfl, hW, rt_out hE hst hsel r (by simp only [depth] at hd; omega) hok (by simpa using hL) (closed_set hc hm) ⟨hs.hp, hs.hr, hs.nq, Map.le_trans hs.le g2, hW⟩ g1 (g4.trans hq) g3 hend hQ⟩
      | true =>
        have hk : nthS ss j (fun s => quiet false st fun st0 => stepK E s st0 fun st1 => stretch O st1 fun st1 => match st1 with | ⟨tm, hp, nx, ar, q, fr⟩ => rtK E ss O hp r ⟨tm, hp, nx, ar, q, fr⟩ k) := hk.1
        obtain ⟨s, hss, hk⟩ := nthS_out hk
        obtain ⟨o, ho, hso⟩ := (stepsOk_out hst).2 j s hss
        have ho : ops[j]? = some o := by simpa using ho
        have hk : stepK E s ⟨st.tm, st.hp, st.nx, st.ar, false, st.fr⟩ (fun st1 => stretch O st1 fun st1 => match st1 with | ⟨tm, hp, nx, ar, q, fr⟩ => rtK E ss O hp r ⟨tm, hp, nx, ar, q, fr⟩ k) := hk
        have hrel1 : Rel (c.at n) ρ [] [] ⟨st.tm, st.hp, st.nx, st.ar, false, st.fr⟩ a w := ⟨hrel.hr.loud (c := c.at n) (n := n) rfl rfl rfl, hrel.N, hrel.tm, hrel.ar, hrel.df⟩
        refine step_out hE hrel1 ho hso hk fun ρ' st' a' w' g1 g2 g3 g4 g5 => ?_
        have g3 : rtK E ss O st'.hp r ⟨st'.tm, st'.hp, st'.nx, st'.ar, true, O⟩ k := g3
        have hstill : HR (c.at (stay ρ' st' w' O)) ρ' [] [] ⟨st'.tm, st'.hp, st'.nx, st'.ar, true, O⟩ w' := g1.hr.still rfl rfl rfl
        exact ⟨Held (stay ρ' st' w' O) w', .inr (barB_out hL hb), fun _ _ => rfl, rt_out hE hst hsel r (by simp only [depth] at hd; omega) hok (by simpa using hL) (closed_set hc hm)
          ⟨rfl, hstill, rfl, Map.le_refl _, fun _ _ => rfl⟩ ⟨hstill, g1.N, g1.tm, g1.ar, g1.df⟩ rfl g3 hend hQ⟩
    · exact any_out hE hst hsel m (by simp only [depth] at hd; omega) hokm hL hc hs hrel hq hmore hend hQ j hj' hj
theorem alt_out (hE : EnvOk P E) (hst : stepsOk P c.N ops ss ops.toList = true) (hsel : Region.noSelect ops = true) : ∀ (r : RT) {fuel : Nat} {L : Array Bool} {a : Act} {w : World} {st st2 : St} {Q : Exit → Act → World → Prop} {n : Nat → Prop} {O : List Nat} {h0 : List (Nat × Option Blk)} {ρ0 ρ : Map} {st0 : St} {W0 : World},
    depth r ≤ fuel + 1 → altOk ops (pmT ss T) (fun i => mem i T) r L = true → L.size = ops.size → Closed ops L → Start c ρ w n O h0 ρ0 st0 W0 → Rel (c.at n) ρ [] [] st a w → st.q = true → rtAll E ss O h0 r st st2 → Ends c (fun s => s = st2) Q → (∀ ch a w, ¬ Q (.panic ch) a w) →
    ∀ j, j ∈ heads r → j ∈ Region.ready .any ops L → wpOp P ops Q j (fun a' w' => ∃ S', (S' = Held n W0 ∨ Bar ops (pmT ss T) L j) ∧ S' w' ∧ wpB P ops (pmT ss T) Q fuel (L.setIfInBounds j true) S' a' w') a w
  | .alt i b r m, fuel, L, a, w, st, st2, Q, n, O, h0, ρ0, ρ, st0, W0, hd, hok, hL, hc, hs, hrel, hq, hall, hend, hQ, j, hj, hjr => by
    simp only [altOk, Bool.and_eq_true] at hok
    obtain ⟨⟨hb, hok1⟩, hok2⟩ := hok
    have hall2 : rtAll E ss O h0 m st st2 := by cases b <;> exact hall.2
    rcases List.mem_cons.1 (show j ∈ i :: heads m from hj) with rfl | hj'
    · cases b with
      | false =>
        have hall : (nthS ss j fun s => stepK E s st fun st1 => rtK E ss O h0 r st1 fun st3 => st3 = st2) ∧ rtAll E ss O h0 m st st2 := hall
        obtain ⟨s, hss, hk⟩ := nthS_out hall.1
        obtain ⟨o, ho, hso⟩ := (stepsOk_out hst).2 j s hss
        have ho : ops[j]? = some o := by simpa using ho
        refine step_out hE hrel ho hso hk fun ρ' st' a' w' g1 g2 g3 g4 g5 => ?_
        have hW : Held n W0 w' := fun m hm => by rw [g5 hq m hm]; exact hs.w m hm
        exact ⟨_, .inl rfl, hW, rt_out hE hst hsel r (by simp only [depth] at hd; omega) hok1 (by simpa using hL) (closed_set hc hjr) ⟨hs.hp, hs.hr, hs.nq, Map.le_trans hs.le g2, hW⟩ g1 (g4.trans hq) g3 hend hQ⟩
      | true =>
        have hall : (nthS ss j fun s => quiet false st fun st0 => stepK E s st0 fun st1 => stretch O st1 fun st1 => match st1 with | ⟨tm, hp, nx, ar, q, fr⟩ => rtK E ss O hp r ⟨tm, hp, nx, ar, q, fr⟩ fun st3 => st3 = st2) ∧ rtAll E ss O h0 m st st2 := hall
        obtain ⟨s, hss, hk⟩ := nthS_out hall.1
        obtain ⟨o, ho, hso⟩ := (stepsOk_out hst).2 j s hss
        have ho : ops[j]? = some o := by simpa using ho
        have hk : stepK E s ⟨st.tm, st.hp, st.nx, st.ar, false, st.fr⟩ (fun st1 => stretch O st1 fun st1 => match st1 with | ⟨tm, hp, nx, ar, q, fr⟩ => rtK E ss O hp r ⟨tm, hp, nx, ar, q, fr⟩ fun st3 => st3 = st2) := hk
        have hrel1 : Rel (c.at n) ρ [] [] ⟨st.tm, st.hp, st.nx, st.ar, false, st.fr⟩ a w := ⟨hrel.hr.loud (c := c.at n) (n := n) rfl rfl rfl, hrel.N, hrel.tm, hrel.ar, hrel.df⟩
        refine step_out hE hrel1 ho hso hk fun ρ' st' a' w' g1 g2 g3 g4 g5 => ?_
        have g3 : rtK E ss O st'.hp r ⟨st'.tm, st'.hp, st'.nx, st'.ar, true, O⟩ (fun st3 => st3 = st2) := g3
        have hstill : HR (c.at (stay ρ' st' w' O)) ρ' [] [] ⟨st'.tm, st'.hp, st'.nx, st'.ar, true, O⟩ w' := g1.hr.still rfl rfl rfl
        exact ⟨Held (stay ρ' st' w' O) w', .inr (barB_out hL hb), fun _ _ => rfl, rt_out hE hst hsel r (by simp only [depth] at hd; omega) hok1 (by simpa using hL) (closed_set hc hjr)
          ⟨rfl, hstill, rfl, Map.le_refl _, fun _ _ => rfl⟩ ⟨hstill, g1.N, g1.tm, g1.ar, g1.df⟩ rfl g3 hend hQ⟩
    · exact alt_out hE hst hsel m (by simp only [depth] at hd; omega) hok2 hL hc hs hrel hq hall2 hend hQ j hj' hjr
  | .nil, _, _, _, _, _, _, _, _, _, _, _, _, _, _, _, _, _, _, _, _, _, _, _, _, _, hj, _ => by cases hj
  | .done _, _, _, _, _, _, _, _, _, _, _, _, _, _, _, _, _, _, _, _, _, _, _, _, _, _, hj, _ => by cases hj
  | .tk _ _, _, _, _, _, _, _, _, _, _, _, _, _, _, _, _, _, _, _, _, _, _, _, _, _, _, hj, _ => by cases hj
  | .one _ _ _, _, _, _, _, _, _, _, _, _, _, _, _, _, _, _, _, _, _, _, _, _, _, _, _, _, hj, _ => by cases hj
  | .any _ _ _ _, _, _, _, _, _, _, _, _, _, _, _, _, _, _, _, _, _, _, _, _, _, _, _, _, _, hj, _ => by cases hj
  | .fin _, _, _, _, _, _, _, _, _, _, _, _, _, _, _, _, _, _, _, _, _, _, _, _, _, _, hj, _ => by cases hj
theorem any_out (hE : EnvOk P E) (hst : stepsOk P c.N ops ss ops.toList = true) (hsel : Region.noSelect ops = true) : ∀ (r : RT) {fuel : Nat} {L : Array Bool} {a : Act} {w : World} {st : St} {k : St → Prop} {Q : Exit → Act → World → Prop} {n : Nat → Prop} {O : List Nat} {h0 : List (Nat × Option Blk)} {ρ0 ρ : Map} {st0 : St} {W0 : World},
    depth r ≤ fuel + 1 → anyOk ops (pmT ss T) (fun i => mem i T) r L = true → L.size = ops.size → Closed ops L → Start c ρ w n O h0 ρ0 st0 W0 → Rel (c.at n) ρ [] [] st a w → st.q = true → rtAny E ss O h0 r st k → Ends c k Q → (∀ ch a w, ¬ Q (.panic ch) a w) →
    ∀ j, j ∈ headsA r → j ∈ Region.ready .any ops L → wpOp P ops Q j (fun a' w' => ∃ S', (S' = Held n W0 ∨ Bar ops (pmT ss T) L j) ∧ S' w' ∧ wpB P ops (pmT ss T) Q fuel (L.setIfInBounds j true) S' a' w') a w
  | .any i b r m, fuel, L, a, w, st, k, Q, n, O, h0, ρ0, ρ, st0, W0, hd, hok, hL, hc, hs, hrel, hq, hall, hend, hQ, j, hj, hjr => by
    simp only [anyOk, Bool.and_eq_true] at hok
    obtain ⟨⟨hb, hok1⟩, hok2⟩ := hok
    have hmore : rtAny E ss O h0 m st k := by cases b <;> exact hall.2
    rcases List.mem_cons.1 (show j ∈ i :: headsA m from hj) with rfl | hj'
    · cases b with
      | false =>
        have hk : nthS ss j (fun s => stepK E s st fun st1 => rtK E ss O h0 r st1 k) := hall.1
        obtain ⟨s, hss, hk⟩ := nthS_out hk
        obtain ⟨o, ho, hso⟩ := (stepsOk_out hst).2 j s hss
        have ho : ops[j]? = some o := by simpa using ho
        refine step_out hE hrel ho hso hk fun ρ' st' a' w' g1 g2 g3 g4 g5 => ?_
        have hW : Held n W0 w' := fun m hm => by rw [g5 hq m hm]; exact hs.w m hm
        exact ⟨_, .inl rfl, hW, rt_out hE hst hsel r (by simp only [depth] at hd; omega) hok1 (by simpa using hL) (closed_set hc hjr) ⟨hs.hp, hs.hr, hs.nq, Map.le_trans hs.le g2, hW⟩ g1 (g4.trans hq) g3 hend hQ⟩
      | true =>
        have hk : nthS ss j (fun s => quiet false st fun st0 => stepK E s st0 fun st1 => stretch O st1 fun st1 => match st1 with | ⟨tm, hp, nx, ar, q, fr⟩ => rtK E ss O hp r ⟨tm, hp, nx, ar, q, fr⟩ k) := hall.1
        obtain ⟨s, hss, hk⟩ := nthS_out hk
        obtain ⟨o, ho, hso⟩ := (stepsOk_out hst).2 j s hss
        have ho : ops[j]? = some o := by simpa using ho
        have hk : stepK E s ⟨st.tm, st.hp, st.nx, st.ar, false, st.fr⟩ (fun st1 => stretch O st1 fun st1 => match st1 with | ⟨tm, hp, nx, ar, q, fr⟩ => rtK E ss O hp r ⟨tm, hp, nx, ar, q, fr⟩ k) := hk
        have hrel1 : Rel (c.at n) ρ [] [] ⟨st.tm, st.hp, st.nx, st.ar, false, st.fr⟩ a w := ⟨hrel.hr.loud (c := c.at n) (n := n) rfl rfl rfl, hrel.N, hrel.tm, hrel.ar, hrel.df⟩
        refine step_out hE hrel1 ho hso hk fun ρ' st' a' w' g1 g2 g3 g4 g5 => ?_
        have g3 : rtK E ss O st'.hp r ⟨st'.tm, st'.hp, st'.nx, st'.ar, true, O⟩ k := g3
        have hstill : HR (c.at (stay ρ' st' w' O)) ρ' [] [] ⟨st'.tm, st'.hp, st'.nx, st'.ar, true, O⟩ w' := g1.hr.still rfl rfl rfl
        exact ⟨Held (stay ρ' st' w' O) w', .inr (barB_out hL hb), fun _ _ => rfl, rt_out hE hst hsel r (by simp only [depth] at hd; omega) hok1 (by simpa using hL) (closed_set hc hjr)
          ⟨rfl, hstill, rfl, Map.le_refl _, fun _ _ => rfl⟩ ⟨hstill, g1.N, g1.tm, g1.ar, g1.df⟩ rfl g3 hend hQ⟩
    · exact any_out hE hst hsel m (by simp only [depth] at hd; omega) hok2 hL hc hs hrel hq hmore hend hQ j hj' hjr
  | .nil, _, _, _, _, _, _, _, _, _, _, _, _, _, _, _, _, _, _, _, _, _, _, _, _, _, hj, _ => by cases hj
  | .done _, _, _, _, _, _, _, _, _, _, _, _, _, _, _, _, _, _, _, _, _, _, _, _, _, _, hj, _ => by cases hj
  | .tk _ _, _, _, _, _, _, _, _, _, _, _, _, _, _, _, _, _, _, _, _, _, _, _, _, _, _, hj, _ => by cases hj
  | .one _ _ _, _, _, _, _, _, _, _, _, _, _, _, _, _, _, _, _, _, _, _, _, _, _, _, _, _, hj, _ => by cases hj
  | .alt _ _ _ _, _, _, _, _, _, _, _, _, _, _, _, _, _, _, _, _, _, _, _, _, _, _, _, _, _, hj, _ => by cases hj
  | .fin _, _, _, _, _, _, _, _, _, _, _, _, _, _, _, _, _, _, _, _, _, _, _, _, _, _, hj, _ => by cases hj
end

theorem fN_iff : ∀ (l : List Nat) (k : List Nat → Prop), fN l k ↔ k l
  | [], _ => Iff.rfl
  | x :: xs, k => by simp only [fN]; rw [fN_iff xs]
theorem rgd_out {id : Nat} {A : List Nat} {r : RT} {a : Act} {w : World} {ρ : Map} {st : St} {k : St → Prop} {Q : Exit → Act → World → Prop} (hE : EnvOk P E) (hm : P.follows .mixedOrders = true) (hst : stepsOk P c.N ops ss ops.toList = true) (hsel : Region.noSelect ops = true)
    (hd : depth r ≤ ops.size) (hok : rtOk ops (pmT ss T) (fun i => mem i T) r (Array.replicate ops.size false) = true) (hrel : Rel c ρ [] [] st a w)
    (hk : fN (openIds st A) fun O => stretch O st fun st => match st with | ⟨tm, hp, nx, ar, q, fr⟩ => rtK E ss O hp r ⟨tm, hp, nx, ar, q, fr⟩ k) (hend : Ends c k Q) (hQ : ∀ ch a w, ¬ Q (.panic ch) a w) : (Code.region id ops true).wp P Q a w := by
  rw [fN_iff] at hk
  generalize openIds st A = O at hk
  have hk : rtK E ss O st.hp r ⟨st.tm, st.hp, st.nx, st.ar, true, O⟩ k := hk
  have h1 : HR (c.at (stay ρ st w.drew O)) ρ [] [] ⟨st.tm, st.hp, st.nx, st.ar, true, O⟩ w.drew := hrel.hr.drew.still rfl rfl rfl
  refine wp_region_any hm (wpB_any (pm := pmT ss T) _ _ (Held (stay ρ st w.drew O) w.drew) _ _ ?_)
  exact rt_out hE hst hsel r hd hok (by simp) (fun j o hj => by rw [Array.getD_eq_getD_getElem?, Array.getElem?_replicate] at hj; split at hj <;> cases hj) ⟨rfl, h1, rfl, Map.le_refl _, fun _ _ => rfl⟩ ⟨h1, hrel.N, hrel.tm, hrel.ar, hrel.df⟩ rfl hk hend hQ

theorem reg_out {id : Nat} {a : Act} {w : World} {ρ : Map} {st : St} {k : St → Prop} {Q : Exit → Act → World → Prop} (hE : EnvOk P E) (hst : stepsOk P c.N ops ss ops.toList = true) (hrel : Rel c ρ [] [] st a w)
    (hk : stepsK E ss st k) (hend : ∀ ρ' st' a' w', Rel c ρ' [] [] st' a' w' → k st' → Q .normal a' w') : (Code.region id ops false).wp P Q a w := by
  refine wp_region ?_
  have hlen := (stepsOk_out hst).1
  have key : ∀ (m i : Nat) {a : Act} {w : World} {ρ : Map} {st : St}, i + m = ops.size → Rel c ρ [] [] st a w → stepsK E (ss.drop i) st k → wpOps P ops Q (List.range' i m) a w := by
    intro m
    induction m with
    | zero =>
      intro i a w ρ st him hrel hk
      rw [List.drop_eq_nil_of_le (by rw [hlen]; simp; omega)] at hk
      exact hend _ _ _ _ hrel hk
    | succ m ih =>
      intro i a w ρ st him hrel hk
      have hi : i < ss.length := by rw [hlen]; simp; omega
      rw [List.drop_eq_getElem_cons hi] at hk
      obtain ⟨o, ho, hso⟩ := (stepsOk_out hst).2 i ss[i] (by simp [hi])
      have ho : ops[i]? = some o := by simpa using ho
      rw [List.range'_succ, wpOps_cons]
      exact step_out hE hrel ho hso hk fun ρ' st' a' w' g1 _ g3 _ _ => ih (i + 1) (by omega) g1 g3
  rw [List.range_eq_range']
  exact key ops.size 0 (by simp) hrel (by simpa using hk)
end
end Go.Pi
