/- A step of a region: guards, and what is put. No conditions. -/
import Derived.Test.YtgpchgakonpcfaaGreatDoorPiEff3
namespace Go.Pi
set_option linter.unusedVariables false
set_option linter.unusedSimpArgs false
set_option linter.constructorNameAsVariable false

def Post {P : Program} (c : Ctx P) (kk : Ex → St → Prop) : Exit → Act → World → Prop
  | .normal, a, w => ∃ ρ st, Rel c ρ [] [] st a w ∧ kk .normal st
  | .exit id, a, w => ∃ ρ st, Rel c ρ [] [] st a w ∧ kk (.exit id) st
  | .ret, a, w => ∃ ρ st, Rel c ρ [] [] st a w ∧ kk .ret st
  | _, _, _ => False

def stepOk (P : Program) (N : Nat) (ops : Array Oper) (o : Oper) : Step → Bool
  | .s i => (match o.guard with | none => true | some _ => false) && inOk P N o i
  | .g t w d i => (match o.guard with | some (j, w') => (w == w') && (match ops[j]? with | some oj => (match oj.dst with | some e => Nat.beq e t | none => false) | none => false) | none => false) &&
      ddOk N o d && inOk P N o i

section
variable {P : Program} {N : Nat} {ops : Array Oper} {o : Oper} {a : Act} {E : List Fun} {c : Ctx P} {ρ : Map} {Z Y : List Nat} {st : St} {w : World} {k : St → Prop}

theorem HR.hp {st' : St} (h : HR c ρ Z Y st w) (h1 : st'.hp = st.hp) (h2 : st'.nx = st.nx) (h3 : st'.q = st.q) (h4 : st'.fr = st.fr) : HR c ρ Z Y st' w := by
  have hg : ∀ b, st'.hget b = st.hget b := fun b => by unfold St.hget; rw [h1]
  refine ⟨fun b B hb => h.bk b B (by rw [← hg]; exact hb), fun b B l b' B' l' hb hl hb' hl' => h.sp b B l b' B' l' (by rw [← hg]; exact hb) hl (by rw [← hg]; exact hb') hl', fun b B l hb hl => h.ow b B l (by rw [← hg]; exact hb) hl, h.zn,
    fun z hz => ⟨(h.zb z hz).1, (h.zb z hz).2.1, (h.zb z hz).2.2.1, fun b B l hb hl => (h.zb z hz).2.2.2 b B l (by rw [← hg]; exact hb) hl⟩, fun y hy => ⟨(h.yb y hy).1, (h.yb y hy).2.1, fun b B l hb hl => (h.yb y hy).2.2 b B l (by rw [← hg]; exact hb) hl⟩,
    by rw [h2]; exact h.nx, by rw [h2]; exact h.nf, h.fr, fun hq i hi B l hb hl => h.qf (by rw [← h3]; exact hq) i (by rw [← h4]; exact hi) B l (by rw [← hg]; exact hb) hl, fun hq => h.qz (by rw [← h3]; exact hq), fun hq => h.qw (by rw [← h3]; exact hq)⟩

theorem Rel.ev (h : Rel c ρ Z Y st a w) : Ev ρ st a := Ev.of h.tm

theorem put_out {d : Nat} {v : TV} (h : put st d v k) : k ⟨(d, v) :: st.tm, st.hp, st.nx, st.ar, st.q, st.fr⟩ := h

theorem Rel.put {d : Nat} {x : TV} {v : Value} (h : Rel c ρ Z Y st a w) (hd : d < c.N) (hx : TVR ρ x v) : Rel c ρ Z Y ⟨(d, x) :: st.tm, st.hp, st.nx, st.ar, st.q, st.fr⟩ (a.put (some d) v) w := by
  refine ⟨h.hr.hp rfl rfl rfl rfl, by simp [Act.put, h.N], fun i u hu => ?_, h.ar, by simp [Act.put, h.df]⟩
  rw [aget_cons] at hu
  simp only [Act.put]
  by_cases e : i = d
  · subst e
    rw [if_pos rfl] at hu
    cases hu
    exact ⟨v, by rw [Array.getElem?_setIfInBounds_self_of_lt (by rw [h.N]; exact hd)], hx⟩
  · rw [if_neg e] at hu
    obtain ⟨y, h1, h2⟩ := h.tm i u hu
    exact ⟨y, by rw [Array.getElem?_setIfInBounds_ne (Ne.symm e)]; exact h1, h2⟩

theorem Rel.putD {d : Option Nat} {x : TV} {v : Value} (h : Rel c ρ Z Y st a w) (hd : ∀ e, d = some e → e < c.N) (hx : TVR ρ x v) (hk : putD st d x k) :
    ∃ st', Rel c ρ Z Y st' (a.put d v) w ∧ k st' ∧ st'.q = st.q := by
  cases d with
  | none => exact ⟨st, h, hk, rfl⟩
  | some d => exact ⟨_, h.put (hd d rfl) hx, put_out hk, rfl⟩

theorem Did.rel {d : Option Nat} {v : Value} {w' : World} (h : Rel c ρ [] [] st a w) (hd : ∀ e, d = some e → e < c.N) (hh : Did c ρ st w d k v w') :
    ∃ ρ' st', Rel c ρ' [] [] st' (a.put d v) w' ∧ ρ.le ρ' ∧ k st' ∧ st'.q = st.q ∧ (st.q = true → ∀ n, c.qs n → w'.heap[n]? = w.heap[n]?) := by
  obtain ⟨ρ', st1, x, h1, hle, hs, hx, hk, hq⟩ := hh
  have hr : Rel c ρ' [] [] st1 a w' := ⟨h1, h.N, fun i v hv => by rw [hs.tm] at hv; obtain ⟨u, g1, g2⟩ := h.tm i v hv; exact ⟨u, g1, g2.mono hle⟩, by rw [hs.ar]; exact ArR.mono hle h.ar, h.df⟩
  obtain ⟨st', g1, g2, g3⟩ := hr.putD hd hx hk
  exact ⟨ρ', st', g1, hle, g2, g3.trans hs.q, hq⟩

theorem Out.wp {K : Act → World → Prop} {Q : Exit → Act → World → Prop} (h : Rel c ρ [] [] st a w) (ho : Out P c.N o a c ρ st w k)
    (hK : ∀ ρ' st' a' w', Rel c ρ' [] [] st' a' w' → ρ.le ρ' → k st' → st'.q = st.q → (st.q = true → ∀ n, c.qs n → w'.heap[n]? = w.heap[n]?) → K a' w') : o.wp P a w K Q := by
  obtain ⟨hd, ho⟩ := ho
  unfold Oper.wp
  rcases ho with ⟨v, w', hr, hdid⟩ | ⟨w', hr, hn, hdid⟩ | ⟨f, args, hr, hcalls⟩
  · rw [hr, Oper.upon_value]
    obtain ⟨ρ', st', g1, g2, g3, g4, g5⟩ := hdid.rel h hd
    exact hK _ _ _ _ g1 g2 g3 g4 g5
  · rw [hr, Oper.upon_skip, hn]
    obtain ⟨ρ', st', g1, g2, g3, g4, g5⟩ := hdid.rel h (fun e he => by cases he)
    exact hK _ _ _ _ g1 g2 g3 g4 g5
  · rw [hr, Oper.upon_enter]
    refine hcalls.mono fun e w' he => ?_
    obtain ⟨v, rfl, hdid⟩ := he
    obtain ⟨ρ', st', g1, g2, g3, g4, g5⟩ := hdid.rel h hd
    exact hK _ _ _ _ g1 g2 g3 g4 g5

theorem yielded_of {j t : Nat} {oj : Oper} (h : Rel c ρ [] [] st a w) (hj : ops[j]? = some oj) (hd : oj.dst = some t) {x : Cell} {b : Bool} (hx : st.ev (.t t) = .v (.c x)) (hb : ∀ v, CellR ρ x v → v = .bool b) : yielded ops a.tmps j = some b := by
  have : ∃ v, aget st.tm t = some v ∧ v = .v (.c x) := by
    simp only [St.ev] at hx
    split at hx
    · rename_i v hv; exact ⟨v, hv, hx⟩
    · cases hx
  obtain ⟨v, hv, rfl⟩ := this
  obtain ⟨u, hu, hr⟩ := h.tm t _ hv
  have := hb u hr
  subst this
  simp [yielded, hj, hd, hu]

def gstep (f : In → St → (St → Prop) → Prop) (s : Step) (st : St) (k : St → Prop) : Prop :=
  match s with
  | .s i => f i st k
  | .g t w d i => match st.ev (.t t) with
    | .v (.c .tt) => match w with | true => f i st k | false => Go.Pi.putD st d (.tup []) k
    | .v (.c .ff) => match w with | false => f i st k | true => Go.Pi.putD st d (.tup []) k
    | .v (.c (.bool b)) => match w with
      | true => sel b (putC st t .tt fun st => f i st k) (putC st t .ff fun st => Go.Pi.putD st d (.tup []) k)
      | false => sel b (putC st t .tt fun st => Go.Pi.putD st d (.tup []) k) (putC st t .ff fun st => f i st k)
    | .tup [] => Go.Pi.putD st d (.tup []) k
    | _ => False
theorem stepK_g {s : Step} (h : stepK E s st k) : gstep (insK E) s st k := by cases s <;> exact h
theorem takeK_g {O : List Nat} {h0 : List (Nat × Option Blk)} {s : Step} (h : takeK O h0 s st k) : gstep (takeI O h0) s st k := by cases s <;> exact h
theorem guard_out {s : Step} {f : In → St → (St → Prop) → Prop} (h : Rel c ρ [] [] st a w) (hs : stepOk P c.N ops o s = true)
    (hk : gstep f s st k) :
    (∃ i st1, Region.wanted o (yielded ops a.tmps) = true ∧ inOk P c.N o i = true ∧ Rel c ρ [] [] st1 a w ∧ st1.hp = st.hp ∧ st1.q = st.q ∧ f i st1 k ∧ (match s with | .s j => j = i | .g _ _ _ j => j = i)) ∨
    (∃ st', Region.wanted o (yielded ops a.tmps) = false ∧ Rel c ρ [] [] st' (a.put o.dst undef) w ∧ st'.q = st.q ∧ k st') := by
  cases s with
  | s i =>
    simp only [stepOk, Bool.and_eq_true] at hs
    obtain ⟨hg, hi⟩ := hs
    split at hg
    · rename_i hgn
      exact .inl ⟨i, st, by simp [Region.wanted, hgn], hi, h, rfl, rfl, hk, rfl⟩
    · cases hg
  | g t wt d i =>
    simp only [stepOk, Bool.and_eq_true] at hs
    obtain ⟨⟨hg, hd⟩, hi⟩ := hs
    obtain ⟨hdd, hdn⟩ := ddOk_out hd
    split at hg
    · rename_i j w' hgs
      simp only [Bool.and_eq_true] at hg
      obtain ⟨hw, hj⟩ := hg
      have hw : wt = w' := by simpa using hw
      subst hw
      split at hj
      · rename_i oj hoj
        split at hj
        · rename_i e he
          have hj := Nat.eq_of_beq_eq_true hj
          subst hj
          have un : ∀ {s1 : St}, Rel c ρ [] [] s1 a w → s1.q = st.q → Go.Pi.putD s1 d (.tup []) k → ∃ st', Rel c ρ [] [] st' (a.put o.dst undef) w ∧ st'.q = st.q ∧ k st' := fun {s1} hr hq hp => by
            obtain ⟨st', g1, g2, g3⟩ := hr.putD (x := .tup []) (v := undef) hdn ⟨[], rfl, trivial⟩ hp
            exact ⟨st', by rw [hdd]; exact g1, g3.trans hq, g2⟩
          have refn : ∀ {x y : Cell}, st.ev (.t e) = .v (.c x) → (∀ v, CellR ρ x v → CellR ρ y v) → Rel c ρ [] [] ⟨(e, .v (.c y)) :: st.tm, st.hp, st.nx, st.ar, st.q, st.fr⟩ a w := fun {x y} hx hxy => by
            refine ⟨h.hr.hp rfl rfl rfl rfl, h.N, fun i u hu => ?_, h.ar, h.df⟩
            rw [aget_cons] at hu
            split at hu
            · rename_i hie
              subst hie
              cases hu
              have : ∃ v, aget st.tm i = some v ∧ v = .v (.c x) := by
                simp only [St.ev] at hx
                split at hx
                · rename_i v hv; exact ⟨v, hv, hx⟩
                · cases hx
              obtain ⟨v, hv, rfl⟩ := this
              obtain ⟨u, hu, hr⟩ := h.tm i _ hv
              exact ⟨u, hu, hxy u hr⟩
            · exact h.tm i u hu
          have wan : ∀ b, yielded ops a.tmps j = some b → Region.wanted o (yielded ops a.tmps) = (b == wt) := fun b hb => by
            simp [Region.wanted, hgs, hb]
          simp only [gstep] at hk
          split at hk
          · rename_i hx
            have hy := wan true (yielded_of h hoj he hx (fun v hv => hv))
            cases wt with
            | true => exact .inl ⟨i, st, by rw [hy]; rfl, hi, h, rfl, rfl, hk, rfl⟩
            | false => obtain ⟨st', g1, g2, g3⟩ := un h rfl hk; exact .inr ⟨st', by rw [hy]; rfl, g1, g2, g3⟩
          · rename_i hx
            have hy := wan false (yielded_of h hoj he hx (fun v hv => hv))
            cases wt with
            | false => exact .inl ⟨i, st, by rw [hy]; rfl, hi, h, rfl, rfl, hk, rfl⟩
            | true => obtain ⟨st', g1, g2, g3⟩ := un h rfl hk; exact .inr ⟨st', by rw [hy]; rfl, g1, g2, g3⟩
          · rename_i b hx
            have hy := wan b (yielded_of h hoj he hx (fun v hv => hv))
            cases wt with
            | true =>
              obtain ⟨k1, k2⟩ := sel_o hk
              cases b with
              | true => exact .inl ⟨i, _, by rw [hy]; rfl, hi, refn (y := .tt) hx (fun v hv => hv), rfl, rfl, put_out (k1 rfl), rfl⟩
              | false => obtain ⟨st', g1, g2, g3⟩ := un (refn (y := .ff) hx (fun v hv => hv)) rfl (put_out (k2 rfl)); exact .inr ⟨st', by rw [hy]; rfl, g1, g2, g3⟩
            | false =>
              obtain ⟨k1, k2⟩ := sel_o hk
              cases b with
              | false => exact .inl ⟨i, _, by rw [hy]; rfl, hi, refn (y := .ff) hx (fun v hv => hv), rfl, rfl, put_out (k2 rfl), rfl⟩
              | true => obtain ⟨st', g1, g2, g3⟩ := un (refn (y := .tt) hx (fun v hv => hv)) rfl (put_out (k1 rfl)); exact .inr ⟨st', by rw [hy]; rfl, g1, g2, g3⟩
          · rename_i hx
            have : ∃ v, aget st.tm e = some v ∧ v = .tup [] := by
              simp only [St.ev] at hx
              split at hx
              · rename_i v hv; exact ⟨v, hv, hx⟩
              · cases hx
            obtain ⟨v, hv, rfl⟩ := this
            obtain ⟨u, hu, vs, rfl, hr⟩ := h.tm e _ hv
            have hv := All2.nil_left hr
            subst hv
            have hy : yielded ops a.tmps j = none := by simp [yielded, hoj, he, hu]
            obtain ⟨st', g1, g2, g3⟩ := un h rfl hk
            exact .inr ⟨st', by simp [Region.wanted, hgs, hy], g1, g2, g3⟩
          · exact hk.elim
        · cases hj
      · cases hj
    · cases hg

theorem step_out {s : Step} {i : Nat} {K : Act → World → Prop} {Q : Exit → Act → World → Prop} (hE : EnvOk P E) (h : Rel c ρ [] [] st a w) (hi : ops[i]? = some o) (hs : stepOk P c.N ops o s = true) (hk : stepK E s st k)
    (hK : ∀ ρ' st' a' w', Rel c ρ' [] [] st' a' w' → ρ.le ρ' → k st' → st'.q = st.q → (st.q = true → ∀ n, c.qs n → w'.heap[n]? = w.heap[n]?) → K a' w') : wpOp P ops Q i K a w := by
  unfold wpOp
  simp only [hi]
  rcases guard_out (f := insK E) h hs (stepK_g hk) with ⟨j, st1, hw, hin, hr, hhp, hq, hf, _⟩ | ⟨st', hw, hr, hq, hf⟩
  · rw [if_pos hw]
    left
    exact (ins_out hE hr.hr hr.ev hin hf).wp hr fun ρ' st' a' w' g1 g2 g3 g4 g5 => hK ρ' st' a' w' g1 g2 g3 (g4.trans hq) (by rw [← hq]; exact g5)
  · rw [if_neg (by rw [hw]; simp)]
    exact hK ρ st' _ w hr (Map.le_refl ρ) hf hq (fun _ _ _ => rfl)

def pureS : Step → Bool
  | .s i => pureI i
  | .g _ _ _ i => pureI i
theorem take_out {c0 : Ctx P} {ρ0 : Map} {st0 : St} {W0 : World} {h0 : List (Nat × Option Blk)} {O : List Nat} {q : Nat → Prop} {s : Step} (hh : st0.hp = h0) (h' : HR c0 ρ0 [] [] st0 W0) (hq0 : ∀ m, m < W0.heap.size → m ∉ feet ρ0 st0 O → q m) (hle : ρ0.le ρ) (h : Rel c ρ [] [] st a w) (hs : stepOk P c.N ops o s = true)
    (hW : ∀ n, q n → w.heap[n]? = W0.heap[n]?) (hk : takeK O h0 s st k) :
    ∃ v st', Rel c ρ [] [] st' (a.put o.dst v) w ∧ k st' ∧ st'.q = st.q ∧ YieldsIf P ops (fun w' => ∀ n, q n → w'.heap[n]? = W0.heap[n]?) o v a ∧ (pureS s = true → YieldsIf P ops (fun _ => True) o v a) := by
  rcases guard_out (f := takeI O h0) h hs (takeK_g hk) with ⟨i, st1, hw, hin, hr, hhp, hq, hf, hsi⟩ | ⟨st', hw, hr, hq, hf⟩
  · have fin : ∀ (d : Nat) (v : Value) (z : TV), o.dst = some d → d < c.N → TVR ρ z v → put st1 d z k → ∃ st', Rel c ρ [] [] st' (a.put o.dst v) w ∧ k st' ∧ st'.q = st.q := fun d v z hd hn hz hp =>
      ⟨_, by rw [hd]; exact hr.put hn hz, put_out hp, hq⟩
    cases hp : pureI i with
    | true =>
      have hf' : insK [] i st1 k := by
        cases i <;> first
          | (cases hp; done)
          | exact hf
      obtain ⟨d, v, z, hd, hn, hz, hput, hrun⟩ := pure_out hr.hr hr.ev hin hp hf'
      obtain ⟨st', g1, g2, g3⟩ := fin d v z hd hn hz hput
      exact ⟨v, st', g1, g2, g3, .inl ⟨hw, fun w' _ => hrun w'⟩, fun _ => .inl ⟨hw, fun w' _ => hrun w'⟩⟩
    | false =>
      cases i <;> first
        | (cases hp; done)
        | (exact hf.elim)
        | skip
      · rename_i d agg sz x
        obtain ⟨v, z, hd, hn, hz, hput, hrun⟩ := take_load hh h' hq0 hle hr.ev hin hf
        obtain ⟨st', g1, g2, g3⟩ := fin d v z hd hn hz hput
        refine ⟨v, st', g1, g2, g3, .inl ⟨hw, fun w' hw' => hrun w' hw'⟩, fun hps => ?_⟩
        cases s <;> (dsimp only at hsi; subst hsi; cases hps)
      · rename_i d x
        obtain ⟨v, z, hd, hn, hz, hput, hrun⟩ := take_b2s hh h' hq0 hle hr.ev hin hf
        obtain ⟨st', g1, g2, g3⟩ := fin d v z hd hn hz hput
        refine ⟨v, st', g1, g2, g3, .inl ⟨hw, fun w' hw' => hrun w' hw'⟩, fun hps => ?_⟩
        cases s <;> (dsimp only at hsi; subst hsi; cases hps)
  · exact ⟨undef, st', hr, hf, hq, .inr ⟨hw, rfl⟩, fun _ => .inr ⟨hw, rfl⟩⟩
end
end Go.Pi
