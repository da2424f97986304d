/- Comparing values of one cell and of many; all pure instructions together. No conditions. -/
import Derived.Test.YtgpchgakonpcfaaGreatDoorPiPure4
namespace Go.Pi
set_option linter.unusedVariables false
set_option linter.unusedSimpArgs false
set_option linter.constructorNameAsVariable false

def vEq : Value → Value → Bool
  | .int _ a, .int _ b => a == b
  | .bool a, .bool b => a == b
  | .string a, .string b => a == b
  | _, _ => false
def vsEq : List Value → List Value → Bool
  | [], [] => true
  | u :: us, v :: vs => vEq u v && vsEq us vs
  | _, _ => false
def Kind : EK → Value → Value → Prop
  | .i, u, v => ∃ k a b, u = .int k a ∧ v = .int k b
  | .b, u, v => ∃ a b, u = .bool a ∧ v = .bool b
  | .s, u, v => ∃ a b, u = .string a ∧ v = .string b
def Kinds : List EK → List Value → List Value → Prop
  | [], [], [] => True
  | e :: es, u :: us, v :: vs => Kind e u v ∧ Kinds es us vs
  | _, _, _ => False
theorem Kinds.length : ∀ {es : List EK} {us vs : List Value}, Kinds es us vs → us.length = es.length ∧ vs.length = es.length
  | [], [], [], _ => ⟨rfl, rfl⟩
  | _ :: _, _ :: _, _ :: _, ⟨_, h⟩ => by have := h.length; simp [this.1, this.2]
  | [], [], _ :: _, h => h.elim
  | [], _ :: _, _, h => h.elim
  | _ :: _, [], _, h => h.elim
  | _ :: _, _ :: _, [], h => h.elim
theorem Kinds.split : ∀ {s r : List EK} {us vs : List Value}, Kinds (s ++ r) us vs → Kinds s (us.take s.length) (vs.take s.length) ∧ Kinds r (us.drop s.length) (vs.drop s.length) ∧
    vsEq us vs = (vsEq (us.take s.length) (vs.take s.length) && vsEq (us.drop s.length) (vs.drop s.length))
  | [], r, us, vs, h => ⟨trivial, h, by simp [vsEq]⟩
  | e :: s, r, u :: us, v :: vs, ⟨h1, h2⟩ => by
    obtain ⟨g1, g2, g3⟩ := Kinds.split h2
    exact ⟨⟨h1, g1⟩, g2, by simp [vsEq, g3, Bool.and_assoc]⟩
  | _ :: _, _, [], _, h => h.elim
  | _ :: _, _, _ :: _, [], h => h.elim

theorem eqC_out {ρ : Map} {e : EK} {x y : Cell} {u v : Value} {k : Bool → Prop} (hx : CellR ρ x u) (hy : CellR ρ y v) (h : eqC e x y k) : k (vEq u v) ∧ Kind e u v := by
  cases e with
  | i =>
    simp only [eqC] at h
    split at h
    · split at h
      · rename_i j n l m hj
        have hj := ikEq_eq hj
        subst hj
        rw [cellR_int hx, cellR_int hy]; exact ⟨h, _, _, _, rfl, rfl⟩
      · exact h.elim
    · exact h.elim
  | b =>
    simp only [eqC] at h
    have hB : ∀ {c : Cell} {v : Value}, CellR ρ c v → (match c with | .tt => v = .bool true | .ff => v = .bool false | .bool b => v = .bool b | _ => True) := by
      intro c v h; cases c <;> first | exact h | trivial
    have h1 := hB hx
    have h2 := hB hy
    split at h <;> first
      | exact h.elim
      | (dsimp only at h1 h2; subst h1; subst h2; exact ⟨h, _, _, rfl, rfl⟩)
  | s =>
    simp only [eqC] at h
    split at h
    · rename_i a b
      have h1 : u = .string a := hx
      have h2 : v = .string b := hy
      subst h1; subst h2
      exact ⟨h, _, _, rfl, rfl⟩
    · exact h.elim
theorem eqL_out {ρ : Map} : ∀ {es : List EK} {xs ys : List Cell} {us vs : List Value} {k : Bool → Prop}, CellsR ρ xs us → CellsR ρ ys vs → eqL es xs ys k → k (vsEq us vs) ∧ Kinds es us vs
  | [], [], [], [], [], k, _, _, h => ⟨h, trivial⟩
  | e :: es, x :: xs, y :: ys, u :: us, v :: vs, k, ⟨hx, hxs⟩, ⟨hy, hys⟩, h => by
    simp only [eqL] at h
    obtain ⟨h1, h2⟩ := eqC_out hx hy h
    cases es with
    | nil =>
      dsimp only at h1
      split at h1
      · cases All2.nil_left hxs; cases All2.nil_left hys
        exact ⟨by simpa [vsEq] using h1, h2, trivial⟩
      · exact h1.elim
    | cons e' es =>
      obtain ⟨h3, h4⟩ := eqL_out hxs hys h1
      exact ⟨h3, h2, h4⟩
  | [], _ :: _, _, _, _, _, _, _, h => by simp [eqL] at h
  | [], [], _ :: _, _, _, _, _, _, h => by simp [eqL] at h
  | _ :: _, [], _, _, _, _, _, _, h => by simp [eqL] at h
  | _ :: _, _ :: _, [], _, _, _, _, _, h => by simp [eqL] at h
  | [], [], [], _ :: _, _, _, h, _, _ => h.elim
  | [], [], [], [], _ :: _, _, _, h, _ => h.elim
  | _ :: _, _ :: _, _ :: _, [], _, _, h, _, _ => h.elim
  | _ :: _, _ :: _, _ :: _, _ :: _, [], _, _, h, _ => h.elim

def Packs (P : Program) (t : Nat) (us : List Value) (x : Value) : Prop :=
  match P.underlying t with
  | some (.struct _) => x = .agg us.toArray
  | some (.array _ _) => False
  | some _ => us = [x]
  | none => False

def isG : V1 → Bool | .c _ => false | .g _ => true
theorem aggIs_out {agg : Bool} {x : V1} {k : Prop} (h : aggIs agg x k) : isG x = agg ∧ k := by
  unfold aggIs at h
  split at h
  · split at h
    · exact ⟨rfl, h⟩
    · exact h.elim
  · split at h
    · exact ⟨rfl, h⟩
    · exact h.elim
section
variable {P : Program}

theorem run_part (w : World) {t off n : Nat} {xs : List Value} (hs : szOk P t n = true) (hn : n = 1 ∨ ∃ fs, P.underlying t = some (.struct fs)) (hu : ∃ d, P.underlying t = some d ∧ ∀ n e, d ≠ .array n e) (hlen : off + n ≤ xs.length) :
    ∃ v, (part t xs.toArray off).run P w = .ok v w ∧ Packs P t ((xs.drop off).take n) v := by
  obtain ⟨i, hi, rfl⟩ := szOk_out hs
  have hsz : (sizeOf t).run P w = .ok i.size w := by simp [sizeOf, run_typeInfo w hi]
  obtain ⟨d, hd, hna⟩ := hu
  cases d with
  | struct fs =>
    refine ⟨.agg ((xs.drop off).take i.size).toArray, ?_, by simp [Packs, hd]⟩
    simp [part, isAgg, run_underlying hd, hsz, List.extract_eq_take_drop]
  | array n e => exact absurd rfl (hna n e)
  | _ =>
    rcases hn with hn | ⟨fs, hfs⟩
    · have hlt : off < xs.length := by omega
      refine ⟨xs[off], by simp [part, isAgg, run_underlying hd, hlt], ?_⟩
      simp only [Packs, hd, hn]
      rw [List.drop_eq_getElem_cons hlt]; rfl
    · rw [hd] at hfs; simp at hfs

theorem eqSh_kind {n t : Nat} {sh : List EK} (h : eqSh P n t = some sh) : (sh.length = 1 ∨ ∃ fs, P.underlying t = some (.struct fs)) ∧ ∃ d, P.underlying t = some d ∧ ∀ n e, d ≠ .array n e := by
  cases n with
  | zero => cases h
  | succ n =>
    simp only [eqSh] at h
    split at h
    · rename_i hu; cases h; exact ⟨.inl rfl, _, hu, by simp⟩
    · rename_i hu; cases h; exact ⟨.inl rfl, _, hu, by simp⟩
    · rename_i hu; cases h; exact ⟨.inl rfl, _, hu, by simp⟩
    · rename_i fs hu; exact ⟨.inr ⟨fs, hu⟩, _, hu, by simp⟩
    · cases h

theorem run_equal_sh : ∀ (n t : Nat) (sh : List EK), eqSh P n t = some sh → ∀ (d : Nat) (us vs : List Value) (x y : Value) (w : World), n ≤ d → Kinds sh us vs → Packs P t us x → Packs P t vs y →
    (Op.equalIn d t x y).run P w = .ok (vsEq us vs) w := by
  intro n
  induction n with
  | zero => intro t sh h; cases h
  | succ n ih =>
    intro t sh h d us vs x y w hd hk hx hy
    obtain ⟨d, rfl⟩ : ∃ e, d = e + 1 := ⟨d - 1, by omega⟩
    simp only [eqSh] at h
    split at h
    · rename_i kk hu
      cases h
      simp only [Packs, hu] at hx hy
      subst hx; subst hy
      obtain ⟨⟨k', a, b, rfl, rfl⟩, _⟩ := hk
      rw [run_equalIn_int w d t k' kk a b hu]; simp [vsEq, vEq]
    · rename_i hu
      cases h
      simp only [Packs, hu] at hx hy
      subst hx; subst hy
      obtain ⟨⟨a, b, rfl, rfl⟩, _⟩ := hk
      rw [run_equalIn_bool' w d t a b hu]; simp [vsEq, vEq]
    · rename_i hu
      cases h
      simp only [Packs, hu] at hx hy
      subst hx; subst hy
      obtain ⟨⟨a, b, rfl, rfl⟩, _⟩ := hk
      rw [run_equalIn_string w d t a b hu, ← beq_toListBytes]; simp [vsEq, vEq]
    · rename_i fs hu
      split at h
      · cases h
      · rename_i hsi
        simp only [Packs, hu] at hx hy
        subst hx; subst hy
        have hfo : P.fieldsOf t = fs := by simp [Program.fieldsOf, hu]
        rw [run_equalIn_agg w d t _ _ (by rw [hfo]; exact hu) hsi, hfo]
        have key : ∀ (l : List Field) (off : Nat) (r : List EK), off ≤ us.length → off ≤ vs.length → eqGo P (eqSh P n) l off = some r → Kinds r (us.drop off) (vs.drop off) →
            (Op.eqFields d us.toArray vs.toArray l).run P w = .ok (vsEq (us.drop off) (vs.drop off)) w := by
          intro l
          induction l with
          | nil =>
            intro off r ho1 ho2 hr hkk
            cases hr
            have := hkk.length
            simp at this
            rw [List.drop_eq_nil_of_le (by omega), List.drop_eq_nil_of_le (by omega)]; simp [Op.eqFields, vsEq]
          | cons f l ihl =>
            intro off r ho1 ho2 hr hkk
            simp only [eqGo] at hr
            split at hr
            · rename_i hcond
              simp only [Bool.and_eq_true] at hcond
              have hoff := Nat.eq_of_beq_eq_true hcond.1
              have hname : f.name ≠ "_" := by
                have := hcond.2
                simpa using this
              split at hr
              · rename_i s hs
                split at hr
                · rename_i hsz
                  split at hr
                  · rename_i r' hr'
                    cases hr
                    obtain ⟨k1, k2, k3⟩ := hkk.split
                    have hl1 := hkk.length
                    simp only [List.length_drop, List.length_append] at hl1
                    obtain ⟨a1, ha1, p1⟩ := run_part (P := P) w (xs := us) (off := off) hsz (eqSh_kind hs).1 (eqSh_kind hs).2 (by omega)
                    obtain ⟨a2, ha2, p2⟩ := run_part (P := P) w (xs := vs) (off := off) hsz (eqSh_kind hs).1 (eqSh_kind hs).2 (by omega)
                    have he := ih f.type s hs d _ _ a1 a2 w (by omega) k1 p1 p2
                    have hrest := ihl (off + s.length) r' (by omega) (by omega) hr' (by rw [← List.drop_drop, ← List.drop_drop]; exact k2)
                    rw [← List.drop_drop, ← List.drop_drop] at hrest
                    rw [k3]
                    simp only [Op.eqFields, hname, ne_eq, not_false_eq_true, if_true, Sem.run_bind, hoff, ha1, ha2, he, Result.andThen_ok]
                    cases hb : vsEq (List.take s.length (List.drop off us)) (List.take s.length (List.drop off vs)) with
                    | true => simp [hrest]
                    | false => simp
                  · cases hr
                · cases hr
              · cases hr
            · cases hr
        have := key fs.toList 0 sh (Nat.zero_le _) (Nat.zero_le _) h (by simpa using hk)
        simpa using this
    · cases h

variable {N : Nat} {o : Oper} {a : Act} {E : List Fun} {c : Ctx P} {ρ : Map} {Z Y : List Nat} {st : St} {w : World} {k : St → Prop}

theorem yld_eqs {d : Nat} {agg : Bool} {sh : List EK} {neg : Bool} {x y : Arg} (hev : Ev ρ st a) (hi : inOk P N o (.eqs d agg sh neg x y) = true) (hk : insK E (.eqs d agg sh neg x y) st k) : Yld P N o a ρ st k := by
  simp only [inOk, Bool.and_eq_true] at hi
  obtain ⟨h1, h2⟩ := hi
  obtain ⟨hd, hn⟩ := dOk_out h1
  split at h2
  · rename_i op t x' y' u hop
    simp only [Bool.and_eq_true] at h2
    obtain ⟨⟨⟨⟨hop', hsh⟩, hag⟩, hx⟩, hy⟩ := h2
    unfold eqOk at hsh
    simp only [Bool.and_eq_true, Bool.not_eq_true'] at hsh
    obtain ⟨hs0, hgd⟩ := hsh
    cases hs : eqSh P 8 t with
    | none => rw [hs] at hs0; cases hs0
    | some s =>
    rw [hs] at hs0
    have := eksEq_eq hs0
    subst this
    obtain ⟨p, hp, hk1⟩ := asV_ev hev hx hk
    obtain ⟨hpa, hk1⟩ := aggIs_out hk1
    have hk2 := cells1_out hk1
    obtain ⟨q, hq, hk3⟩ := asV_ev hev hy hk2
    obtain ⟨hqa, hk3⟩ := aggIs_out hk3
    have hk4 := cells1_out hk3
    obtain ⟨hk5, hkk⟩ := eqL_out hp.cells hq.cells hk4
    have pack : ∀ {p : V1} {v : Value}, V1R ρ p v → isG p = agg → Packs P t v.cells.toList v := fun {p v} hp hpa => by
      obtain ⟨d, hd, hna⟩ := (eqSh_kind hs).2
      unfold aggOk at hag
      rw [hd] at hag
      unfold Packs
      rw [hd]
      have hc : ∀ {b : Cell}, CellR ρ b v → v.cells = #[v] := fun {b} hb => by
        have h1 := CellR.one hb
        cases v <;> first | rfl | simp [Value.oneCell'] at h1
      cases d with
      | struct fs =>
        subst hag
        cases p with
        | c x => cases hpa
        | g cs => obtain ⟨vs, rfl, _⟩ := hp; simp [Value.cells]
      | array n e => exact absurd rfl (hna n e)
      | _ =>
        have hag : agg = false := by simpa using hag
        subst hag
        cases p with
        | c x => simp [hc hp]
        | g cs => cases hpa
    have hP1 := pack hp hpa
    have hP2 := pack hq hqa
    have heq : ∀ w', (Op.equal t (a.eval x') (a.eval y')).run P w' = .ok (vsEq (a.eval x').cells.toList (a.eval y').cells.toList) w' := fun w' =>
      run_equal_sh 8 t s hs 10000 _ _ _ _ w' (by omega) hkk hP1 hP2
    have shape : (∃ us vs, a.eval x' = .agg us ∧ a.eval y' = .agg vs) ∨ ∃ e, Kind e (a.eval x') (a.eval y') ∧ vsEq (a.eval x').cells.toList (a.eval y').cells.toList = vEq (a.eval x') (a.eval y') := by
      have hc : ∀ {b : Cell} {v : Value}, CellR ρ b v → v.cells = #[v] := fun {b v} hb => by
        have h1 := CellR.one hb
        cases v <;> first | rfl | simp [Value.oneCell'] at h1
      cases p with
      | g cs =>
        cases q with
        | g ds => obtain ⟨us, h1, _⟩ := hp; obtain ⟨vs, h2, _⟩ := hq; exact .inl ⟨_, _, h1, h2⟩
        | c _ => rw [← hqa] at hpa; cases hpa
      | c x =>
        cases q with
        | g ds => rw [← hqa] at hpa; cases hpa
        | c y =>
          have e1 := hc hp
          have e2 := hc hq
          rw [e1, e2] at hkk
          right
          cases s with
          | nil => exact hkk.elim
          | cons e s => exact ⟨e, hkk.1, by rw [e1, e2]; simp [vsEq]⟩
    have hgu : ∀ w', (eqGuard op t x' y' (a.eval x') (a.eval y')).run P w' = .ok () w' := fun w' => by
      rcases shape with ⟨us, vs, e1, e2⟩ | ⟨e, hkd, _⟩
      · rw [e1, e2]; exact run_eqGuard_agg w' op t x' y' us vs hgd
      · cases e <;> obtain ⟨_, _, hkd⟩ := hkd
        · obtain ⟨_, e1, e2⟩ := hkd; rw [e1, e2]; cases op <;> simp [eqGuard]
        · obtain ⟨e1, e2⟩ := hkd; rw [e1, e2]; cases op <;> simp [eqGuard]
        · obtain ⟨e1, e2⟩ := hkd; rw [e1, e2]; cases op <;> simp [eqGuard]
    have hbin : ∀ w', (binOp op t (a.eval x') (a.eval y')).run P w' = .ok (.bool (if neg = true then !(vsEq (a.eval x').cells.toList (a.eval y').cells.toList) else vsEq (a.eval x').cells.toList (a.eval y').cells.toList)) w' := fun w' => by
      have heq := heq w'
      rcases shape with ⟨us, vs, e1, e2⟩ | ⟨e, hkd, hvq⟩
      · rw [e1, e2] at heq ⊢
        split at hop'
        · have : neg = false := by simpa using hop'
          subst this
          simp [binOp, heq]
        · subst hop'
          simp [binOp, heq]
        · cases hop'
      · rw [hvq] at heq ⊢
        cases e <;> obtain ⟨_, _, hkd⟩ := hkd
        · obtain ⟨_, e1, e2⟩ := hkd
          rw [e1, e2] at heq ⊢
          split at hop'
          · have : neg = false := by simpa using hop'
            subst this
            simp [binOp, Op.intCmp, vEq]
          · subst hop'
            simp [binOp, Op.intCmp, vEq, bne]
          · cases hop'
        · obtain ⟨e1, e2⟩ := hkd
          rw [e1, e2] at heq ⊢
          split at hop'
          · have : neg = false := by simpa using hop'
            subst this
            simp [binOp, heq]
          · subst hop'
            simp [binOp, heq]
          · cases hop'
        · obtain ⟨e1, e2⟩ := hkd
          rw [e1, e2] at heq ⊢
          split at hop'
          · have : neg = false := by simpa using hop'
            subst this
            simp [binOp, Op.stringOp, vEq, beq_toListBytes]
          · subst hop'
            simp [binOp, Op.stringOp, vEq, beq_toListBytes]
          · cases hop'
    have fin : ∃ b : Bool, putC st d (.bool b) k ∧ b = (if neg = true then !(vsEq (a.eval x').cells.toList (a.eval y').cells.toList) else vsEq (a.eval x').cells.toList (a.eval y').cells.toList) := by
      cases neg with
      | true => exact ⟨_, hk5, rfl⟩
      | false => exact ⟨_, hk5, rfl⟩
    obtain ⟨b, hk6, hb⟩ := fin
    exact ⟨d, .bool b, .v (.c (.bool b)), hd, hn, rfl, hk6, fun w' => by simp only [execOp, hop, Sem.run_bind, hgu w', Result.andThen_ok, hbin w', Sem.run_pure, hb]⟩
  · cases h2

theorem pure_out {i : In} (h : HR c ρ Z Y st w) (hev : Ev ρ st a) (hi : inOk P N o i = true) (hp : pureI i = true) (hk : insK E i st k) : Yld P N o a ρ st k := by
  cases i with
  | mv d x => exact yld_mv hev hi hk
  | pick d x y z => exact yld_pick hev hi hk
  | build d z ps => exact yld_build hev hi hk
  | bin d op x y => exact yld_bin hev hi hk
  | eqs d agg sh neg x y => exact yld_eqs hev hi hk
  | isnil d x => exact yld_isnil hev hi hk
  | bnot d x => exact yld_bnot hev hi hk
  | inil d x => exact yld_inil hev hi hk
  | sidx d x i => exact yld_sidx hev hi hk
  | ssl d x lo hi' => exact yld_ssl hev hi hk
  | conv d kd x => exact yld_conv hev hi hk
  | fa d x off => exact yld_fa hev hi hk
  | fld d x off sz agg => exact yld_fld hev hi hk
  | ia d τ x j => exact yld_ia h hev hi hk
  | ext d x j => exact yld_ext hev hi hk
  | len d str x => exact yld_len h hev hi hk
  | slc d τ x lo hi' => exact yld_slc h hev hi hk
  | mkf d f cs => exact yld_mkf hev hi hk
  | mm d mx x y => exact yld_mm hev hi hk
  | cat d x y => exact yld_cat hev hi hk
  | nchk d x => exact yld_nchk hev hi hk
  | lenr d x => exact yld_lenr hev hi hk
  | iar d x j => exact yld_iar hev hi hk
  | slr d x j => exact yld_slr hev hi hk
  | _ => cases hp
end
end Go.Pi
