/- Pure instructions, second part. No conditions. -/
import Derived.Test.YtgpchgakonpcfaaGreatDoorPiPure
namespace Go.Pi
set_option linter.unusedVariables false
set_option linter.unusedSimpArgs false
set_option linter.constructorNameAsVariable false

section
variable {P : Program} {N : Nat} {o : Oper} {a : Act} {E : List Fun} {c : Ctx P} {ρ : Map} {Z Y : List Nat} {st : St} {w : World} {k : St → Prop}

theorem yld_fld {d off sz : Nat} {agg : Bool} {x : Arg} (hev : Ev ρ st a) (hi : inOk P N o (.fld d x off sz agg) = true) (hk : insK E (.fld d x off sz agg) st k) : Yld P N o a ρ st k := by
  simp only [inOk, Bool.and_eq_true] at hi
  obtain ⟨h1, h2⟩ := hi
  obtain ⟨hd, hn⟩ := dOk_out h1
  split at h2
  · rename_i t y f hop
    simp only [Bool.and_eq_true] at h2
    obtain ⟨hx, h3⟩ := h2
    split at h3
    · rename_i fd hfd
      simp only [Bool.and_eq_true, Bool.or_eq_true] at h3
      obtain ⟨⟨⟨h4, h5⟩, h6⟩, h7⟩ := h3
      have h4 := Nat.eq_of_beq_eq_true h4
      subst h4
      obtain ⟨i, hi, hsz⟩ := szOk_out h5
      unfold fieldOf at hfd
      split at hfd
      · rename_i fs hfs
        have he := hev _ _ hx
        simp only [insK] at hk
        split at hk
        · rename_i cs hcs
          rw [hcs] at he
          obtain ⟨vs, hv, hr⟩ := he
          obtain ⟨hlen, hk1⟩ := tk_out _ _ _ _ hk
          have hr1 := All2.take sz (All2.drop fd.offset hr)
          rcases mk1_out hk1 with ⟨rfl, hk2⟩ | ⟨rfl, cc, hcc, hk2⟩
          · refine ⟨d, _, .v (.g _), hd, hn, ⟨_, rfl, hr1⟩, hk2, fun w' => ?_⟩
            have hs : (sizeOf fd.type).run P w' = .ok sz w' := by simp [sizeOf, run_typeInfo w' hi, hsz]
            simp [execOp, hop, hv, Instr.field, run_underlying hfs, hfd, part, aggOk_out h6 w', hs, asAgg, List.extract_eq_take_drop]
          · have h7 : sz = 1 := by simpa using h7
            subst h7
            rw [hcc] at hr1
            obtain ⟨v, _, hvs, hcr, hnil⟩ := All2.cons_left hr1
            cases All2.nil_left hnil
            refine ⟨d, v, .v (.c cc), hd, hn, hcr, hk2, fun w' => ?_⟩
            have hget : vs[fd.offset]? = some v := by
              have := congrArg (fun l : List Value => l[0]?) hvs
              simpa using this
            simp [execOp, hop, hv, Instr.field, run_underlying hfs, hfd, part, aggOk_out h6 w', hget, asAgg]
        · exact hk.elim
      · cases hfd
    · cases h3
  · cases h2

theorem yld_mm {d : Nat} {mx : Bool} {x y : Arg} (hev : Ev ρ st a) (hi : inOk P N o (.mm d mx x y) = true) (hk : insK E (.mm d mx x y) st k) : Yld P N o a ρ st k := by
  simp only [inOk, Bool.and_eq_true] at hi
  obtain ⟨h1, h2⟩ := hi
  obtain ⟨hd, hn⟩ := dOk_out h1
  split at h2
  · rename_i cl hop
    simp only [Bool.and_eq_true] at h2
    obtain ⟨hb, ha⟩ := h2
    cases hl : cl.args.toList with
    | nil => rw [hl] at ha; cases ha
    | cons x' l =>
      cases l with
      | nil => rw [hl] at ha; simp [argsOk] at ha
      | cons y' l =>
        cases l with
        | cons _ _ => rw [hl] at ha; simp [argsOk] at ha
        | nil =>
          rw [hl] at ha
          simp only [argsOk, Bool.and_true, Bool.and_eq_true] at ha
          obtain ⟨p, hp, hk1⟩ := asC_ev hev ha.1 hk
          obtain ⟨q, hq, hk2⟩ := asC_ev hev ha.2 hk1
          have hargs : cl.args = #[x', y'] := by
            apply Array.toList_inj.1; simpa using hl
          split at hk2
          · rename_i kx n
            split at hk2
            · rename_i ky m
              split at hk2
              · have hx : a.eval x' = .int kx n := hp
                have hy : a.eval y' = .int ky m := hq
                split at hb
                · rename_i hcal
                  subst hb
                  refine ⟨d, _, .v (.c (.int kx (max n m))), hd, hn, rfl, hk2, fun w' => ?_⟩
                  have hm : max n m = if m > n then m else n := by
                    split <;> omega
                  simp [execOp, hop, resolve, hcal, hargs, invoke, builtin, Builtin.max_, hx, hy, Builtin.max2, hm]
                · rename_i hcal
                  have : mx = false := by simpa using hb
                  subst this
                  refine ⟨d, _, .v (.c (.int kx (min n m))), hd, hn, rfl, hk2, fun w' => ?_⟩
                  have hm : min n m = if m < n then m else n := by
                    split <;> omega
                  simp [execOp, hop, resolve, hcal, hargs, invoke, builtin, Builtin.min_, hx, hy, Builtin.min2, hm]
                · cases hb
              · exact hk2.elim
            · exact hk2.elim
          · exact hk2.elim
  · cases h2

theorem yld_len {d : Nat} {str : Bool} {x : Arg} (h : HR c ρ Z Y st w) (hev : Ev ρ st a) (hi : inOk P N o (.len d str x) = true) (hk : insK E (.len d str x) st k) : Yld P N o a ρ st k := by
  simp only [inOk, Bool.and_eq_true] at hi
  obtain ⟨h1, h2⟩ := hi
  obtain ⟨hd, hn⟩ := dOk_out h1
  split at h2
  · rename_i cl hop
    simp only [Bool.and_eq_true] at h2
    obtain ⟨⟨hb, ha⟩, ht⟩ := h2
    cases hl : cl.args.toList with
    | nil => rw [hl] at ha; cases ha
    | cons x' l =>
      cases l with
      | cons _ _ => rw [hl] at ha; simp [argsOk] at ha
      | nil =>
        rw [hl] at ha
        simp only [argsOk, Bool.and_true] at ha
        have hargs : cl.args = #[x'] := by
          apply Array.toList_inj.1; simpa using hl
        split at hb
        · rename_i hcal
          split at ht
          · rename_i t ht'
            obtain ⟨p, hp, hk1⟩ := asC_ev hev ha hk
            unfold lenK at hk1
            split at ht
            · rename_i e he
              have : str = false := by simpa using ht
              subst this
              have run : ∀ A n m, a.eval x' = .slice A n m → ∀ w', (execOp a.eval o).run P w' = .ok (.value (goInt n)) w' := fun A n m hv w' => by
                simp [execOp, hop, resolve, hcal, hargs, invoke, builtin, Builtin.len_, hv, ht', run_underlying he]
              dsimp only at hk1
              split at hk1
              · exact ⟨d, _, .v (.c (.int .i64 0)), hd, hn, rfl, hk1, run _ _ _ hp⟩
              · rename_i nn τ b
                split at hk1
                · rename_i rw' σ cap xs hg
                  obtain ⟨l, A, hlb, hv, _⟩ := hp
                  obtain ⟨l', hl', hB⟩ := h.bk b _ hg
                  rw [hlb] at hl'
                  cases hl'
                  exact ⟨d, _, .v (.c (.int .i64 (xs.length : Int))), hd, hn, rfl, hk1, (by have := run _ _ _ hv; rw [hB.1] at this; exact this)⟩
                · rename_i rw' σ xss hg
                  obtain ⟨l, A, hlb, hv, _⟩ := hp
                  obtain ⟨l', hl', hB⟩ := h.bk b _ hg
                  rw [hlb] at hl'
                  cases hl'
                  exact ⟨d, _, .v (.c (.int .i64 (xss.length : Int))), hd, hn, rfl, hk1, (by have := run _ _ _ hv; rw [hB.1] at this; exact this)⟩
                · exact hk1.elim
              · rename_i τ b i
                split at hk1
                · rename_i rw' σ xss hg
                  obtain ⟨l, q, hlb, hq, A, hv, _⟩ := hp
                  obtain ⟨l', hl', hB⟩ := h.bk b _ hg
                  rw [hlb] at hl'
                  cases hl'
                  have hrow := (all2_get (z := []) hB.2.2.2.1 hq).2.1
                  exact ⟨d, _, .v (.c (.int .i64 ((xss.getD i []).length : Int))), hd, hn, rfl, hk1, (by have := run _ _ _ hv; rw [hrow] at this; exact this)⟩
                · exact hk1.elim
              · rename_i nn τ b off len
                obtain ⟨l, A, hlb, hv, _⟩ := hp
                exact ⟨d, _, .v (.c (.int .i64 (len : Int))), hd, hn, rfl, hk1, run _ _ _ hv⟩
              · exact hk1.elim
            · rename_i he
              subst ht
              dsimp only at hk1
              split at hk1
              · rename_i s
                have hv : a.eval x' = .string s := hp
                exact ⟨d, _, .v (.c (.int .i64 (s.size : Int))), hd, hn, rfl, hk1, fun w' => by
                  simp [execOp, hop, resolve, hcal, hargs, invoke, builtin, Builtin.len_, hv, ht', run_underlying he, goInt]⟩
              · exact hk1.elim
            · cases ht
          · cases ht
        · cases hb
  · cases h2

theorem yld_ia {d : Nat} {τ : FT} {x i : Arg} (h : HR c ρ Z Y st w) (hev : Ev ρ st a) (hi : inOk P N o (.ia d τ x i) = true) (hk : insK E (.ia d τ x i) st k) : Yld P N o a ρ st k := by
  simp only [inOk, Bool.and_eq_true] at hi
  obtain ⟨h1, h2⟩ := hi
  obtain ⟨hd, hn⟩ := dOk_out h1
  split at h2
  · rename_i t y j hop
    simp only [Bool.and_eq_true] at h2
    obtain ⟨⟨hx, hj⟩, ht⟩ := h2
    obtain ⟨e, inf, hu, hinf, hsz⟩ := slOk_out ht
    obtain ⟨p, hp, hk1⟩ := asC_ev hev hx hk
    obtain ⟨q, hq, hk2⟩ := asC_ev hev hj hk1
    split at hk2
    · rename_i kq n
      have hjv : a.eval j = .int kq n := hq
      have hel : P.elem t = e := by simp [Program.elem, hu]
      have run : ∀ b f len cap, a.eval y = .slice (some ⟨b, f, none⟩) len cap → 0 ≤ n ∧ n < len → ∀ w', (execOp a.eval o).run P w' = .ok (.value (.pointer (some ⟨b, f + n.toNat * τ.sz, none⟩))) w' := fun b f len cap hv hb w' => by
        have hs : (sizeOf e).run P w' = .ok τ.sz w' := by simp [sizeOf, run_typeInfo w' hinf, hsz]
        have := run_indexAt_slice (P := P) w' t ⟨b, f, none⟩ len cap kq n (by rw [hel]; exact hu)
        rw [if_pos hb, hel, hs] at this
        simp only [Result.andThen_ok, Addr.add_mid] at this
        simp [execOp, hop, hv, hjv, this]
      unfold iaK at hk2
      split at hk2
      · rename_i nn σ b
        split at hk2
        · rename_i hft
          have hft := ftEq_eq hft
          subst hft
          split at hk2
          · rename_i rw' σ' cap xs hg
            obtain ⟨hb, hk3⟩ := chk_o hk2
            obtain ⟨l, A, hlb, hv, hle, hA0, hA1, _⟩ := hp
            obtain ⟨l', hl', hB⟩ := h.bk b _ hg
            rw [hlb] at hl'
            cases hl'
            have hbl : 0 ≤ n ∧ n < (l.len : Int) := by rw [hB.1]; exact hb
            rw [hA1 (by omega)] at hv
            exact ⟨d, _, .v (.c (.eptr σ b n.toNat 0)), hd, hn, ⟨l, hlb, rfl⟩, hk3, run _ _ _ _ hv hbl⟩
          · rename_i rw' σ' xss hg
            obtain ⟨hb, hk3⟩ := chk_o hk2
            obtain ⟨l, A, hlb, hv, hle, hA0, hA1, _⟩ := hp
            obtain ⟨l', hl', hB⟩ := h.bk b _ hg
            rw [hlb] at hl'
            cases hl'
            have hbl : 0 ≤ n ∧ n < (l.len : Int) := by rw [hB.1]; exact hb
            rw [hA1 (by omega)] at hv
            exact ⟨d, _, .v (.c (.eptr σ b n.toNat 0)), hd, hn, ⟨l, hlb, rfl⟩, hk3, run _ _ _ _ hv hbl⟩
          · exact hk2.elim
        · exact hk2.elim
      · rename_i σ b r
        split at hk2
        · rename_i hft
          have hft := ftEq_eq hft
          subst hft
          split at hk2
          · rename_i rw' σ' xss hg
            obtain ⟨hb, hk3⟩ := chk_o hk2
            obtain ⟨l, q, hlb, hq, A, hv, hle, hA0, hA1⟩ := hp
            obtain ⟨l', hl', hB⟩ := h.bk b _ hg
            rw [hlb] at hl'
            cases hl'
            have hrow := (all2_get (z := []) hB.2.2.2.1 hq).2.1
            have hbl : 0 ≤ n ∧ n < (q.len : Int) := by rw [hrow]; exact hb
            rw [hA1 (by omega)] at hv
            exact ⟨d, _, .v (.c (.rel σ b r n.toNat 0)), hd, hn, ⟨l, q, hlb, hq, rfl⟩, hk3, run _ _ _ _ hv hbl⟩
          · exact hk2.elim
        · exact hk2.elim
      · rename_i nn σ b off len
        split at hk2
        · rename_i hft
          have hft := ftEq_eq hft
          subst hft
          obtain ⟨hb, hk3⟩ := chk_o hk2
          obtain ⟨l, A, hlb, hv, hle, hle2, hA0, hA1, _⟩ := hp
          rw [hA1 (by omega)] at hv
          exact ⟨d, _, .v (.c (.eptr σ b (off + n.toNat) 0)), hd, hn, ⟨l, hlb, by rw [Nat.add_mul, ← Nat.add_assoc, Nat.add_zero]⟩, hk3, run _ _ _ _ hv hb⟩
        · exact hk2.elim
      · exact hk2.elim
    · exact hk2.elim
  · cases h2
end
end Go.Pi
