/- Rows of slices: their length, their elements' addresses, their rests. No conditions. -/
import Derived.Test.YtgpchgakonpcfaaGreatDoorPiPure3
namespace Go.Pi
set_option linter.unusedVariables false
set_option linter.unusedSimpArgs false
set_option linter.constructorNameAsVariable false
section
variable {P : Program} {N : Nat} {o : Oper} {a : Act} {E : List Fun} {c : Ctx P} {ρ : Map} {Z Y : List Nat} {st : St} {w : World} {k : St → Prop}

theorem rowsV {x : Arg} {y : Operand} {f : TV → Prop} (hev : Ev ρ st a) (hx : argOk x y = true) {b g n : Nat} (he : st.ev x = .rows b g n) : ∃ l c, ρ b = some l ∧ a.eval y = .slice (some ⟨l.blk, l.off + g, none⟩) n c ∧ n ≤ c := by
  have := hev x y hx
  rw [he] at this
  exact this
theorem yld_lenr {d : Nat} {x : Arg} (hev : Ev ρ st a) (hi : inOk P N o (.lenr d x) = true) (hk : insK E (.lenr d x) st k) : Yld P N o a ρ st k := by
  simp only [inOk, Bool.and_eq_true] at hi
  obtain ⟨h1, h2⟩ := hi
  obtain ⟨hd, hn⟩ := dOk_out h1
  split at h2
  · rename_i cl hop
    simp only [Bool.and_eq_true] at h2
    obtain ⟨⟨hb, ha⟩, ht⟩ := h2
    cases hl : cl.args.toList with
    | nil => rw [hl] at ha; cases ha
    | cons x' l =>
      cases l with
      | cons _ _ => rw [hl] at ha; simp [argsOk] at ha
      | nil =>
        rw [hl] at ha
        simp only [argsOk, Bool.and_true] at ha
        have hargs : cl.args = #[x'] := by
          apply Array.toList_inj.1; simpa using hl
        split at hb
        · rename_i hcal
          split at ht
          · rename_i t ht'
            split at ht
            · rename_i e he
              have hk0 : (match st.ev x with | .rows _ _ n => putC st d (.int .i64 (n : Int)) k | _ => False) := hk
              split at hk0
              · rename_i b g n hx
                obtain ⟨l', c', hl', hv, _⟩ := rowsV (f := fun _ => True) hev ha hx
                exact ⟨d, goInt n, .v (.c (.int .i64 (n : Int))), hd, hn, rfl, hk0, fun w' => by simp [execOp, hop, resolve, hcal, hargs, invoke, builtin, Builtin.len_, hv, ht', run_underlying he]⟩
              · exact hk0.elim
            · cases ht
          · cases ht
        · cases hb
  · cases h2
theorem yld_iar {d : Nat} {x i : Arg} (hev : Ev ρ st a) (hi : inOk P N o (.iar d x i) = true) (hk : insK E (.iar d x i) st k) : Yld P N o a ρ st k := by
  simp only [inOk, Bool.and_eq_true] at hi
  obtain ⟨h1, h2⟩ := hi
  obtain ⟨hd, hn⟩ := dOk_out h1
  split at h2
  · rename_i t y j hop
    simp only [Bool.and_eq_true] at h2
    obtain ⟨⟨hx, hj⟩, ht⟩ := h2
    split at ht
    · rename_i e hu
      obtain ⟨inf, hinf, hsz⟩ := szOk_out ht
      have hk0 : (match st.ev x with | .rows b f n => asC (st.ev i) fun i => (match i with | .int _ z => chk (0 ≤ z ∧ z < (n : Int)) (putC st d (.ptr b (f + z.toNat)) k) | _ => False) | _ => False) := hk
      split at hk0
      · rename_i b g n hxx
        obtain ⟨l', c', hl', hv, hc'⟩ := rowsV (f := fun _ => True) hev hx hxx
        obtain ⟨q, hq, hk2⟩ := asC_ev hev hj hk0
        split at hk2
        · rename_i kq z
          obtain ⟨hb, hk3⟩ := chk_o hk2
          have hjv : a.eval j = .int kq z := hq
          have hel : P.elem t = e := by simp [Program.elem, hu]
          refine ⟨d, .pointer (some ⟨l'.blk, l'.off + (g + z.toNat), none⟩), .v (.c (.ptr b (g + z.toNat))), hd, hn, ⟨l', hl', rfl⟩, hk3, fun w' => ?_⟩
          have hs : (sizeOf e).run P w' = .ok 1 w' := by simp [sizeOf, run_typeInfo w' hinf, hsz]
          have := run_indexAt_slice (P := P) w' t ⟨l'.blk, l'.off + g, none⟩ n c' kq z (by rw [hel]; exact hu)
          rw [if_pos hb, hel, hs] at this
          simp only [Result.andThen_ok, Addr.add_mid, Nat.mul_one] at this
          simp [execOp, hop, hv, hjv, this, Nat.add_assoc]
        · exact hk2.elim
      · exact hk0.elim
    · cases ht
  · cases h2
theorem yld_slr {d : Nat} {x i : Arg} (hev : Ev ρ st a) (hi : inOk P N o (.slr d x i) = true) (hk : insK E (.slr d x i) st k) : Yld P N o a ρ st k := by
  simp only [inOk, Bool.and_eq_true] at hi
  obtain ⟨h1, h2⟩ := hi
  obtain ⟨hd, hn⟩ := dOk_out h1
  split at h2
  · rename_i t y lo hi2 mx hop
    simp only [Bool.and_eq_true] at h2
    obtain ⟨⟨⟨⟨hx, hlo⟩, hhi⟩, hmx⟩, ht⟩ := h2
    cases mx with
    | some _ => cases hmx
    | none =>
    cases hi2 with
    | some _ => cases hhi
    | none =>
    cases lo with
    | none => cases hlo
    | some j =>
    split at ht
    · rename_i e hu
      obtain ⟨inf, hinf, hsz⟩ := szOk_out ht
      have hk0 : (match st.ev x with | .rows b f n => asC (st.ev i) fun i => (match i with | .int _ z => chk (0 ≤ z ∧ z < (n : Int)) (put st d (.rows b (f + z.toNat) (n - z.toNat)) k) | _ => False) | _ => False) := hk
      split at hk0
      · rename_i b g n hxx
        obtain ⟨l', c', hl', hv, hc'⟩ := rowsV (f := fun _ => True) hev hx hxx
        obtain ⟨q, hq, hk2⟩ := asC_ev hev hlo hk0
        split at hk2
        · rename_i kq z
          obtain ⟨hb, hk3⟩ := chk_o hk2
          have hjv : a.eval j = .int kq z := hq
          obtain ⟨m, rfl⟩ : ∃ m : Nat, z = m := ⟨z.toNat, by omega⟩
          refine ⟨d, .slice (some ⟨l'.blk, l'.off + (g + m), none⟩) (n - m) (c' - m), .rows b (g + m) (n - m), hd, hn, ⟨l', c' - m, hl', rfl, by omega⟩, hk3, fun w' => ?_⟩
          have hs : (sizeOf e).run P w' = .ok 1 w' := by simp [sizeOf, run_typeInfo w' hinf, hsz]
          have hrun := run_bounds (P := P) w' n c' m n (some (.int kq (m : Int))) none (.inr ⟨kq, rfl⟩) (.inl ⟨rfl, rfl⟩) (by omega) hc'
          have hne : ¬ (c' = m) := by omega
          simp [execOp, hop, hv, hjv, Instr.sliceAt, Instr.slice, run_underlying hu, hrun, hs, hne, Addr.add_mid, Nat.add_assoc]
        · exact hk2.elim
      · exact hk0.elim
    · cases ht
  · cases h2
end
end Go.Pi
