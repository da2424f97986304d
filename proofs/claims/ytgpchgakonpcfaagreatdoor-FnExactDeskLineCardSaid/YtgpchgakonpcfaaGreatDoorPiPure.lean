/- Pure instructions: what PI says is what the operation yields, in whatever world. No conditions. -/
import Derived.Test.YtgpchgakonpcfaaGreatDoorPiChk
namespace Go.Pi
set_option linter.unusedVariables false
set_option linter.unusedSimpArgs false
set_option linter.constructorNameAsVariable false

section
variable {P : Program} {N : Nat} {o : Oper} {a : Act} {E : List Fun} {c : Ctx P} {ρ : Map} {Z Y : List Nat} {st : St} {w : World} {k : St → Prop}

def Yld (P : Program) (N : Nat) (o : Oper) (a : Act) (ρ : Map) (st : St) (k : St → Prop) : Prop :=
  ∃ d v x, o.dst = some d ∧ d < N ∧ TVR ρ x v ∧ put st d x k ∧ ∀ w' : World, (execOp a.eval o).run P w' = .ok (.value v) w'

theorem cellR_int {ρ : Map} {k : IntKind} {n : Int} {v : Value} (h : CellR ρ (.int k n) v) : v = .int k n := h
theorem condK_out {x : TV} {v : Value} {t f : Prop} (hv : TVR ρ x v) (h : condK x t f) : ∃ b : Bool, v = .bool b ∧ (if b then t else f) := by
  unfold condK at h
  split at h
  · exact ⟨true, hv, h⟩
  · exact ⟨false, hv, h⟩
  · rename_i b
    refine ⟨b, hv, ?_⟩
    obtain ⟨h1, h2⟩ := sel_o h
    cases b with
    | true => exact h1 rfl
    | false => exact h2 rfl
  · exact h.elim

theorem yld_mv {d : Nat} {x : Arg} (hev : Ev ρ st a) (hi : inOk P N o (.mv d x) = true) (hk : insK E (.mv d x) st k) : Yld P N o a ρ st k := by
  simp only [inOk, Bool.and_eq_true] at hi
  obtain ⟨h1, h2⟩ := hi
  obtain ⟨hd, hn⟩ := dOk_out h1
  have hput : put st d (st.ev x) k := by
    simp only [insK] at hk
    cases he : st.ev x <;> rw [he] at hk <;> exact hk
  split at h2
  · rename_i y hop; exact ⟨d, _, _, hd, hn, hev x y h2, hput, fun w' => by simp [execOp, hop]⟩
  · rename_i y hop; exact ⟨d, _, _, hd, hn, hev x y h2, hput, fun w' => by simp [execOp, hop]⟩
  · cases h2

theorem yld_pick {d : Nat} {x y z : Arg} (hev : Ev ρ st a) (hi : inOk P N o (.pick d x y z) = true) (hk : insK E (.pick d x y z) st k) : Yld P N o a ρ st k := by
  simp only [inOk, Bool.and_eq_true] at hi
  obtain ⟨h1, h2⟩ := hi
  obtain ⟨hd, hn⟩ := dOk_out h1
  split at h2
  · rename_i x' y' z' hop
    simp only [Bool.and_eq_true] at h2
    obtain ⟨b, hb, hc⟩ := condK_out (hev _ _ h2.1.1) hk
    cases b with
    | true =>
      obtain ⟨v, he, hp⟩ := asV_out hc
      exact ⟨d, _, _, hd, hn, (by have := hev _ _ h2.1.2; rw [he] at this; exact this), hp, fun w' => by simp [execOp, hop, hb, asBool]⟩
    | false =>
      obtain ⟨v, he, hp⟩ := asV_out hc
      exact ⟨d, _, _, hd, hn, (by have := hev _ _ h2.2; rw [he] at this; exact this), hp, fun w' => by simp [execOp, hop, hb, asBool]⟩
  · cases h2

theorem asC_ev {x : Arg} {y : Operand} {f : Cell → Prop} (hev : Ev ρ st a) (ha : argOk x y = true) (h : asC (st.ev x) f) : ∃ z, CellR ρ z (a.eval y) ∧ f z := by
  obtain ⟨z, he, hf⟩ := asC_out h
  have := hev x y ha
  rw [he] at this
  exact ⟨z, this, hf⟩
theorem asV_ev {x : Arg} {y : Operand} {f : V1 → Prop} (hev : Ev ρ st a) (ha : argOk x y = true) (h : asV (st.ev x) f) : ∃ z, V1R ρ z (a.eval y) ∧ f z := by
  obtain ⟨z, he, hf⟩ := asV_out h
  have := hev x y ha
  rw [he] at this
  exact ⟨z, this, hf⟩

theorem eqGuard_int (op : BinOp) (t : TypeId) (x y : Operand) (j l : IntKind) (n m : Int) (w : World) : (eqGuard op t x y (.int j n) (.int l m)).run P w = .ok () w := by
  cases op <;> rfl

theorem yld_bin {d : Nat} {op : BinOp} {x y : Arg} (hev : Ev ρ st a) (hi : inOk P N o (.bin d op x y) = true) (hk : insK E (.bin d op x y) st k) : Yld P N o a ρ st k := by
  simp only [inOk, Bool.and_eq_true] at hi
  obtain ⟨h1, h2⟩ := hi
  obtain ⟨hd, hn⟩ := dOk_out h1
  split at h2
  · rename_i op' t x' y' u hop
    simp only [Bool.and_eq_true, decide_eq_true_eq] at h2
    obtain ⟨⟨rfl, hx⟩, hy⟩ := h2
    obtain ⟨p, hp, hk1⟩ := asC_ev hev hx hk
    obtain ⟨q, hq, hk2⟩ := asC_ev hev hy hk1
    have key : ∃ z v, putC st d z k ∧ CellR ρ z v ∧ ∀ w', (binOp op t (a.eval x') (a.eval y')).run P w' = .ok v w' := by
      unfold binK at hk2
      split at hk2
      · rename_i kx n ky m
        rw [cellR_int hp, cellR_int hq]
        split at hk2
        · obtain ⟨h0, hk3⟩ := chk_o hk2
          exact ⟨_, _, hk3, rfl, fun w' => by simp [binOp, Op.shift, Int.not_lt.2 h0]⟩
        · obtain ⟨h0, hk3⟩ := chk_o hk2
          exact ⟨_, _, hk3, rfl, fun w' => by simp [binOp, Op.shift, Int.not_lt.2 h0]⟩
        · split at hk2
          · exact hk2.elim
          · rename_i hkk
            have hkk := ikEq_eq hkk
            subst hkk
            split at hk2
            · exact ⟨_, _, hk2, rfl, fun w' => by simp [binOp, Op.intArith]⟩
            · exact ⟨_, _, hk2, rfl, fun w' => by simp [binOp, Op.intArith]⟩
            · exact ⟨_, _, hk2, rfl, fun w' => by simp [binOp, Op.intArith]⟩
            · obtain ⟨h0, hk3⟩ := chk_o hk2
              exact ⟨_, _, hk3, rfl, fun w' => by simp [binOp, Op.intDiv, h0]⟩
            · obtain ⟨h0, hk3⟩ := chk_o hk2
              exact ⟨_, _, hk3, rfl, fun w' => by simp [binOp, Op.intDiv, h0]⟩
            · exact ⟨_, _, hk2, rfl, fun w' => by simp [binOp, Op.intBits]⟩
            · exact ⟨_, _, hk2, rfl, fun w' => by simp [binOp, Op.intBits]⟩
            · exact ⟨_, _, hk2, rfl, fun w' => by simp [binOp, Op.intBits]⟩
            · exact ⟨_, _, hk2, rfl, fun w' => by simp [binOp, Op.intBits]⟩
            · exact ⟨_, _, hk2, rfl, fun w' => by simp [binOp, Op.intCmp]⟩
            · exact ⟨_, _, hk2, rfl, fun w' => by simp [binOp, Op.intCmp]⟩
            · exact ⟨_, _, hk2, rfl, fun w' => by simp [binOp, Op.intCmp]⟩
            · exact ⟨_, _, hk2, rfl, fun w' => by simp [binOp, Op.intCmp]⟩
            · exact ⟨_, _, hk2, rfl, fun w' => by simp [binOp, Op.intCmp]⟩
            · exact ⟨_, _, hk2, rfl, fun w' => by simp [binOp, Op.intCmp]⟩
            · exact hk2.elim
      · exact hk2.elim
    have hg : ∀ w', (eqGuard op t x' y' (a.eval x') (a.eval y')).run P w' = .ok () w' := fun w' => by
      unfold binK at hk2
      split at hk2
      · rw [cellR_int hp, cellR_int hq]; exact eqGuard_int _ _ _ _ _ _ _ _ _
      · exact hk2.elim
    obtain ⟨z, v, h3, h4, h5⟩ := key
    exact ⟨d, v, .v (.c z), hd, hn, h4, h3, fun w' => by simp [execOp, hop, hg, h5]⟩
  · cases h2

theorem yld_cat {d : Nat} {x y : Arg} (hev : Ev ρ st a) (hi : inOk P N o (.cat d x y) = true) (hk : insK E (.cat d x y) st k) : Yld P N o a ρ st k := by
  simp only [inOk, Bool.and_eq_true] at hi
  obtain ⟨h1, h2⟩ := hi
  obtain ⟨hd, hn⟩ := dOk_out h1
  split at h2
  · rename_i op t x' y' u hop
    simp only [Bool.and_eq_true, decide_eq_true_eq] at h2
    obtain ⟨⟨rfl, hx⟩, hy⟩ := h2
    obtain ⟨p, hp, hk1⟩ := asC_ev hev hx hk
    obtain ⟨q, hq, hk2⟩ := asC_ev hev hy hk1
    split at hk2
    · rename_i s
      split at hk2
      · rename_i s2
        obtain ⟨hl, hk3⟩ := chk_o hk2
        have e1 : a.eval x' = .string s := hp
        have e2 : a.eval y' = .string s2 := hq
        refine ⟨d, .string (s ++ s2), .v (.c (.str (s ++ s2))), hd, hn, rfl, hk3, fun w' => ?_⟩
        have hle : ¬ (((s.size + s2.size : Nat) : Int) > IntKind.i64.max) := by
          have : IntKind.i64.max = 9223372036854775807 := rfl
          omega
        simp only [execOp, hop, e1, e2]
        simp [eqGuard, binOp, Op.stringOp, hle]
        omega
      · exact hk2.elim
    · exact hk2.elim
  · cases h2

theorem yld_nchk {d : Nat} {x : Arg} (hev : Ev ρ st a) (hi : inOk P N o (.nchk d x) = true) (hk : insK E (.nchk d x) st k) : Yld P N o a ρ st k := by
  simp only [inOk, Bool.and_eq_true] at hi
  obtain ⟨h1, h2⟩ := hi
  obtain ⟨hd, hn⟩ := dOk_out h1
  split at h2
  · rename_i y hop
    obtain ⟨p, hp, hk1⟩ := asC_ev hev h2 hk
    split at hk1
    · rename_i b cc
      have hp' := hp
      obtain ⟨l, hl, hv⟩ := hp'
      exact ⟨d, _, .v (.c (.ptr b cc)), hd, hn, hp, hk1, fun w' => by simp [execOp, hop, hv]⟩
    · rename_i τ b i cc
      have hp' := hp
      obtain ⟨l, hl, hv⟩ := hp'
      exact ⟨d, _, .v (.c (.eptr τ b i cc)), hd, hn, hp, hk1, fun w' => by simp [execOp, hop, hv]⟩
    · exact hk1.elim
  · cases h2

theorem yld_bnot {d : Nat} {x : Arg} (hev : Ev ρ st a) (hi : inOk P N o (.bnot d x) = true) (hk : insK E (.bnot d x) st k) : Yld P N o a ρ st k := by
  simp only [inOk, Bool.and_eq_true] at hi
  obtain ⟨h1, h2⟩ := hi
  obtain ⟨hd, hn⟩ := dOk_out h1
  split at h2
  · rename_i op t y hop
    simp only [Bool.and_eq_true, decide_eq_true_eq] at h2
    obtain ⟨rfl, hx⟩ := h2
    obtain ⟨p, hp, hk1⟩ := asC_ev hev hx hk
    split at hk1
    · exact ⟨d, .bool false, .v (.c .ff), hd, hn, rfl, hk1, fun w' => by have : a.eval y = .bool true := hp; simp [execOp, hop, this, Op.unary]⟩
    · exact ⟨d, .bool true, .v (.c .tt), hd, hn, rfl, hk1, fun w' => by have : a.eval y = .bool false := hp; simp [execOp, hop, this, Op.unary]⟩
    · rename_i b; exact ⟨d, .bool !b, .v (.c (.bool !b)), hd, hn, rfl, hk1, fun w' => by have : a.eval y = .bool b := hp; simp [execOp, hop, this, Op.unary]⟩
    · exact hk1.elim
  · cases h2

theorem yld_conv {d : Nat} {j : IntKind} {x : Arg} (hev : Ev ρ st a) (hi : inOk P N o (.conv d j x) = true) (hk : insK E (.conv d j x) st k) : Yld P N o a ρ st k := by
  simp only [inOk, Bool.and_eq_true] at hi
  obtain ⟨h1, h2⟩ := hi
  obtain ⟨hd, hn⟩ := dOk_out h1
  split at h2
  · rename_i s t y hop
    simp only [Bool.and_eq_true] at h2
    obtain ⟨⟨hx, hs⟩, ht⟩ := h2
    obtain ⟨p, hp, hk1⟩ := asC_ev hev hx hk
    split at hk1
    · rename_i j' n
      split at hs
      · rename_i ds hds
        split at ht
        · rename_i k' ht'
          have := ikEq_eq ht
          subst this
          exact ⟨d, _, .v (.c (.int j (j.wrap n))), hd, hn, rfl, hk1, fun w' => by
            simp [execOp, hop, cellR_int hp, convert, run_underlying hds, run_underlying ht', Conv.intToInt]⟩
        · cases ht
      · cases hs
    · exact hk1.elim
  · cases h2

theorem strOk_out {t : TypeId} (h : (match P.underlying t with | some .string => true | _ => false) = true) : P.underlying t = some .string := by
  split at h
  · assumption
  · cases h
theorem run_equalIn_nili (w : World) (d : Nat) (t : TypeId) (ms : Array (String × TypeId)) (h : P.underlying t = some (.interface ms)) : (Op.equalIn (d + 1) t .nilIface .nilIface).run P w = .ok true w := by
  simp [Op.equalIn, run_underlying h]
theorem run_equalIn_ife (w : World) (d : Nat) (t te : TypeId) (p : Value) (ms : Array (String × TypeId)) (h : P.underlying t = some (.interface ms)) : (Op.equalIn (d + 1) t (.iface te p) .nilIface).run P w = .ok false w := by
  simp [Op.equalIn, run_underlying h]
theorem run_equal_nili (w : World) (t : TypeId) (ms : Array (String × TypeId)) (h : P.underlying t = some (.interface ms)) : (Op.equal t .nilIface .nilIface).run P w = .ok true w := run_equalIn_nili w 9999 t ms h
theorem run_equal_ife (w : World) (t te : TypeId) (p : Value) (ms : Array (String × TypeId)) (h : P.underlying t = some (.interface ms)) : (Op.equal t (.iface te p) .nilIface).run P w = .ok false w := run_equalIn_ife w 9999 t te p ms h
theorem yld_inil {d : Nat} {x : Arg} (hev : Ev ρ st a) (hi : inOk P N o (.inil d x) = true) (hk : insK E (.inil d x) st k) : Yld P N o a ρ st k := by
  simp only [inOk, Bool.and_eq_true] at hi
  obtain ⟨h1, h2⟩ := hi
  obtain ⟨hd, hn⟩ := dOk_out h1
  split at h2
  · rename_i op t y u hop
    simp only [Bool.and_eq_true, decide_eq_true_eq] at h2
    obtain ⟨⟨rfl, hx⟩, ht⟩ := h2
    split at ht
    · rename_i ms he
      obtain ⟨p, hp, hk1⟩ := asC_ev hev hx hk
      have hE : a.eval (.const .nilIface) = .nilIface := rfl
      split at hk1
      · have hp : a.eval y = .nilIface := hp
        exact ⟨d, _, .v (.c .ff), hd, hn, rfl, hk1, fun w' => by
          simp [execOp, hop, hp, hE, eqGuard, binOp, run_equal_nili w' t ms he]⟩
      · obtain ⟨te, pe, hp⟩ := hp
        exact ⟨d, _, .v (.c .tt), hd, hn, rfl, hk1, fun w' => by
          simp [execOp, hop, hp, hE, eqGuard, binOp, run_equal_ife w' t te pe ms he]⟩
      · exact hk1.elim
    · cases ht
  · cases h2
theorem yld_sidx {d : Nat} {x i : Arg} (hev : Ev ρ st a) (hi : inOk P N o (.sidx d x i) = true) (hk : insK E (.sidx d x i) st k) : Yld P N o a ρ st k := by
  simp only [inOk, Bool.and_eq_true] at hi
  obtain ⟨h1, h2⟩ := hi
  obtain ⟨hd, hn⟩ := dOk_out h1
  split at h2
  · rename_i t y j hop
    simp only [Bool.and_eq_true] at h2
    obtain ⟨⟨hx, hj⟩, ht⟩ := h2
    have ht := strOk_out ht
    obtain ⟨p, hp, hk1⟩ := asC_ev hev hx hk
    obtain ⟨q, hq, hk2⟩ := asC_ev hev hj hk1
    clear hk1
    split at hk2
    · rename_i s
      split at hk2
      · rename_i kd n
        have hp : a.eval y = .string s := hp
        have hq : a.eval j = .int kd n := hq
        obtain ⟨hb, hk2⟩ := chk_o hk2
        refine ⟨d, _, .v (.c (.int .u8 ((bytesI s).getD n.toNat 0))), hd, hn, rfl, hk2, fun w' => ?_⟩
        have hlt : n.toNat < s.size := by omega
        have hby : (bytesI s).getD n.toNat 0 = ((s[n.toNat]'hlt).toNat : Int) := by
          unfold bytesI
          rw [List.getD_eq_getElem?_getD, List.getElem?_map, Array.getElem?_toList, Array.getElem?_eq_getElem (show n.toNat < s.data.size from hlt)]
          rfl
        rw [hby]
        simp [execOp, hop, hp, hq, run_index_string w' t s kd n ht, hb]
      · exact hk2.elim
    · exact hk2.elim
  · cases h2
theorem yld_ssl {d : Nat} {x : Arg} {lo hi' : Option Arg} (hev : Ev ρ st a) (hi : inOk P N o (.ssl d x lo hi') = true) (hk : insK E (.ssl d x lo hi') st k) : Yld P N o a ρ st k := by
  simp only [inOk, Bool.and_eq_true] at hi
  obtain ⟨h1, h2⟩ := hi
  obtain ⟨hd, hn⟩ := dOk_out h1
  split at h2
  · rename_i t y lo' hi'' mx hop
    simp only [Bool.and_eq_true] at h2
    obtain ⟨⟨⟨⟨hx, hlo⟩, hhi⟩, hmx⟩, ht⟩ := h2
    have ht := strOk_out ht
    have hmx : mx = none := by cases mx <;> first | rfl | cases hmx
    subst hmx
    obtain ⟨p, hp, hk1⟩ := asC_ev hev hx hk
    split at hk1
    · rename_i s
      have hp : a.eval y = .string s := hp
      split at hk1
      · have hlo : lo' = none := by cases lo' <;> first | rfl | cases hlo
        subst hlo
        split at hk1
        · exact hk1.elim
        · rename_i g
          cases hi'' with
          | none => cases hhi
          | some g' =>
            have hhi : argOk g g' = true := hhi
            obtain ⟨q, hq, hk1⟩ := asC_ev hev hhi hk1
            split at hk1
            · rename_i kd m
              have hq : a.eval g' = .int kd m := hq
              obtain ⟨hb, hk1⟩ := chk_o hk1
              exact ⟨d, _, .v (.c (.str (s.extract 0 m.toNat))), hd, hn, rfl, hk1, fun w' => by
                simp [execOp, hop, hp, hq, Instr.sliceAt, run_underlying ht, run_slice_string_to_if w' t s kd m ht, hb]⟩
            · exact hk1.elim
      · rename_i g
        cases lo' with
        | none => cases hlo
        | some g' =>
          have hlo : argOk g g' = true := hlo
          obtain ⟨q, hq, hk2⟩ := asC_ev hev hlo hk1
          clear hk1
          split at hk2
          · rename_i kd n
            have hq : a.eval g' = .int kd n := hq
            split at hk2
            · have hhi : hi'' = none := by cases hi'' <;> first | rfl | cases hhi
              subst hhi
              obtain ⟨hb, hk3⟩ := chk_o hk2
              exact ⟨d, _, .v (.c (.str (s.extract n.toNat s.size))), hd, hn, rfl, hk3, fun w' => by
                simp [execOp, hop, hp, hq, Instr.sliceAt, run_underlying ht, run_slice_string_from_if w' t s kd n ht, hb]⟩
            · rename_i f
              cases hi'' with
              | none => cases hhi
              | some f' =>
                have hhi : argOk f f' = true := hhi
                obtain ⟨q2, hq2, hk3⟩ := asC_ev hev hhi hk2
                clear hk2
                split at hk3
                · rename_i kd2 m
                  have hq2 : a.eval f' = .int kd2 m := hq2
                  obtain ⟨hb, hk4⟩ := chk_o hk3
                  exact ⟨d, _, .v (.c (.str (s.extract n.toNat m.toNat))), hd, hn, rfl, hk4, fun w' => by
                    simp [execOp, hop, hp, hq, hq2, Instr.sliceAt, run_underlying ht, run_slice_string w' t s kd kd2 n m ht hb.1 hb.2.1 hb.2.2]⟩
                · exact hk3.elim
          · exact hk2.elim
    · exact hk1.elim
  · cases h2

theorem yld_isnil {d : Nat} {x : Arg} (hev : Ev ρ st a) (hi : inOk P N o (.isnil d x) = true) (hk : insK E (.isnil d x) st k) : Yld P N o a ρ st k := by
  simp only [inOk, Bool.and_eq_true] at hi
  obtain ⟨h1, h2⟩ := hi
  obtain ⟨hd, hn⟩ := dOk_out h1
  split at h2
  · rename_i op t y l cc u hop
    simp only [Bool.and_eq_true, decide_eq_true_eq] at h2
    obtain ⟨⟨⟨⟨rfl, hl⟩, hc⟩, hx⟩, ht⟩ := h2
    have hl := Nat.eq_of_beq_eq_true hl
    have hc := Nat.eq_of_beq_eq_true hc
    subst hl; subst hc
    split at ht
    · rename_i e he
      obtain ⟨p, hp, hk1⟩ := asC_ev hev hx hk
      have run : ∀ A n m, a.eval y = .slice A n m → ∀ w', (execOp a.eval o).run P w' = .ok (.value (.bool A.isNone)) w' := fun A n m hv w' => by
        have hE : a.eval (.const (.slice none 0 0)) = .slice none 0 0 := rfl
        simp [execOp, hop, hv, hE, eqGuard, binOp, run_equal_slice_nil w' t e A n m he]
      split at hk1
      · exact ⟨d, _, .v (.c .tt), hd, hn, rfl, hk1, run none 0 0 hp⟩
      · rename_i nn τ b
        split at hk1
        · obtain ⟨l, A, hl, hv, hle, h3, h4, h5⟩ := hp
          refine ⟨d, _, .v (.c .ff), hd, hn, ?_, hk1, run A _ _ hv⟩
          have := h5 rfl
          cases A with
          | none => exact absurd rfl this
          | some _ => rfl
        · exact hk1.elim
      · exact hk1.elim
    · cases ht
  · cases h2

theorem yld_fa {d : Nat} {x : Arg} {off : Nat} (hev : Ev ρ st a) (hi : inOk P N o (.fa d x off) = true) (hk : insK E (.fa d x off) st k) : Yld P N o a ρ st k := by
  simp only [inOk, Bool.and_eq_true] at hi
  obtain ⟨h1, h2⟩ := hi
  obtain ⟨hd, hn⟩ := dOk_out h1
  split at h2
  · rename_i s y f hop
    simp only [Bool.and_eq_true] at h2
    obtain ⟨hx, h3⟩ := h2
    split at h3
    · rename_i fd hfd
      simp only [Bool.and_eq_true] at h3
      obtain ⟨h4, h5⟩ := h3
      have h4 := Nat.eq_of_beq_eq_true h4
      subst h4
      split at h5
      · rename_i i hi
        have h5 := Nat.le_of_ble_eq_true h5
        unfold fieldOf at hfd
        split at hfd
        · rename_i fs hfs
          obtain ⟨p, hp, hk1⟩ := asC_ev hev hx hk
          have run : ∀ b n, a.eval y = .pointer (some ⟨b, n, none⟩) → ∀ w', (execOp a.eval o).run P w' = .ok (.value (.pointer (some ⟨b, n + fd.offset, none⟩))) w' := fun b n hv w' => by
            have hs : (sizeOf fd.type).run P w' = .ok i.size w' := by simp [sizeOf, run_typeInfo w' hi]
            have h0 : i.size ≠ 0 := by omega
            have hadd : (⟨b, n, none⟩ : Addr).add fd.offset = ⟨b, n + fd.offset, none⟩ := Addr.add_mid b n fd.offset
            simp [execOp, hop, hv, Instr.fieldAt, run_underlying hfs, hfd, Instr.sureAddr, fieldPlace, hs, h0, hadd]
          unfold faK at hk1
          split at hk1
          · rename_i b cc
            obtain ⟨l, hl, hv⟩ := hp
            exact ⟨d, _, .v (.c (.ptr b (cc + fd.offset))), hd, hn, ⟨l, hl, by rw [Nat.add_assoc]⟩, hk1, run _ _ hv⟩
          · rename_i τ b i cc
            obtain ⟨l, hl, hv⟩ := hp
            exact ⟨d, _, .v (.c (.eptr τ b i (cc + fd.offset))), hd, hn, ⟨l, hl, by rw [Nat.add_assoc]⟩, hk1, run _ _ hv⟩
          · rename_i τ b i j cc
            obtain ⟨l, q, hl, hq, hv⟩ := hp
            exact ⟨d, _, .v (.c (.rel τ b i j (cc + fd.offset))), hd, hn, ⟨l, q, hl, hq, by rw [Nat.add_assoc]⟩, hk1, run _ _ hv⟩
          · exact hk1.elim
        · cases hfd
      · cases h5
    · cases h3
  · cases h2

theorem yld_ext {d : Nat} {x : Arg} {i : Nat} (hev : Ev ρ st a) (hi : inOk P N o (.ext d x i) = true) (hk : insK E (.ext d x i) st k) : Yld P N o a ρ st k := by
  simp only [inOk, Bool.and_eq_true] at hi
  obtain ⟨h1, h2⟩ := hi
  obtain ⟨hd, hn⟩ := dOk_out h1
  split at h2
  · rename_i y j hop
    simp only [Bool.and_eq_true] at h2
    obtain ⟨hx, h3⟩ := h2
    have h3 := Nat.eq_of_beq_eq_true h3
    subst h3
    have he := hev _ _ hx
    simp only [insK] at hk
    split at hk
    · rename_i vs hvs
      rw [hvs] at he
      obtain ⟨us, hu, hr⟩ := he
      have nth : ∀ {vs : List V1} {us : List Value} {i : Nat} {f : V1 → Prop}, V1sR ρ vs us → nthV vs i f → ∃ v u, f v ∧ us[i]? = some u ∧ V1R ρ v u := by
        intro vs
        induction vs with
        | nil => intro us i f _ h; cases i <;> exact h.elim
        | cons v vs ih =>
          intro us i f hr h
          obtain ⟨u, us, rfl, hr1, hr2⟩ := All2.cons_left hr
          cases i with
          | zero => exact ⟨v, u, h, rfl, hr1⟩
          | succ i => obtain ⟨v', u', h1, h2, h3⟩ := ih hr2 h; exact ⟨v', u', h1, by simpa using h2, h3⟩
      obtain ⟨v, u, h4, h5, h6⟩ := nth hr hk
      exact ⟨d, u, .v v, hd, hn, h6, h4, fun w' => by simp [execOp, hop, hu, Instr.extract, h5]⟩
    · exact hk.elim
  · cases h2

theorem yld_mkf {d f : Nat} {cs : List Arg} (hev : Ev ρ st a) (hi : inOk P N o (.mkf d f cs) = true) (hk : insK E (.mkf d f cs) st k) : Yld P N o a ρ st k := by
  simp only [inOk, Bool.and_eq_true] at hi
  obtain ⟨h1, h2⟩ := hi
  obtain ⟨hd, hn⟩ := dOk_out h1
  split at h2
  · rename_i fn first cps hop
    simp only [Bool.and_eq_true] at h2
    obtain ⟨⟨h3, h4⟩, h5⟩ := h2
    split at h3
    · rename_i g
      have h3 := Nat.eq_of_beq_eq_true h3
      subst h3
      have h4 : first = #[] := Array.eq_empty_of_size_eq_zero (Nat.eq_of_beq_eq_true h4)
      subst h4
      obtain ⟨vs, hk1, hr⟩ := evs_out hev h5 hk
      have cap : ∀ {vs : List TV} {us : List Value} {f : List V1 → Prop}, TVsR ρ vs us → caps vs f → ∃ xs, f xs ∧ V1sR ρ xs us := by
        intro vs
        induction vs with
        | nil => intro us f hr h; cases All2.nil_left hr; exact ⟨[], h, trivial⟩
        | cons v vs ih =>
          intro us f hr h
          obtain ⟨u, us, rfl, hr1, hr2⟩ := All2.cons_left hr
          obtain ⟨x, hx, h⟩ := asV_out h
          subst hx
          obtain ⟨xs, h, hr3⟩ := ih hr2 h
          exact ⟨x :: xs, h, hr1, hr3⟩
      obtain ⟨xs, hk2, hr2⟩ := cap hr hk1
      exact ⟨d, .func (.func f) #[] (cps.map a.eval), .fn f xs, hd, hn, ⟨_, by rw [← Array.toList_map, Array.toArray_toList], hr2⟩, hk2, fun w' => by simp [execOp, hop, Instr.makeFunc]⟩
    · cases h3
  · cases h2
end
end Go.Pi
