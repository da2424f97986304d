/- Contracts of functions, each out of its run by PI. No conditions. -/
import Derived.Test.YtbenlebnogedlaaPiFn
import Derived.KernelRfl
import Derived.ProofKit
import Derived.Test.YtbenlebnogedlaaRows
import Derived.Test.YtbenlebnogedlaaPiSort
import Derived.Test.YtbenlebnogedlaaShelf
namespace Go.Pi
open Go.Proofs
set_option linter.unusedVariables false
set_option linter.unusedSimpArgs false
set_option maxRecDepth 100000
attribute [local irreducible] iterN
theorem mixd : Try.prog.follows .mixedOrders = true := by kernel_rfl
theorem etaInst (x : Inst) : (⟨x.op, x.r, x.a, x.b, x.n⟩ : Inst) = x := rfl
theorem keyEq (a b : Key) : (a.base == b.base && (a.top == b.top && (a.perms == b.perms && a.sealed == b.sealed))) = decide (a = b) := by
  obtain ⟨a1, a2, a3, a4⟩ := a
  obtain ⟨b1, b2, b3, b4⟩ := b
  rw [Bool.eq_iff_iff]; simp


def inR (n lo hi : Int) : Bool := decide (lo ≤ n) && decide (n ≤ hi)

def pf_impl_in : PF := ⟨[.t 6], .seq (.reg [.s (.mv 6 (.k (.v (.c .ff))))]) (.seq (.reg [.s (.mv 7 (.t 0)), .s (.mv 8 (.t 1)), .s (.bin 9 .geq (.t 7) (.t 8)), .s (.mv 10 (.t 9)), .g 10 true (some 11) (.mv 11 (.t 0)), .g 10 true (some 12) (.mv 12 (.t 2)), .g 10 true (some 13) (.bin 13 .leq (.t 11) (.t 12)), .s (.pick 14 (.t 10) (.t 13) (.k (.v (.c .ff)))), .s (.mv 6 (.t 14))]) (.ret))⟩
def c_impl_in : Fun := ⟨30, [], fun ts K => as3 ts fun t0 t1 t2 => arC (pI .i64) t0 fun n => arC (pI .i64) t1 fun lo => arC (pI .i64) t2 fun hi => K (tB (inR n lo hi)) []⟩
theorem run_impl_in (n : Int) (lo : Int) (hi : Int) : runK [] (0) [] pf_impl_in [tI .i64 n, tI .i64 lo, tI .i64 hi] fun r o => r = tB (inR n lo hi) ∧ o = [] := by
  conv => whnf
  refine sel_i (fun h => ?_) (fun h => ?_) <;> conv => whnf
  all_goals (refine ⟨?_, rfl⟩; simp at h; simp [inR] <;> omega)
theorem ok_impl_in : FunOk Try.prog c_impl_in := funOk (E := []) (envOk_nil) mixd Try.func30 (pf := pf_impl_in) (by kernel_rfl) fun ts K h => by
  obtain ⟨t0, t1, t2, e0, h⟩ := as3_out h
  subst e0
  obtain ⟨n, e1, hq⟩ := arC_out (rd_int .i64) h
  clear h
  subst e1
  have h := hq
  clear hq
  obtain ⟨lo, e1, hq⟩ := arC_out (rd_int .i64) h
  clear h
  subst e1
  have h := hq
  clear hq
  obtain ⟨hi, e1, hq⟩ := arC_out (rd_int .i64) h
  clear h
  subst e1
  have h := hq
  clear hq
  exact ⟨_, _, h, Nat.le_of_ble_eq_true (show Nat.ble 3 Try.f30.ntmps = true by kernel_rfl), _, run_impl_in n lo hi⟩

def pf_spec_l1In : PF := ⟨[.t 6], .seq (.reg [.s (.mv 6 (.k (.v (.c .ff))))]) (.seq (.reg [.s (.mv 7 (.t 0)), .s (.mv 8 (.t 1)), .s (.bin 9 .geq (.t 7) (.t 8)), .s (.mv 10 (.t 9)), .g 10 true (some 11) (.mv 11 (.t 0)), .g 10 true (some 12) (.mv 12 (.t 2)), .g 10 true (some 13) (.bin 13 .leq (.t 11) (.t 12)), .s (.pick 14 (.t 10) (.t 13) (.k (.v (.c .ff)))), .s (.mv 6 (.t 14))]) (.ret))⟩
def c_spec_l1In : Fun := ⟨27, [], fun ts K => as3 ts fun t0 t1 t2 => arC (pI .i64) t0 fun n => arC (pI .i64) t1 fun lo => arC (pI .i64) t2 fun hi => K (tB (inR n lo hi)) []⟩
theorem run_spec_l1In (n : Int) (lo : Int) (hi : Int) : runK [] (0) [] pf_spec_l1In [tI .i64 n, tI .i64 lo, tI .i64 hi] fun r o => r = tB (inR n lo hi) ∧ o = [] := by
  conv => whnf
  refine sel_i (fun h => ?_) (fun h => ?_) <;> conv => whnf
  all_goals (refine ⟨?_, rfl⟩; simp at h; simp [inR] <;> omega)
theorem ok_spec_l1In : FunOk Try.prog c_spec_l1In := funOk (E := []) (envOk_nil) mixd Try.func27 (pf := pf_spec_l1In) (by kernel_rfl) fun ts K h => by
  obtain ⟨t0, t1, t2, e0, h⟩ := as3_out h
  subst e0
  obtain ⟨n, e1, hq⟩ := arC_out (rd_int .i64) h
  clear h
  subst e1
  have h := hq
  clear hq
  obtain ⟨lo, e1, hq⟩ := arC_out (rd_int .i64) h
  clear h
  subst e1
  have h := hq
  clear hq
  obtain ⟨hi, e1, hq⟩ := arC_out (rd_int .i64) h
  clear h
  subst e1
  have h := hq
  clear hq
  exact ⟨_, _, h, Nat.le_of_ble_eq_true (show Nat.ble 3 Try.f27.ntmps = true by kernel_rfl), _, run_spec_l1In n lo hi⟩

def pf_laws_eqIns : PF := ⟨[.t 4], .seq (.reg [.s (.box 2 (.t 0)), .s (.box 3 (.t 1)), .s (.mv 4 (.k (.v (.c .ff))))]) (.seq (.seq (.reg [.s (.fa 5 (.t 2) 0), .s (.load 6 false 1 (.t 5)), .s (.fa 7 (.t 3) 0), .s (.load 8 false 1 (.t 7)), .s (.bin 9 .neq (.t 6) (.t 8))]) (.cond (.t 9) (.seq (.reg [.s (.mv 4 (.k (.v (.c .ff))))]) (.ret)) (.skip))) (.seq (.seq (.reg [.s (.fa 10 (.t 2) 1), .s (.load 11 false 1 (.t 10)), .s (.fa 12 (.t 3) 1), .s (.load 13 false 1 (.t 12)), .s (.bin 14 .neq (.t 11) (.t 13))]) (.cond (.t 14) (.seq (.reg [.s (.mv 4 (.k (.v (.c .ff))))]) (.ret)) (.skip))) (.seq (.seq (.reg [.s (.fa 15 (.t 2) 2), .s (.load 16 false 1 (.t 15)), .s (.fa 17 (.t 3) 2), .s (.load 18 false 1 (.t 17)), .s (.bin 19 .neq (.t 16) (.t 18))]) (.cond (.t 19) (.seq (.reg [.s (.mv 4 (.k (.v (.c .ff))))]) (.ret)) (.skip))) (.seq (.seq (.reg [.s (.fa 20 (.t 2) 3), .s (.load 21 false 1 (.t 20)), .s (.fa 22 (.t 3) 3), .s (.load 23 false 1 (.t 22)), .s (.bin 24 .neq (.t 21) (.t 23))]) (.cond (.t 24) (.seq (.reg [.s (.mv 4 (.k (.v (.c .ff))))]) (.ret)) (.skip))) (.seq (.seq (.reg [.s (.fa 25 (.t 2) 4), .s (.load 26 false 1 (.t 25)), .s (.fa 27 (.t 3) 4), .s (.load 28 false 1 (.t 27)), .s (.bin 29 .neq (.t 26) (.t 28))]) (.cond (.t 29) (.seq (.reg [.s (.mv 4 (.k (.v (.c .ff))))]) (.ret)) (.skip))) (.seq (.reg [.s (.mv 4 (.k (.v (.c .tt))))]) (.ret)))))))⟩
def c_laws_eqIns : Fun := ⟨24, [], fun ts K => as2 ts fun t0 t1 => arG pInstT t0 fun a => arG pInstT t1 fun b => K (tB (decide (a = b))) []⟩
theorem run_laws_eqIns (a : Inst) (b : Inst) : runK [] (0) [] pf_laws_eqIns [tG (a.tc []), tG (b.tc [])] fun r o => r = tB (decide (a = b)) ∧ o = [] := by
  obtain ⟨a1, a2, a3, a4, a5⟩ := a
  obtain ⟨b1, b2, b3, b4, b5⟩ := b
  conv => whnf
  repeat' (refine sel_i (fun h => ?_) (fun h => ?_) <;> conv => whnf)
  all_goals (refine ⟨?_, rfl⟩; simp_all)
theorem ok_laws_eqIns : FunOk Try.prog c_laws_eqIns := funOk (E := []) (envOk_nil) mixd Try.func24 (pf := pf_laws_eqIns) (by kernel_rfl) fun ts K h => by
  obtain ⟨t0, t1, e0, h⟩ := as2_out h
  subst e0
  obtain ⟨a, e1, hq⟩ := arG_out rd_inst h
  clear h
  subst e1
  have h := hq
  clear hq
  obtain ⟨b, e1, hq⟩ := arG_out rd_inst h
  clear h
  subst e1
  have h := hq
  clear hq
  exact ⟨_, _, h, Nat.le_of_ble_eq_true (show Nat.ble 2 Try.f24.ntmps = true by kernel_rfl), _, run_laws_eqIns a b⟩

theorem set_mid {α : Type} {m a : List α} {i : Nat} {x : α} (h : m.length = a.length) (hi : i < a.length) (hx : m[i]? = some x) : (m.take i ++ a.drop i).set i x = m.take (i + 1) ++ a.drop (i + 1) := by
  rw [List.set_append_right _ _ (by simp; omega)]
  have hm : min i m.length = i := by omega
  simp only [List.length_take, hm, Nat.sub_self]
  rw [List.drop_eq_getElem_cons hi, List.set_cons_zero, List.take_add_one, hx]
  simp
def elIns (c : Int) : Inst := ⟨c, c + 1, c + 1 + 1, c + 1 + 1 + 1, c + 1 + 1 + 1 + 1⟩
def mkInsS (n : Nat) (k : Int) : List Inst := (List.range n).map (fun j : Nat => elIns (k + 5 * j))
theorem mkInsS_length (n : Nat) (k : Int) : (mkInsS n k).length = n := by simp [mkInsS]

def lb_laws_eqInsS_0 : PC := .seq (.seq (.reg [.s (.mv 11 (.t 5)), .s (.mv 12 (.t 0)), .s (.len 13 false (.t 12)), .s (.bin 14 .lss (.t 11) (.t 13))]) (.cond (.t 14) (.skip) (.exit 0))) (.seq (.blk 1 (.seq (.rgd [] [.s (.mv 17 (.t 0)), .s (.mv 18 (.t 5)), .s (.ia 19 .inst (.t 17) (.t 18)), .s (.load 20 true 5 (.t 19)), .s (.mv 21 (.t 1)), .s (.mv 22 (.t 5)), .s (.ia 23 .inst (.t 21) (.t 22)), .s (.load 24 true 5 (.t 23)), .s (.call (some 25) 24 [(.t 20), (.t 24)]), .s (.bnot 26 (.t 25))] (.tk 0 (.tk 1 (.tk 2 (.tk 3 (.tk 4 (.tk 5 (.tk 6 (.tk 7 (.one 8 true (.tk 9 (.done none)))))))))))) (.cond (.t 26) (.seq (.reg [.s (.mv 4 (.k (.v (.c .ff))))]) (.ret)) (.skip)))) (.reg [.s (.mv 15 (.t 5)), .s (.bin 16 .add (.t 15) (.k (.v (.c (.int .i64 1))))), .s (.mv 5 (.t 16))]))
def pf_laws_eqInsS : PF := ⟨[.t 4], .seq (.reg [.s (.mv 4 (.k (.v (.c .ff))))]) (.seq (.seq (.reg [.s (.mv 6 (.t 0)), .s (.len 7 false (.t 6)), .s (.mv 8 (.t 1)), .s (.len 9 false (.t 8)), .s (.bin 10 .neq (.t 7) (.t 9))]) (.cond (.t 10) (.seq (.reg [.s (.mv 4 (.k (.v (.c .ff))))]) (.ret)) (.skip))) (.seq (.seq (.reg [.s (.mv 5 (.k (.v (.c (.int .i64 0)))))]) (.blk 0 (.loop [0, 1, 5] lb_laws_eqInsS_0))) (.seq (.reg [.s (.mv 4 (.k (.v (.c .tt))))]) (.ret))))⟩
def c_laws_eqInsS : Fun := ⟨11, [], fun ts K => as2 ts fun t0 t1 => arC (pL .inst) t0 fun a => arC (pL .inst) t1 fun b => chk (a.length ≤ 2147483647) (K (tB (decide (a = b))) [])⟩
theorem run_laws_eqInsS (a : List (FT.Ty .inst)) (b : List (FT.Ty .inst)) (hpre : a.length ≤ 2147483647) : runK [c_laws_eqIns] (a.length + 1) [] pf_laws_eqInsS [tL false .inst a, tL false .inst b] fun r o => r = tB (decide (a = b)) ∧ o = [] := by
  conv => whnf
  refine sel_i (fun h => ?_) (fun h => ?_)
  · conv => whnf
    refine ⟨?_, rfl⟩
    simp at h
    simp
    intro e; subst e; simp at h
  · conv => whnf
    refine loop (α := Nat) (fun i => ⟨[(0, .v (.c (.sl false .inst 0))), (1, .v (.c (.sl false .inst 1))), (5, .v (.c (.int .i64 (i : Int))))], [(1, some (.flat false .inst none b)), (0, some (.flat false .inst none a))], nums.tail.tail, [], false, []⟩)
      (fun i => i ≤ a.length ∧ a.take i = b.take i) (fun i => a.length - i) (fun i R hI hR => ?_) 0 _ ⟨by simp, by simp⟩ (by omega)
    conv => whnf
    repeat' (first | (refine sel_i (fun h2 => ?_) (fun h2 => ?_) <;> conv => whnf) | (refine chk_c ?_ ?_ <;> conv => whnf))
    all_goals (have hl : a.length = b.length := by simp at h; omega)
    · exact ⟨by simp at h2; omega⟩
    · exact ⟨by simp at h2; omega⟩
    · exact ⟨by simp at h2; omega⟩
    · exact ⟨by simp at h2; omega⟩
    · refine ⟨?_, rfl⟩
      have hne : a ≠ b := fun e => by subst e; simp at h2
      simp [hne]
    · rename_i h3
      have hlt : i < a.length := by simpa using h3
      rw [wrap_id (n := (i : Int) + 1) (by omega) (by omega)]
      exact hR (i + 1) ⟨by omega, take_step (z := FT.zero .inst) hI.2 hlt (by omega) (nd_t h2)⟩ (by omega)
    · refine ⟨?_, rfl⟩
      have hge : a.length ≤ i := by simpa using h2
      have : a = b := take_all hI.2 hge (by omega)
      simp [this]
theorem ok_laws_eqInsS : FunOk Try.prog c_laws_eqInsS := funOk (E := [c_laws_eqIns]) (envOk_cons ok_laws_eqIns (envOk_nil)) mixd Try.func11 (pf := pf_laws_eqInsS) (by kernel_rfl) fun ts K h => by
  obtain ⟨t0, t1, e0, h⟩ := as2_out h
  subst e0
  obtain ⟨a, e1, hq⟩ := arC_out (rd_l .inst) h
  clear h
  subst e1
  have h := hq
  clear hq
  obtain ⟨b, e1, hq⟩ := arC_out (rd_l .inst) h
  clear h
  subst e1
  have h := hq
  clear hq
  obtain ⟨hpre, h⟩ := chk_o h
  exact ⟨_, _, h, Nat.le_of_ble_eq_true (show Nat.ble 2 Try.f11.ntmps = true by kernel_rfl), _, run_laws_eqInsS a b hpre⟩

def lb_laws_markInsS_0 : PC := .seq (.seq (.reg [.s (.mv 6 (.t 5)), .s (.mv 7 (.t 0)), .s (.len 8 false (.t 7)), .s (.bin 9 .lss (.t 6) (.t 8))]) (.cond (.t 9) (.skip) (.exit 0))) (.seq (.blk 1 (.seq (.reg [.s (.mv 12 (.t 0)), .s (.mv 13 (.t 5)), .s (.mv 14 (.t 1)), .s (.ia 15 .inst (.t 12) (.t 13)), .s (.fa 16 (.t 15) 0), .s (.store 1 (.t 16) (.t 14))]) (.seq (.reg [.s (.mv 17 (.t 1)), .s (.bin 18 .add (.t 17) (.k (.v (.c (.int .i64 1))))), .s (.mv 1 (.t 18))]) (.seq (.reg [.s (.mv 19 (.t 0)), .s (.mv 20 (.t 5)), .s (.mv 21 (.t 1)), .s (.ia 22 .inst (.t 19) (.t 20)), .s (.fa 23 (.t 22) 1), .s (.store 1 (.t 23) (.t 21))]) (.seq (.reg [.s (.mv 24 (.t 1)), .s (.bin 25 .add (.t 24) (.k (.v (.c (.int .i64 1))))), .s (.mv 1 (.t 25))]) (.seq (.reg [.s (.mv 26 (.t 0)), .s (.mv 27 (.t 5)), .s (.mv 28 (.t 1)), .s (.ia 29 .inst (.t 26) (.t 27)), .s (.fa 30 (.t 29) 2), .s (.store 1 (.t 30) (.t 28))]) (.seq (.reg [.s (.mv 31 (.t 1)), .s (.bin 32 .add (.t 31) (.k (.v (.c (.int .i64 1))))), .s (.mv 1 (.t 32))]) (.seq (.reg [.s (.mv 33 (.t 0)), .s (.mv 34 (.t 5)), .s (.mv 35 (.t 1)), .s (.ia 36 .inst (.t 33) (.t 34)), .s (.fa 37 (.t 36) 3), .s (.store 1 (.t 37) (.t 35))]) (.seq (.reg [.s (.mv 38 (.t 1)), .s (.bin 39 .add (.t 38) (.k (.v (.c (.int .i64 1))))), .s (.mv 1 (.t 39))]) (.seq (.reg [.s (.mv 40 (.t 0)), .s (.mv 41 (.t 5)), .s (.mv 42 (.t 1)), .s (.ia 43 .inst (.t 40) (.t 41)), .s (.fa 44 (.t 43) 4), .s (.store 1 (.t 44) (.t 42))]) (.reg [.s (.mv 45 (.t 1)), .s (.bin 46 .add (.t 45) (.k (.v (.c (.int .i64 1))))), .s (.mv 1 (.t 46))]))))))))))) (.reg [.s (.mv 10 (.t 5)), .s (.bin 11 .add (.t 10) (.k (.v (.c (.int .i64 1))))), .s (.mv 5 (.t 11))]))
def pf_laws_markInsS : PF := ⟨[.t 4], .seq (.reg [.s (.mv 4 (.k (.v (.c (.int .i64 0)))))]) (.seq (.seq (.reg [.s (.mv 5 (.k (.v (.c (.int .i64 0)))))]) (.blk 0 (.loop [0, 1, 5] lb_laws_markInsS_0))) (.seq (.reg [.s (.mv 47 (.t 1)), .s (.mv 4 (.t 47))]) (.ret)))⟩
def c_laws_markInsS : Fun := ⟨13, [true, false], fun ts K => as2 ts fun t0 t1 => arC (pO .inst) t0 fun a => arC (pI .i64) t1 fun k => chk (0 ≤ k ∧ k ≤ 1125899906842624 ∧ a.length ≤ 2147483647) (K (tN (k + 5 * a.length)) ([tL true .inst (mkInsS a.length k)]))⟩
theorem run_laws_markInsS (a : List (FT.Ty .inst)) (k : Int) (hpre : 0 ≤ k ∧ k ≤ 1125899906842624 ∧ a.length ≤ 2147483647) : runK [] (a.length + 1) [true, false] pf_laws_markInsS [tL true .inst a, tI .i64 k] fun r o => r = tN (k + 5 * a.length) ∧ o = [tL true .inst (mkInsS a.length k)] := by
  have hml : (mkInsS a.length k).length = a.length := by simp [mkInsS]
  conv => whnf
  refine loop (α := Nat × Int × List Inst) (fun p => ⟨[(0, .v (.c (.sl false .inst 0))), (1, .v (.c (.int .i64 p.2.1))), (5, .v (.c (.int .i64 (p.1 : Int))))], [(0, some (.flat true .inst none p.2.2))], nums.tail, [.v (.c (.sl false .inst 0))], false, []⟩)
      (fun p => p.1 ≤ a.length ∧ p.2.1 = k + 5 * p.1 ∧ p.2.2 = (mkInsS a.length k).take p.1 ++ a.drop p.1) (fun p => a.length - p.1) (fun p R hI hR => ?_) (0, k, a) _ ⟨by simp, by simp, by simp⟩ (by simp)
  obtain ⟨i, c, xs⟩ := p
  obtain ⟨hi, hc, hx⟩ := hI
  dsimp only at hi hc hx
  have hlen : xs.length = a.length := by rw [hx]; simp [hml]; omega
  dsimp only
  conv => whnf
  refine sel_i (fun h2 => ?_) (fun h2 => ?_)
  · have hlt : i < a.length := by simp at h2; omega
    have hget : ∀ x : Inst, (xs.set i x).getD i (FT.zero .inst) = x := fun x => by simp [List.getD_eq_getElem?_getD, hlen, hlt]
    have hmk : (mkInsS a.length k)[i]? = some (elIns c) := by simp [mkInsS, hlt, hc]
    conv => whnf
    repeat' (refine chk_c ?_ ?_ <;> conv => whnf)
    all_goals first
      | (refine ⟨?_⟩; omega)
      | (refine ⟨?_⟩; simp; done)
      | (refine ⟨?_⟩; simp; omega)
      | skip
    simp (disch := omega) only [wrap_id, Int.toNat_natCast, hget, List.set_set]
    exact hR (i + 1, c + 1 + 1 + 1 + 1 + 1, xs.set i (elIns c)) ⟨by omega, by simp; omega, by rw [hx]; exact set_mid hml hlt hmk⟩ (by simp; omega)
  · have hge : i = a.length := by simp at h2; omega
    subst hge
    conv => whnf
    refine ⟨by rw [hc], ?_⟩
    rw [hx, List.take_of_length_le (by omega), List.drop_eq_nil_of_le (by omega), List.append_nil]
theorem ok_laws_markInsS : FunOk Try.prog c_laws_markInsS := funOk (E := []) (envOk_nil) mixd Try.func13 (pf := pf_laws_markInsS) (by kernel_rfl) fun ts K h => by
  obtain ⟨t0, t1, e0, h⟩ := as2_out h
  subst e0
  obtain ⟨a, e1, hq⟩ := arC_out (rd_o .inst) h
  clear h
  subst e1
  have h := hq
  clear hq
  obtain ⟨k, e1, hq⟩ := arC_out (rd_int .i64) h
  clear h
  subst e1
  have h := hq
  clear hq
  obtain ⟨hpre, h⟩ := chk_o h
  exact ⟨_, _, h, Nat.le_of_ble_eq_true (show Nat.ble 2 Try.f13.ntmps = true by kernel_rfl), _, run_laws_markInsS a k hpre⟩


def elInt (c : Int) : Int := c
def mkIntS (n : Nat) (k : Int) : List Int := (List.range n).map (fun j : Nat => elInt (k + 1 * j))
theorem mkIntS_length (n : Nat) (k : Int) : (mkIntS n k).length = n := by simp [mkIntS]

def lb_laws_eqIntS_0 : PC := .seq (.seq (.reg [.s (.mv 11 (.t 5)), .s (.mv 12 (.t 0)), .s (.len 13 false (.t 12)), .s (.bin 14 .lss (.t 11) (.t 13))]) (.cond (.t 14) (.skip) (.exit 0))) (.seq (.blk 1 (.seq (.rgd [] [.s (.mv 17 (.t 0)), .s (.mv 18 (.t 5)), .s (.ia 19 (.int .i64) (.t 17) (.t 18)), .s (.load 20 false 1 (.t 19)), .s (.mv 21 (.t 1)), .s (.mv 22 (.t 5)), .s (.ia 23 (.int .i64) (.t 21) (.t 22)), .s (.load 24 false 1 (.t 23)), .s (.bin 25 .neq (.t 20) (.t 24))] (.tk 0 (.tk 1 (.tk 2 (.tk 3 (.tk 4 (.tk 5 (.tk 6 (.tk 7 (.tk 8 (.done none))))))))))) (.cond (.t 25) (.seq (.reg [.s (.mv 4 (.k (.v (.c .ff))))]) (.ret)) (.skip)))) (.reg [.s (.mv 15 (.t 5)), .s (.bin 16 .add (.t 15) (.k (.v (.c (.int .i64 1))))), .s (.mv 5 (.t 16))]))
def pf_laws_eqIntS : PF := ⟨[.t 4], .seq (.reg [.s (.mv 4 (.k (.v (.c .ff))))]) (.seq (.seq (.reg [.s (.mv 6 (.t 0)), .s (.len 7 false (.t 6)), .s (.mv 8 (.t 1)), .s (.len 9 false (.t 8)), .s (.bin 10 .neq (.t 7) (.t 9))]) (.cond (.t 10) (.seq (.reg [.s (.mv 4 (.k (.v (.c .ff))))]) (.ret)) (.skip))) (.seq (.seq (.reg [.s (.mv 5 (.k (.v (.c (.int .i64 0)))))]) (.blk 0 (.loop [0, 1, 5] lb_laws_eqIntS_0))) (.seq (.reg [.s (.mv 4 (.k (.v (.c .tt))))]) (.ret))))⟩
def c_laws_eqIntS : Fun := ⟨12, [], fun ts K => as2 ts fun t0 t1 => arC (pL (.int .i64)) t0 fun a => arC (pL (.int .i64)) t1 fun b => chk (a.length ≤ 2147483647) (K (tB (decide (a = b))) [])⟩
theorem run_laws_eqIntS (a : List (FT.Ty (.int .i64))) (b : List (FT.Ty (.int .i64))) (hpre : a.length ≤ 2147483647) : runK [] (a.length + 1) [] pf_laws_eqIntS [tL false (.int .i64) a, tL false (.int .i64) b] fun r o => r = tB (decide (a = b)) ∧ o = [] := by
  conv => whnf
  refine sel_i (fun h => ?_) (fun h => ?_)
  · conv => whnf
    refine ⟨?_, rfl⟩
    simp at h
    simp
    intro e; subst e; simp at h
  · conv => whnf
    refine loop (α := Nat) (fun i => ⟨[(0, .v (.c (.sl false (.int .i64) 0))), (1, .v (.c (.sl false (.int .i64) 1))), (5, .v (.c (.int .i64 (i : Int))))], [(1, some (.flat false (.int .i64) none b)), (0, some (.flat false (.int .i64) none a))], nums.tail.tail, [], false, []⟩)
      (fun i => i ≤ a.length ∧ a.take i = b.take i) (fun i => a.length - i) (fun i R hI hR => ?_) 0 _ ⟨by simp, by simp⟩ (by omega)
    conv => whnf
    repeat' (first | (refine sel_i (fun h2 => ?_) (fun h2 => ?_) <;> conv => whnf) | (refine chk_c ?_ ?_ <;> conv => whnf))
    all_goals (have hl : a.length = b.length := by simp at h; omega)
    · exact ⟨by simp at h2; omega⟩
    · exact ⟨by simp at h2; omega⟩
    · exact ⟨by simp at h2; omega⟩
    · exact ⟨by simp at h2; omega⟩
    · refine ⟨?_, rfl⟩
      have hne : a ≠ b := fun e => by subst e; simp at h2
      simp [hne]
    · rename_i h3
      have hlt : i < a.length := by simpa using h3
      rw [wrap_id (n := (i : Int) + 1) (by omega) (by omega)]
      exact hR (i + 1) ⟨by omega, take_step (z := FT.zero (.int .i64)) hI.2 hlt (by omega) (by simpa using h2)⟩ (by omega)
    · refine ⟨?_, rfl⟩
      have hge : a.length ≤ i := by simpa using h2
      have : a = b := take_all hI.2 hge (by omega)
      simp [this]
theorem ok_laws_eqIntS : FunOk Try.prog c_laws_eqIntS := funOk (E := []) (envOk_nil) mixd Try.func12 (pf := pf_laws_eqIntS) (by kernel_rfl) fun ts K h => by
  obtain ⟨t0, t1, e0, h⟩ := as2_out h
  subst e0
  obtain ⟨a, e1, hq⟩ := arC_out (rd_l (.int .i64)) h
  clear h
  subst e1
  have h := hq
  clear hq
  obtain ⟨b, e1, hq⟩ := arC_out (rd_l (.int .i64)) h
  clear h
  subst e1
  have h := hq
  clear hq
  obtain ⟨hpre, h⟩ := chk_o h
  exact ⟨_, _, h, Nat.le_of_ble_eq_true (show Nat.ble 2 Try.f12.ntmps = true by kernel_rfl), _, run_laws_eqIntS a b hpre⟩

def lb_laws_markIntS_0 : PC := .seq (.seq (.reg [.s (.mv 6 (.t 5)), .s (.mv 7 (.t 0)), .s (.len 8 false (.t 7)), .s (.bin 9 .lss (.t 6) (.t 8))]) (.cond (.t 9) (.skip) (.exit 0))) (.seq (.blk 1 (.seq (.reg [.s (.mv 12 (.t 0)), .s (.mv 13 (.t 5)), .s (.mv 14 (.t 1)), .s (.ia 15 (.int .i64) (.t 12) (.t 13)), .s (.store 1 (.t 15) (.t 14))]) (.reg [.s (.mv 16 (.t 1)), .s (.bin 17 .add (.t 16) (.k (.v (.c (.int .i64 1))))), .s (.mv 1 (.t 17))]))) (.reg [.s (.mv 10 (.t 5)), .s (.bin 11 .add (.t 10) (.k (.v (.c (.int .i64 1))))), .s (.mv 5 (.t 11))]))
def pf_laws_markIntS : PF := ⟨[.t 4], .seq (.reg [.s (.mv 4 (.k (.v (.c (.int .i64 0)))))]) (.seq (.seq (.reg [.s (.mv 5 (.k (.v (.c (.int .i64 0)))))]) (.blk 0 (.loop [0, 1, 5] lb_laws_markIntS_0))) (.seq (.reg [.s (.mv 18 (.t 1)), .s (.mv 4 (.t 18))]) (.ret)))⟩
def c_laws_markIntS : Fun := ⟨14, [true, false], fun ts K => as2 ts fun t0 t1 => arC (pO (.int .i64)) t0 fun a => arC (pI .i64) t1 fun k => chk (0 ≤ k ∧ k ≤ 1125899906842624 ∧ a.length ≤ 2147483647) (K (tN (k + 1 * a.length)) ([tL true (.int .i64) (mkIntS a.length k)]))⟩
theorem run_laws_markIntS (a : List (FT.Ty (.int .i64))) (k : Int) (hpre : 0 ≤ k ∧ k ≤ 1125899906842624 ∧ a.length ≤ 2147483647) : runK [] (a.length + 1) [true, false] pf_laws_markIntS [tL true (.int .i64) a, tI .i64 k] fun r o => r = tN (k + 1 * a.length) ∧ o = [tL true (.int .i64) (mkIntS a.length k)] := by
  have hml : (mkIntS a.length k).length = a.length := by simp [mkIntS]
  conv => whnf
  refine loop (α := Nat × Int × List Int) (fun p => ⟨[(0, .v (.c (.sl false (.int .i64) 0))), (1, .v (.c (.int .i64 p.2.1))), (5, .v (.c (.int .i64 (p.1 : Int))))], [(0, some (.flat true (.int .i64) none p.2.2))], nums.tail, [.v (.c (.sl false (.int .i64) 0))], false, []⟩)
      (fun p => p.1 ≤ a.length ∧ p.2.1 = k + 1 * p.1 ∧ p.2.2 = (mkIntS a.length k).take p.1 ++ a.drop p.1) (fun p => a.length - p.1) (fun p R hI hR => ?_) (0, k, a) _ ⟨by simp, by simp, by simp⟩ (by simp)
  obtain ⟨i, c, xs⟩ := p
  obtain ⟨hi, hc, hx⟩ := hI
  dsimp only at hi hc hx
  have hlen : xs.length = a.length := by rw [hx]; simp [hml]; omega
  dsimp only
  conv => whnf
  refine sel_i (fun h2 => ?_) (fun h2 => ?_)
  · have hlt : i < a.length := by simp at h2; omega
    have hget : ∀ x : Int, (xs.set i x).getD i (FT.zero (.int .i64)) = x := fun x => by simp [List.getD_eq_getElem?_getD, hlen, hlt]
    have hmk : (mkIntS a.length k)[i]? = some (elInt c) := by simp [mkIntS, hlt, hc]
    conv => whnf
    repeat' (refine chk_c ?_ ?_ <;> conv => whnf)
    all_goals first
      | (refine ⟨?_⟩; omega)
      | (refine ⟨?_⟩; simp; done)
      | (refine ⟨?_⟩; simp; omega)
      | skip
    simp (disch := omega) only [wrap_id, Int.toNat_natCast, hget, List.set_set]
    exact hR (i + 1, c + 1, xs.set i (elInt c)) ⟨by omega, by simp; omega, by rw [hx]; exact set_mid hml hlt hmk⟩ (by simp; omega)
  · have hge : i = a.length := by simp at h2; omega
    subst hge
    conv => whnf
    refine ⟨by rw [hc], ?_⟩
    rw [hx, List.take_of_length_le (by omega), List.drop_eq_nil_of_le (by omega), List.append_nil]
theorem ok_laws_markIntS : FunOk Try.prog c_laws_markIntS := funOk (E := []) (envOk_nil) mixd Try.func14 (pf := pf_laws_markIntS) (by kernel_rfl) fun ts K h => by
  obtain ⟨t0, t1, e0, h⟩ := as2_out h
  subst e0
  obtain ⟨a, e1, hq⟩ := arC_out (rd_o (.int .i64)) h
  clear h
  subst e1
  have h := hq
  clear hq
  obtain ⟨k, e1, hq⟩ := arC_out (rd_int .i64) h
  clear h
  subst e1
  have h := hq
  clear hq
  obtain ⟨hpre, h⟩ := chk_o h
  exact ⟨_, _, h, Nat.le_of_ble_eq_true (show Nat.ble 2 Try.f14.ntmps = true by kernel_rfl), _, run_laws_markIntS a k hpre⟩

def lb_laws_heldIntS_0 : PC := .seq (.seq (.reg [.s (.mv 6 (.t 5)), .s (.mv 7 (.t 0)), .s (.len 8 false (.t 7)), .s (.bin 9 .lss (.t 6) (.t 8))]) (.cond (.t 9) (.skip) (.exit 0))) (.seq (.blk 1 (.seq (.seq (.reg [.s (.mv 12 (.t 0)), .s (.mv 13 (.t 5)), .s (.ia 14 (.int .i64) (.t 12) (.t 13)), .s (.load 15 false 1 (.t 14)), .s (.mv 16 (.t 1)), .s (.bin 17 .neq (.t 15) (.t 16))]) (.cond (.t 17) (.seq (.reg [.s (.mv 4 (.k (.v (.c (.int .i64 (-1))))))]) (.ret)) (.skip))) (.reg [.s (.mv 18 (.t 1)), .s (.bin 19 .add (.t 18) (.k (.v (.c (.int .i64 1))))), .s (.mv 1 (.t 19))]))) (.reg [.s (.mv 10 (.t 5)), .s (.bin 11 .add (.t 10) (.k (.v (.c (.int .i64 1))))), .s (.mv 5 (.t 11))]))
def pf_laws_heldIntS : PF := ⟨[.t 4], .seq (.reg [.s (.mv 4 (.k (.v (.c (.int .i64 0)))))]) (.seq (.seq (.reg [.s (.mv 5 (.k (.v (.c (.int .i64 0)))))]) (.blk 0 (.loop [0, 1, 5] lb_laws_heldIntS_0))) (.seq (.reg [.s (.mv 20 (.t 1)), .s (.mv 4 (.t 20))]) (.ret)))⟩
def c_laws_heldIntS : Fun := ⟨25, [], fun ts K => as2 ts fun t0 t1 => arC (pL (.int .i64)) t0 fun a => arC (pI .i64) t1 fun k => chk (0 ≤ k ∧ k ≤ 1125899906842624 ∧ a.length ≤ 2147483647) (K (tN (hres (a = mkIntS a.length k) (k + 1 * a.length))) [])⟩
theorem run_laws_heldIntS (a : List (FT.Ty (.int .i64))) (k : Int) (hpre : 0 ≤ k ∧ k ≤ 1125899906842624 ∧ a.length ≤ 2147483647) : runK [] (a.length + 1) [] pf_laws_heldIntS [tL false (.int .i64) a, tI .i64 k] fun r o => r = tN (hres (a = mkIntS a.length k) (k + 1 * a.length)) ∧ o = [] := by
  have hml : (mkIntS a.length k).length = a.length := by simp [mkIntS]
  conv => whnf
  refine loop (α := Nat × Int) (fun p => ⟨[(0, .v (.c (.sl false (.int .i64) 0))), (1, .v (.c (.int .i64 p.2))), (5, .v (.c (.int .i64 (p.1 : Int))))], [(0, some (.flat false (.int .i64) none a))], nums.tail, [], false, []⟩)
      (fun p => p.1 ≤ a.length ∧ p.2 = k + 1 * p.1 ∧ a.take p.1 = (mkIntS a.length k).take p.1) (fun p => a.length - p.1) (fun p R hI hR => ?_) (0, k) _ ⟨by simp, by simp, by simp⟩ (by simp)
  obtain ⟨i, c⟩ := p
  obtain ⟨hi, hc, hx⟩ := hI
  dsimp only at hi hc hx
  dsimp only
  conv => whnf
  refine sel_i (fun h2 => ?_) (fun h2 => ?_)
  · have hlt : i < a.length := by simp at h2; omega
    have hmk : (mkIntS a.length k).getD i (FT.zero (.int .i64)) = elInt c := by simp [mkIntS, List.getD_eq_getElem?_getD, hlt, hc]
    have hne : a.getD i (FT.zero (.int .i64)) ≠ elInt c → a ≠ mkIntS a.length k := fun h e => h (by rw [← hmk, ← e])
    conv => whnf
    repeat' (first | (refine sel_i (fun h2 => ?_) (fun h2 => ?_) <;> conv => whnf) | (refine chk_c ?_ ?_ <;> conv => whnf))
    all_goals first
      | (refine ⟨?_⟩; omega)
      | (refine ⟨?_⟩; simp; done)
      | (refine ⟨?_⟩; simp; omega)
      | (refine ⟨?_, rfl⟩
         rw [hres_no (hne (fun e => by
           simp (disch := omega) only [wrap_id, Int.toNat_natCast, e] at h2
           simp [elInt] at h2))])
      | skip
    rename_i e0
    simp (disch := omega) only [wrap_id, Int.toNat_natCast] at h2 ⊢
    have he : a.getD i (FT.zero (.int .i64)) = elInt c := by
      generalize a.getD i (FT.zero (.int .i64)) = v at h2
      simp at h2
      simp [elInt, *]
    exact hR (i + 1, c + 1) ⟨by omega, by simp; omega, take_step hx hlt (by omega) (he.trans hmk.symm)⟩ (by simp; omega)
  · have hge : i = a.length := by simp at h2; omega
    subst hge
    conv => whnf
    refine ⟨?_, rfl⟩
    rw [List.take_of_length_le (by omega), List.take_of_length_le (by omega)] at hx
    rw [hres_yes hx, hc]
theorem ok_laws_heldIntS : FunOk Try.prog c_laws_heldIntS := funOk (E := []) (envOk_nil) mixd Try.func25 (pf := pf_laws_heldIntS) (by kernel_rfl) fun ts K h => by
  obtain ⟨t0, t1, e0, h⟩ := as2_out h
  subst e0
  obtain ⟨a, e1, hq⟩ := arC_out (rd_l (.int .i64)) h
  clear h
  subst e1
  have h := hq
  clear hq
  obtain ⟨k, e1, hq⟩ := arC_out (rd_int .i64) h
  clear h
  subst e1
  have h := hq
  clear hq
  obtain ⟨hpre, h⟩ := chk_o h
  exact ⟨_, _, h, Nat.le_of_ble_eq_true (show Nat.ble 2 Try.f25.ntmps = true by kernel_rfl), _, run_laws_heldIntS a k hpre⟩


def szr (k : Int) (n : Nat) : Int := if k - n < 0 then -1 else k - n
theorem szr_t {k : Int} {n : Nat} (h : k - n < 0) : szr k n = -1 := if_pos h
theorem szr_f {k : Int} {n : Nat} (h : ¬ k - n < 0) : szr k n = k - n := if_neg h

def pf_slices_Clone_bool : PF := ⟨[.t 2], .seq (.reg [.s (.mv 2 (.k (.v (.c (.nils .bool)))))]) (.seq (.seq (.reg [.s (.mv 3 (.t 0)), .s (.isnil 4 (.t 3))]) (.cond (.t 4) (.seq (.reg [.s (.mv 2 (.k (.v (.c (.nils .bool)))))]) (.ret)) (.skip))) (.seq (.reg [.s (.bs 5 .bool []), .s (.mv 6 (.t 0)), .s (.app 7 .bool (.t 5) (.t 6)), .s (.mv 2 (.t 7))]) (.ret)))⟩
def c_slices_Clone_bool : Fun := ⟨43, [], fun ts K => as1 ts fun t0 => arC (pL .bool) t0 fun a => chk (a.length ≤ 2147483647) (K (tL true .bool a) [])⟩
theorem ok_slices_Clone_bool : FunOk Try.prog c_slices_Clone_bool := funOkN (E := []) envOk_nil mixd Try.func43 (pf := pf_slices_Clone_bool) (by kernel_rfl) rfl (Nat.le_of_ble_eq_true (show Nat.ble 1 Try.f43.ntmps = true by kernel_rfl)) fun ts K h => by
  obtain ⟨t0, e0, h⟩ := as1_out h
  subst e0
  obtain ⟨a, e1, h⟩ := arC_out (rd_l .bool) h
  subst e1
  obtain ⟨hpre, h⟩ := chk_o h
  refine ⟨.bool, a, _, rfl, h, 0, fun e => ?_, ?_⟩
  · subst e
    conv => whnf
    exact ⟨rfl, rfl⟩
  · conv => whnf
    repeat' (refine chk_c ?_ ?_ <;> conv => whnf)
    all_goals first
      | (refine ⟨?_⟩; simp; omega)
      | exact ⟨rfl, rfl⟩

theorem szr_n {k : Int} {n : Nat} (h : 0 ≤ szr k n) : (n : Int) ≤ k ∧ szr k n = k - n := by unfold szr at *; split at h <;> omega
def LMem (m : Mem) (n : Nat) : Prop := m.words.length ≤ n ∧ m.gone.length ≤ n
def sideState (t : Two) (who : Int) : State :=
  if who = 0 then ⟨t.a.regs, t.a.pc, t.mem, t.a.trap⟩ else if who = 1 then ⟨t.b.regs, t.b.pc, t.mem, t.b.trap⟩ else ⟨[], ⟨0, false, ⟨0, 0, 0, 0⟩⟩, ⟨[], []⟩, 0⟩

def LState (s : State) (n : Nat) : Prop := s.regs.length ≤ n ∧ LMem s.mem n


def boundsOk (b t : Int) : Bool := decide (0 ≤ b) && decide (b ≤ t) && decide (t ≤ 4096)

def packB (b : Int) (e : Nat) : Int := b / 2 ^ e
def packL (b t : Int) (e : Nat) : Int := (t - b / 2 ^ e * 2 ^ e + 2 ^ e - 1) / 2 ^ e
theorem e_cases {e : Nat} (he : e ≤ 6) : e = 0 ∨ e = 1 ∨ e = 2 ∨ e = 3 ∨ e = 4 ∨ e = 5 ∨ e = 6 := by omega
def packOk (b t : Int) (e : Nat) : Bool := decide (packB b e ≤ 63) && decide (packL b t e ≤ 63)
def packGo (b t : Int) : Nat → Nat → Option Packed
  | 0, _ => none
  | n + 1, e => if packOk b t e then some ⟨e, packB b e, packL b t e⟩ else packGo b t n (e + 1)
def pack (b t : Int) : Option Packed := if boundsOk b t then packGo b t 7 0 else none
theorem pack_yes {b t : Int} (h : boundsOk b t = true) : pack b t = packGo b t 7 0 := by simp [pack, h]
theorem packGo_t {b t : Int} {n e : Nat} (h : packOk b t e = true) : packGo b t (n + 1) e = some ⟨e, packB b e, packL b t e⟩ := by simp [packGo, h]
theorem packGo_f {b t : Int} {n e : Nat} (h : packOk b t e = false) : packGo b t (n + 1) e = packGo b t n (e + 1) := by simp [packGo, h]
theorem bounds_n {b t : Int} (h : boundsOk b t = true) : 0 ≤ b ∧ b ≤ t ∧ t ≤ 4096 := by simp [boundsOk] at h; omega

def unpackOk (p : Packed) : Bool := inR p.e 0 6 && inR p.b 0 63 && inR p.l 0 63
def unpack (p : Packed) : Int × Int × Bool := if unpackOk p then (p.b * 2 ^ p.e.toNat, min 4096 ((p.b + p.l) * 2 ^ p.e.toNat), true) else (0, 0, false)
theorem unpack_yes {p : Packed} (h : unpackOk p = true) : unpack p = (p.b * 2 ^ p.e.toNat, min 4096 ((p.b + p.l) * 2 ^ p.e.toNat), true) := by simp [unpack, h]

def wide (b t : Int) : Int × Int := if boundsOk b t then (if (pack b t).isSome then ((unpack ((pack b t).getD ⟨0, 0, 0⟩)).1, (unpack ((pack b t).getD ⟨0, 0, 0⟩)).2.1) else (0, 4096)) else (0, 0)
def exact_ (b t : Int) : Bool := boundsOk b t && decide ((wide b t).1 = b) && decide ((wide b t).2 = t)
def keyOk (k : Key) : Bool := exact_ k.base k.top && inR k.perms 0 63 && inR k.sealed 0 7
def wordOk (w : Word) : Bool := inR w.n 0 65535 && (if w.is then keyOk w.key else decide (w.key = ⟨0, 0, 0, 0⟩))

def memoryOk (m : Mem) : Bool := decide (m.words.length = 24) && decide (m.gone.length = 24) && m.words.all wordOk
def stateOk (s : State) : Bool := decide (s.regs.length = 8) && s.regs.all wordOk && wordOk s.pc && memoryOk s.mem && inR s.trap 0 5
theorem all_any {α : Type} (p : α → Bool) (xs : List α) : xs.any (fun w => !p w) = !xs.all p := by
  induction xs with
  | nil => rfl
  | cons x xs ih => simp [ih]
theorem all_end {α : Type} {p : α → Bool} {xs : List α} {i : Nat} (h : xs.length ≤ i) (hi : (xs.drop i).all p = xs.all p) : xs.all p = true := by
  rw [← hi, List.drop_eq_nil_of_le h]; rfl
theorem all_no {α : Type} {p : α → Bool} {z : α} {xs : List α} {i : Nat} (h : i < xs.length) (hp : p (xs.getD i z) = false) (hi : (xs.drop i).all p = xs.all p) : xs.all p = false := by
  have e : xs.getD i z = xs[i] := by simp [List.getD_eq_getElem?_getD, h]
  rw [e] at hp; rw [← hi, List.drop_eq_getElem_cons h, List.all_cons, hp]; rfl
theorem all_yes {α : Type} {p : α → Bool} {z : α} {xs : List α} {i : Nat} (h : i < xs.length) (hp : p (xs.getD i z) = true) (hi : (xs.drop i).all p = xs.all p) : (xs.drop (i + 1)).all p = xs.all p := by
  have e : xs.getD i z = xs[i] := by simp [List.getD_eq_getElem?_getD, h]
  rw [e] at hp; rw [← hi, List.drop_eq_getElem_cons h, List.all_cons, hp]; rfl

def twoOk (t : Two) : Bool := stateOk (sideState t 0) && stateOk (sideState t 1)

def andI (a b : Int) : Int := IntKind.i64.wrap (BitVec.ofInt IntKind.i64.bits a &&& BitVec.ofInt IntKind.i64.bits b).toNat
theorem andI_eq (a b : Int) : IntKind.i64.wrap (BitVec.ofInt IntKind.i64.bits a &&& BitVec.ofInt IntKind.i64.bits b).toNat = andI a b := rfl
abbrev w0 : Word := ⟨0, false, ⟨0, 0, 0, 0⟩⟩
def hasKey (l : List Word) (k : Key) : Bool := l.any (fun x => decide (x.key = k))
def putW (out : List Word) (w : Word) : List Word := if w.is && wordOk w && !hasKey out w.key then out ++ [w] else out
def scan (ws : List Word) : Nat → Nat → List Word → List Word
  | 0, _, out => out
  | n + 1, c, out => scan ws n (c + 1) (putW out (ws.getD c (FT.zero .word)))
def opens (k : Key) : Bool := !(andI k.perms 1 == 0) && !(andI k.perms 8 == 0)
def closStep (ws out : List Word) (k : Key) : List Word := if opens k then scan ws (min k.top 24 - k.base).toNat k.base.toNat out else out
def closGo (ws : List Word) : Nat → Nat → List Word → List Word
  | 0, _, out => out
  | n + 1, i, out => if i < out.length then closGo ws n (i + 1) (closStep ws out (out.getD i (FT.zero .word)).key) else out
def closFirst (l : List Word) : List Word := l.foldl putW []
def closure (m : Mem) (l : List Word) : List Word := if memoryOk m then closGo m.words (l.length + 24) 0 (closFirst l) else []
theorem getD_mem {ws : List Word} {c : Nat} (h : c < ws.length) : ws.getD c (FT.zero .word) ∈ ws := by
  have e : ws.getD c (FT.zero .word) = ws[c] := by simp [List.getD_eq_getElem?_getD, h]
  rw [e]; exact List.getElem_mem h

def hasP (w : Word) (p : Int) : Bool := w.is && (andI w.key.perms p != 0)
def canSeal (m : Mem) (l : List Word) : Bool := (closure m l).any (fun w => hasP w 32)

def U8s (b : List Int) : Prop := ∀ x ∈ b, 0 ≤ x ∧ x ≤ 255
theorem U8s.at {b : List Int} (h : U8s b) (i : Nat) : 0 ≤ b.getD i 0 ∧ b.getD i 0 ≤ 255 := by
  rw [List.getD_eq_getElem?_getD]
  cases e : b[i]? with
  | none => simp
  | some x => exact h x (List.mem_of_getElem? e)
def wordBytes (w : Word) : List Int :=
  if wordOk w then (if w.is then [w.n / 256, w.n % 256, 1, w.key.base / 256, w.key.base % 256, w.key.top / 256, w.key.top % 256, w.key.perms, w.key.sealed] else [w.n / 256, w.n % 256, 0]) else []
theorem wordOk_n {w : Word} (h : wordOk w = true) : 0 ≤ w.n ∧ w.n ≤ 65535 := by
  simp only [wordOk, Bool.and_eq_true] at h; simpa [inR] using h.1
theorem U8s.win {b : List Int} (h : U8s b) (o n : Nat) : U8s (win b o n) := fun x hx => h x (List.mem_of_mem_drop (List.mem_of_mem_take hx))
def wordAt (b : List Int) (i : Nat) : Word := ⟨b.getD i 0 * 256 + b.getD (i + 1) 0, true, ⟨b.getD (i + 3) 0 * 256 + b.getD (i + 4) 0, b.getD (i + 5) 0 * 256 + b.getD (i + 6) 0, b.getD (i + 7) 0, b.getD (i + 8) 0⟩⟩
def wordOf (b : List Int) (a : Int) : Option (Word × Int) :=
  if inR a 0 (b.length - 3) then
    (if b.getD (a.toNat + 2) 0 = 0 then some (⟨b.getD a.toNat 0 * 256 + b.getD (a.toNat + 1) 0, false, ⟨0, 0, 0, 0⟩⟩, a + 3)
     else if b.getD (a.toNat + 2) 0 = 1 ∧ a + 9 ≤ b.length ∧ wordOk (wordAt b a.toNat) = true then some (wordAt b a.toNat, a + 9) else none)
  else none


def filt (f : Nat → Bool) (n : Nat) : List Int := ((List.range n).filter f).map (fun c : Nat => (c : Int))
def coverP (ws : List Word) (p : Int) (c : Nat) : Bool := ws.any (fun w => hasP w p && inR c w.key.base (w.key.top - 1))
def cellsBy (m : Mem) (l : List Word) (p : Int) : List Int := filt (coverP (closure m l) p) 24


def heldW (s : Side) : List Word := s.regs ++ [s.pc]
def meetI (a b : List Int) : Bool := a.any (fun n => b.any (fun x => n == x))
def crossesB (m : Mem) (a b : List Word) : Bool := meetI (cellsBy m a 2) (cellsBy m b 1 ++ cellsBy m b 2)
def apartB (t : Two) : Bool := twoOk t && !canSeal t.mem (heldW t.a) && !canSeal t.mem (heldW t.b) && (!crossesB t.mem (heldW t.a) (heldW t.b) && !crossesB t.mem (heldW t.b) (heldW t.a))

def LHeap (h : Heap) (n : Nat) : Prop := LMem h.mem n ∧ h.live.length ≤ n ∧ h.waits.length ≤ n
def inS (s : Span) (c : Nat) : Bool := inR c s.at_ (s.at_ + s.len - 1)
def spanOk (s : Span) : Bool := inR s.at_ 0 23 && inR s.len 1 (24 - s.at_)
def spanChk (l : List Span) (i : Nat) : Bool := spanOk (l.getD i (FT.zero .span)) && (i == 0 || decide ((l.getD (i - 1) (FT.zero .span)).at_ < (l.getD i (FT.zero .span)).at_))
def okTo (l : List Span) (i : Nat) : Bool := (List.range i).all (spanChk l)
def spansOk (l : List Span) : Bool := okTo l l.length
theorem inR_t {n lo hi : Int} : inR n lo hi = true ↔ lo ≤ n ∧ n ≤ hi := by simp [inR]
theorem inR_f {n lo hi : Int} : inR n lo hi = false ↔ (n < lo ∨ hi < n) := by
  rw [Bool.eq_false_iff, ne_eq, inR_t]; omega
theorem spanChk_iff (l : List Span) (i : Nat) : spanChk l i = true ↔ (((0 ≤ (l.getD i (FT.zero .span)).at_ ∧ (l.getD i (FT.zero .span)).at_ ≤ 23) ∧ 1 ≤ (l.getD i (FT.zero .span)).len ∧ (l.getD i (FT.zero .span)).len ≤ 24 - (l.getD i (FT.zero .span)).at_) ∧ (i = 0 ∨ (l.getD (i - 1) (FT.zero .span)).at_ < (l.getD i (FT.zero .span)).at_)) := by
  simp only [spanChk, spanOk, Bool.and_eq_true, inR_t, Bool.or_eq_true, beq_iff_eq, decide_eq_true_eq]

def allR (f : Nat → Bool) (n : Nat) : Bool := (List.range n).all f
theorem allR_iff {f : Nat → Bool} {n : Nat} : allR f n = true ↔ ∀ c, c < n → f c = true := by simp [allR]
def cnt (l : List Span) (c : Nat) : Nat := l.countP (fun s => inS s c)
def heapOk (h : Heap) : Bool := memoryOk h.mem && spansOk h.live && spansOk h.waits && allR (fun c => decide (cnt h.live c + cnt h.waits c ≤ 1) && (h.mem.gone.getD c false == decide (0 < cnt h.waits c))) 24
theorem spanChk_ok {l : List Span} {i : Nat} (h : spanChk l i = true) : spanOk (l.getD i (FT.zero .span)) = true := by
  simp only [spanChk, Bool.and_eq_true] at h; exact h.1
theorem spansOk_iff {l : List Span} : spansOk l = true ↔ ∀ j, j < l.length → spanChk l j = true := by simp [spansOk, okTo]
theorem spansOk_mem {l : List Span} (h : spansOk l = true) : ∀ s ∈ l, spanOk s = true := fun s hs => by
  obtain ⟨i, hi, rfl⟩ := List.getElem_of_mem hs
  have := spanChk_ok (spansOk_iff.1 h i hi)
  rw [show l.getD i (FT.zero .span) = l[i] by simp [List.getD_eq_getElem?_getD, hi]] at this
  exact this

def plainW (n : Int) : Word := ⟨andI n 65535, false, ⟨0, 0, 0, 0⟩⟩
def gonB (g : List Bool) (w : Word) : Bool := w.is && inR w.key.base 0 (g.length - 1) && g.getD w.key.base.toNat false
def filterW (g : List Bool) (w : Word) : Word := if gonB g w then plainW w.n else w


def tryW (w : Word) (n p : Int) : Int := if w.is = false ∨ wordOk w = false then 1 else if w.key.sealed ≠ 0 then 2 else if andI w.key.perms p ≠ p then 3 else if n < w.key.base ∨ w.key.top ≤ n then 4 else 0
def takenW (y w : Word) : Word := if andI y.key.perms 8 = 0 then plainW w.n else w
def mayPut (y w : Word) : Bool := !w.is || andI y.key.perms 16 != 0
def openW (w : Word) : Bool := wordOk w && w.is && w.key.sealed == 0
def weakenW (w : Word) (m : Int) : Word := if openW w then { w with key := { w.key with perms := andI w.key.perms (andI m 63) } } else plainW w.n
def narrowW (w : Word) (n : Int) : Word :=
  if openW w && inR n 0 4096 && boundsOk w.n (IntKind.i64.wrap (w.n + n)) then
    (if (wide w.n (IntKind.i64.wrap (w.n + n))).1 < w.key.base ∨ w.key.top < (wide w.n (IntKind.i64.wrap (w.n + n))).2 then plainW w.n else { w with key := { w.key with base := (wide w.n (IntKind.i64.wrap (w.n + n))).1, top := (wide w.n (IntKind.i64.wrap (w.n + n))).2 } })
  else plainW w.n
def pointW (w : Word) (n : Int) : Word := if openW w then ⟨andI n 65535, true, w.key⟩ else plainW n
def sealsB (y : Word) : Bool := openW y && (andI y.key.perms 32 != 0) && decide (y.key.base ≤ y.n) && decide (y.n < y.key.top) && inR y.n 1 7
def sealBy (w y : Word) : Word := if openW w && sealsB y then { w with key := { w.key with sealed := y.n } } else plainW w.n
def openBy (w y : Word) : Word := if wordOk w && w.is && sealsB y && w.key.sealed == y.n then { w with key := { w.key with sealed := 0 } } else plainW w.n


def lb_slices_Index_byte_0 : PC := .seq (.reg [.s (.bin 9 .lss (.t 8) (.t 7))]) (.seq (.cond (.t 9) (.skip) (.exit 0)) (.seq (.blk 1 (.seq (.reg [.s (.mv 10 (.t 8)), .s (.mv 5 (.t 10))]) (.seq (.reg [.s (.mv 11 (.t 1)), .s (.mv 12 (.t 0)), .s (.mv 13 (.t 5)), .s (.ia 14 (.int .u8) (.t 12) (.t 13)), .s (.load 15 false 1 (.t 14)), .s (.bin 16 .eql (.t 11) (.t 15))]) (.cond (.t 16) (.seq (.reg [.s (.mv 17 (.t 5)), .s (.mv 4 (.t 17))]) (.ret)) (.skip))))) (.reg [.s (.bin 18 .add (.t 8) (.k (.v (.c (.int .i64 1))))), .s (.mv 8 (.t 18))])))
def pf_slices_Index_byte : PF := ⟨[.t 4], .seq (.reg [.s (.mv 4 (.k (.v (.c (.int .i64 0)))))]) (.seq (.seq (.reg [.s (.mv 6 (.t 0)), .s (.len 7 false (.t 6)), .s (.mv 8 (.k (.v (.c (.int .i64 0)))))]) (.blk 0 (.loop [0, 1, 7, 8] lb_slices_Index_byte_0))) (.seq (.reg [.s (.mv 4 (.k (.v (.c (.int .i64 (-1))))))]) (.ret)))⟩
def c_slices_Index_byte : Fun := ⟨52, [], fun ts K => as2 ts fun t0 t1 => arC (pL (.int .u8)) t0 fun xs => arC (pI .u8) t1 fun v => chk (xs.length ≤ 2147483647) (K (tN (idxOf (fun x => v == x) xs)) [])⟩
theorem run_slices_Index_byte (xs : List (FT.Ty (.int .u8))) (v : Int) (hpre : xs.length ≤ 2147483647) : runK [] (xs.length + 1) [] pf_slices_Index_byte [tL false (.int .u8) xs, tI .u8 v] fun r o => r = tN (idxOf (fun x => v == x) xs) ∧ o = [] := by
  conv => whnf
  refine loop (α := Nat) (fun i => ⟨[(0, .v (.c (.sl false (.int .u8) 0))), (1, .v (.c (.int .u8 v))), (7, .v (.c (.int .i64 (xs.length : Int)))), (8, .v (.c (.int .i64 (i : Int))))], [(0, some (.flat false (.int .u8) none xs))], nums.tail, [], false, []⟩)
      (fun i => i ≤ xs.length ∧ idxOf (fun x => v == x) xs = idxGo (fun x => v == x) (xs.drop i) i) (fun i => xs.length - i) (fun i R hI hR => ?_) 0 _ ⟨by simp, rfl⟩ (by simp)
  obtain ⟨hi, hx⟩ := hI
  conv => whnf
  refine sel_i (fun h2 => ?_) (fun h2 => ?_)
  · have hlt : i < xs.length := by simp at h2; omega
    conv => whnf
    repeat (refine chk_i (by first | omega | (simp; omega)) ?_; conv => whnf)
    refine sel_i (fun h3 => ?_) (fun h3 => ?_)
    · conv => whnf
      rw [hx, idxGo_yes (z := FT.zero (.int .u8)) hlt h3]
      exact ⟨rfl, rfl⟩
    · conv => whnf
      rw [wrap_id (n := (i : Int) + 1) (by omega) (by omega)]
      exact hR (i + 1) ⟨by omega, by rw [hx, idxGo_no (z := FT.zero (.int .u8)) hlt h3]⟩ (by omega)
  · conv => whnf
    rw [hx, idxGo_end (by simp at h2; omega)]
    exact ⟨rfl, rfl⟩
theorem ok_slices_Index_byte : FunOk Try.prog c_slices_Index_byte := funOk (E := []) (envOk_nil) mixd Try.func52 (pf := pf_slices_Index_byte) (by kernel_rfl) fun ts K h => by
  obtain ⟨t0, t1, e0, h⟩ := as2_out h
  subst e0
  obtain ⟨xs, e1, hq⟩ := arC_out (rd_l (.int .u8)) h
  clear h
  subst e1
  have h := hq
  clear hq
  obtain ⟨v, e1, hq⟩ := arC_out (rd_int .u8) h
  clear h
  subst e1
  have h := hq
  clear hq
  obtain ⟨hpre, h⟩ := chk_o h
  exact ⟨_, _, h, Nat.le_of_ble_eq_true (show Nat.ble 2 Try.f52.ntmps = true by kernel_rfl), _, run_slices_Index_byte xs v hpre⟩

def pf_slices_Contains_byte : PF := ⟨[.t 4], .seq (.reg [.s (.mv 4 (.k (.v (.c .ff))))]) (.seq (.reg [.s (.mv 5 (.t 0)), .s (.mv 6 (.t 1)), .s (.call (some 7) 52 [(.t 5), (.t 6)]), .s (.bin 8 .geq (.t 7) (.k (.v (.c (.int .i64 0))))), .s (.mv 4 (.t 8))]) (.ret))⟩
def c_slices_Contains_byte : Fun := ⟨48, [], fun ts K => as2 ts fun t0 t1 => arC (pL (.int .u8)) t0 fun xs => arC (pI .u8) t1 fun v => chk (xs.length ≤ 2147483647) (K (tB (xs.any (fun x => v == x))) [])⟩
theorem run_slices_Contains_byte (xs : List (FT.Ty (.int .u8))) (v : Int) (hpre : xs.length ≤ 2147483647) : runK [c_slices_Index_byte] (0) [] pf_slices_Contains_byte [tL false (.int .u8) xs, tI .u8 v] fun r o => r = tB (xs.any (fun x => v == x)) ∧ o = [] := by
  conv => whnf
  repeat' (first | (refine sel_i (fun h => ?_) (fun h => ?_) <;> conv => whnf) | (refine chk_c ?_ ?_ <;> conv => whnf) | (refine And.intro ?_ rfl) | (refine And.intro ?_ ?_ <;> conv => whnf))
  all_goals first | (refine ⟨?_⟩; exact hpre) | exact hpre | (rw [← idxOf_any]; rfl) | (rw [← idxOf_any])
theorem ok_slices_Contains_byte : FunOk Try.prog c_slices_Contains_byte := funOk (E := [c_slices_Index_byte]) (envOk_cons ok_slices_Index_byte (envOk_nil)) mixd Try.func48 (pf := pf_slices_Contains_byte) (by kernel_rfl) fun ts K h => by
  obtain ⟨t0, t1, e0, h⟩ := as2_out h
  subst e0
  obtain ⟨xs, e1, hq⟩ := arC_out (rd_l (.int .u8)) h
  clear h
  subst e1
  have h := hq
  clear hq
  obtain ⟨v, e1, hq⟩ := arC_out (rd_int .u8) h
  clear h
  subst e1
  have h := hq
  clear hq
  obtain ⟨hpre, h⟩ := chk_o h
  exact ⟨_, _, h, Nat.le_of_ble_eq_true (show Nat.ble 2 Try.f48.ntmps = true by kernel_rfl), _, run_slices_Contains_byte xs v hpre⟩

def formS (op : Int) : ByteArray :=
  if op = 1 then ⟨#[82, 78]⟩ else if op = 2 ∨ op = 4 ∨ op = 5 ∨ op = 7 ∨ op = 8 then ⟨#[82, 65, 66]⟩ else if op = 3 ∨ op = 9 ∨ op = 12 then ⟨#[82, 65]⟩ else if op = 6 then ⟨#[82, 65, 66, 78]⟩ else
  if op = 10 then ⟨#[82, 65, 78]⟩ else if op = 11 then ⟨#[65, 66, 78]⟩ else if op = 13 then ⟨#[65, 78]⟩ else if op = 14 then ⟨#[65]⟩ else ⟨#[]⟩
def maskI (op : Int) : Int := if inR op 1 15 then ([0, 9, 7, 3, 7, 7, 15, 7, 7, 3, 11, 14, 3, 10, 2, 0] : List Int).getD op.toNat 0 else 0
def hasC (op c : Int) : Bool := (bytesI (formS op)).any (fun b => c == b)
def partI (x : Inst) (c : Int) : Int := if c = 82 then x.r else if c = 65 then x.a else if c = 66 then x.b else x.n
def fld (v : Int) (b : Bool) : Bool := inR v 0 7 && (b || v == 0)
def insOk (x : Inst) : Bool := inR x.op 1 15 && fld x.r (andI (maskI x.op) 1 != 0) && fld x.a (andI (maskI x.op) 2 != 0) && fld x.b (andI (maskI x.op) 4 != 0) && inR x.n (-128) 127 && (andI (maskI x.op) 8 != 0 || x.n == 0)
theorem formS_len (op : Int) : (bytesI (formS op)).length ≤ 4 := by
  rw [bytesI_len]
  unfold formS
  repeat' split
  all_goals decide
def lettI (i : Nat) : Int := ([82, 65, 66, 78] : List Int).getD i 0
def partOkI (x : Inst) (c : Int) : Bool := if hasC x.op c then (if c == 78 then inR (partI x c) (-128) 127 else inR (partI x c) 0 7) else partI x c == 0
def okC : Option Bool → Cell | none => .ff | some b => .bool b
def okV : Option Bool → Bool | none => false | some b => b
theorem allR_succ (f : Nat → Bool) (n : Nat) : allR f (n + 1) = (allR f n && f n) := by simp [allR, List.range_succ]
theorem insOk_eq (x : Inst) : (inR x.op 1 15 && allR (fun j => partOkI x (lettI j)) 4) = insOk x := by
  have hall : allR (fun j => partOkI x (lettI j)) 4 = (partOkI x 82 && partOkI x 65 && partOkI x 66 && partOkI x 78) := by
    simp [allR, List.range_succ, lettI, Bool.and_assoc]
  rw [hall]
  unfold insOk
  by_cases h : inR x.op 1 15 = true
  · rw [h]
    simp only [Bool.true_and]
    obtain ⟨op, r, a, b, n⟩ := x
    have h := inR_t.1 h
    dsimp only at h ⊢
    have e0 : ∀ v : Int, (inR v 0 7 && (v == 0)) = (v == 0) := fun v => by
      by_cases e : v = 0
      · subst e; decide
      · simp [e]
    have e1 : ∀ v : Int, (inR v (-128) 127 && (v == 0)) = (v == 0) := fun v => by
      by_cases e : v = 0
      · subst e; decide
      · simp [e]
    have hop : op = 1 ∨ op = 2 ∨ op = 3 ∨ op = 4 ∨ op = 5 ∨ op = 6 ∨ op = 7 ∨ op = 8 ∨ op = 9 ∨ op = 10 ∨ op = 11 ∨ op = 12 ∨ op = 13 ∨ op = 14 ∨ op = 15 := by omega
    have key : ∀ (k1 k2 k3 k4 : Bool), hasC op 82 = k1 → hasC op 65 = k2 → hasC op 66 = k3 → hasC op 78 = k4 → (andI (maskI op) 1 != 0) = k1 → (andI (maskI op) 2 != 0) = k2 → (andI (maskI op) 4 != 0) = k3 → (andI (maskI op) 8 != 0) = k4 →
        (partOkI ⟨op, r, a, b, n⟩ 82 && partOkI ⟨op, r, a, b, n⟩ 65 && partOkI ⟨op, r, a, b, n⟩ 66 && partOkI ⟨op, r, a, b, n⟩ 78) = (fld r (andI (maskI op) 1 != 0) && fld a (andI (maskI op) 2 != 0) && fld b (andI (maskI op) 4 != 0) && inR n (-128) 127 && (andI (maskI op) 8 != 0 || n == 0)) := by
      intro k1 k2 k3 k4 a1 a2 a3 a4 b1 b2 b3 b4
      rw [b1, b2, b3, b4]
      simp only [partOkI, a1, a2, a3, a4, fld, partI]
      cases k1 <;> cases k2 <;> cases k3 <;> cases k4 <;> simp [e0, e1, Bool.and_assoc]
    rcases hop with rfl | rfl | rfl | rfl | rfl | rfl | rfl | rfl | rfl | rfl | rfl | rfl | rfl | rfl | rfl <;> exact key _ _ _ _ rfl rfl rfl rfl (by decide) (by decide) (by decide) (by decide)
  · simp only [Bool.not_eq_true] at h
    rw [h]; rfl

def pf_impl_formOf : PF := ⟨[.t 2, .t 3], .seq (.reg [.s (.mv 2 (.k (.v (.c (.str ⟨#[]⟩))))), .s (.mv 3 (.k (.v (.c .ff))))]) (.seq (.seq (.reg [.s (.mv 4 (.t 0))]) (.blk 0 (.seq (.reg [.s (.bin 6 .eql (.t 4) (.k (.v (.c (.int .i64 1))))), .s (.mv 5 (.t 6))]) (.cond (.t 5) (.seq (.reg [.s (.mv 2 (.k (.v (.c (.str ⟨#[82, 78]⟩))))), .s (.mv 3 (.k (.v (.c .tt))))]) (.ret)) (.seq (.seq (.reg [.s (.bin 8 .eql (.t 4) (.k (.v (.c (.int .i64 2))))), .s (.mv 7 (.t 8))]) (.cond (.t 7) (.skip) (.seq (.reg [.s (.bin 9 .eql (.t 4) (.k (.v (.c (.int .i64 4))))), .s (.mv 7 (.t 9))]) (.cond (.t 7) (.skip) (.seq (.reg [.s (.bin 10 .eql (.t 4) (.k (.v (.c (.int .i64 5))))), .s (.mv 7 (.t 10))]) (.cond (.t 7) (.skip) (.seq (.reg [.s (.bin 11 .eql (.t 4) (.k (.v (.c (.int .i64 7))))), .s (.mv 7 (.t 11))]) (.cond (.t 7) (.skip) (.reg [.s (.bin 12 .eql (.t 4) (.k (.v (.c (.int .i64 8))))), .s (.mv 7 (.t 12))]))))))))) (.cond (.t 7) (.seq (.reg [.s (.mv 2 (.k (.v (.c (.str ⟨#[82, 65, 66]⟩))))), .s (.mv 3 (.k (.v (.c .tt))))]) (.ret)) (.seq (.seq (.reg [.s (.bin 14 .eql (.t 4) (.k (.v (.c (.int .i64 3))))), .s (.mv 13 (.t 14))]) (.cond (.t 13) (.skip) (.seq (.reg [.s (.bin 15 .eql (.t 4) (.k (.v (.c (.int .i64 9))))), .s (.mv 13 (.t 15))]) (.cond (.t 13) (.skip) (.reg [.s (.bin 16 .eql (.t 4) (.k (.v (.c (.int .i64 12))))), .s (.mv 13 (.t 16))]))))) (.cond (.t 13) (.seq (.reg [.s (.mv 2 (.k (.v (.c (.str ⟨#[82, 65]⟩))))), .s (.mv 3 (.k (.v (.c .tt))))]) (.ret)) (.seq (.reg [.s (.bin 18 .eql (.t 4) (.k (.v (.c (.int .i64 6))))), .s (.mv 17 (.t 18))]) (.cond (.t 17) (.seq (.reg [.s (.mv 2 (.k (.v (.c (.str ⟨#[82, 65, 66, 78]⟩))))), .s (.mv 3 (.k (.v (.c .tt))))]) (.ret)) (.seq (.reg [.s (.bin 20 .eql (.t 4) (.k (.v (.c (.int .i64 10))))), .s (.mv 19 (.t 20))]) (.cond (.t 19) (.seq (.reg [.s (.mv 2 (.k (.v (.c (.str ⟨#[82, 65, 78]⟩))))), .s (.mv 3 (.k (.v (.c .tt))))]) (.ret)) (.seq (.reg [.s (.bin 22 .eql (.t 4) (.k (.v (.c (.int .i64 11))))), .s (.mv 21 (.t 22))]) (.cond (.t 21) (.seq (.reg [.s (.mv 2 (.k (.v (.c (.str ⟨#[65, 66, 78]⟩))))), .s (.mv 3 (.k (.v (.c .tt))))]) (.ret)) (.seq (.reg [.s (.bin 24 .eql (.t 4) (.k (.v (.c (.int .i64 13))))), .s (.mv 23 (.t 24))]) (.cond (.t 23) (.seq (.reg [.s (.mv 2 (.k (.v (.c (.str ⟨#[65, 78]⟩))))), .s (.mv 3 (.k (.v (.c .tt))))]) (.ret)) (.seq (.reg [.s (.bin 26 .eql (.t 4) (.k (.v (.c (.int .i64 14))))), .s (.mv 25 (.t 26))]) (.cond (.t 25) (.seq (.reg [.s (.mv 2 (.k (.v (.c (.str ⟨#[65]⟩))))), .s (.mv 3 (.k (.v (.c .tt))))]) (.ret)) (.seq (.reg [.s (.bin 28 .eql (.t 4) (.k (.v (.c (.int .i64 15))))), .s (.mv 27 (.t 28))]) (.cond (.t 27) (.seq (.reg [.s (.mv 2 (.k (.v (.c (.str ⟨#[]⟩))))), .s (.mv 3 (.k (.v (.c .tt))))]) (.ret)) (.skip))))))))))))))))))))) (.seq (.reg [.s (.mv 2 (.k (.v (.c (.str ⟨#[]⟩))))), .s (.mv 3 (.k (.v (.c .ff))))]) (.ret)))⟩
def c_impl_formOf : Fun := ⟨40, [], fun ts K => as1 ts fun t0 => arC (pI .i64) t0 fun op => K (.tup [.c (.str (formS op)), .c (.bool (inR op 1 15))]) []⟩
theorem run_impl_formOf (op : Int) : runK [] (0) [] pf_impl_formOf [tI .i64 op] fun r o => r = .tup [.c (.str (formS op)), .c (.bool (inR op 1 15))] ∧ o = [] := by
  conv => whnf
  repeat' (first | (refine sel_i (fun h => ?_) (fun h => ?_) <;> conv => whnf) | (refine chk_c ?_ ?_ <;> conv => whnf) | (refine And.intro ?_ rfl) | (refine And.intro ?_ ?_ <;> conv => whnf))
  all_goals (simp only [beq_iff_eq, beq_eq_false_iff_ne, ne_eq] at *)
  all_goals first
    | (subst h; rfl)
    | (exfalso; omega)
    | (have e1 : inR op 1 15 = false := inR_f.2 (by omega)
       have e2 : formS op = ⟨#[]⟩ := by simp only [formS, *, if_false, or_self]
       rw [e1, e2])
    | trace_state
theorem ok_impl_formOf : FunOk Try.prog c_impl_formOf := funOk (E := []) (envOk_nil) mixd Try.func40 (pf := pf_impl_formOf) (by kernel_rfl) fun ts K h => by
  obtain ⟨t0, e0, h⟩ := as1_out h
  subst e0
  obtain ⟨op, e1, hq⟩ := arC_out (rd_int .i64) h
  clear h
  subst e1
  have h := hq
  clear hq
  exact ⟨_, _, h, Nat.le_of_ble_eq_true (show Nat.ble 1 Try.f40.ntmps = true by kernel_rfl), _, run_impl_formOf op⟩

def pf_impl_partOf : PF := ⟨[.t 4], .seq (.reg [.s (.box 2 (.t 0)), .s (.mv 4 (.k (.v (.c (.int .i64 0)))))]) (.seq (.seq (.reg [.s (.mv 5 (.t 1))]) (.blk 0 (.seq (.reg [.s (.bin 7 .eql (.t 5) (.k (.v (.c (.int .u8 82))))), .s (.mv 6 (.t 7))]) (.cond (.t 6) (.seq (.reg [.s (.fa 8 (.t 2) 1), .s (.load 9 false 1 (.t 8)), .s (.mv 4 (.t 9))]) (.ret)) (.seq (.reg [.s (.bin 11 .eql (.t 5) (.k (.v (.c (.int .u8 65))))), .s (.mv 10 (.t 11))]) (.cond (.t 10) (.seq (.reg [.s (.fa 12 (.t 2) 2), .s (.load 13 false 1 (.t 12)), .s (.mv 4 (.t 13))]) (.ret)) (.seq (.reg [.s (.bin 15 .eql (.t 5) (.k (.v (.c (.int .u8 66))))), .s (.mv 14 (.t 15))]) (.cond (.t 14) (.seq (.reg [.s (.fa 16 (.t 2) 3), .s (.load 17 false 1 (.t 16)), .s (.mv 4 (.t 17))]) (.ret)) (.skip))))))))) (.seq (.reg [.s (.fa 18 (.t 2) 4), .s (.load 19 false 1 (.t 18)), .s (.mv 4 (.t 19))]) (.ret)))⟩
def c_impl_partOf : Fun := ⟨41, [], fun ts K => as2 ts fun t0 t1 => arG pInstT t0 fun x => arC (pI .u8) t1 fun c => K (tN (partI x c)) []⟩
theorem run_impl_partOf (x : Inst) (c : Int) : runK [] (0) [] pf_impl_partOf [tG (x.tc []), tI .u8 c] fun r o => r = tN (partI x c) ∧ o = [] := by
  conv => whnf
  repeat' (first | (refine sel_i (fun h => ?_) (fun h => ?_) <;> conv => whnf) | (refine chk_c ?_ ?_ <;> conv => whnf) | (refine And.intro ?_ rfl) | (refine And.intro ?_ ?_ <;> conv => whnf))
  all_goals (simp_all [partI]; done)
theorem ok_impl_partOf : FunOk Try.prog c_impl_partOf := funOk (E := []) (envOk_nil) mixd Try.func41 (pf := pf_impl_partOf) (by kernel_rfl) fun ts K h => by
  obtain ⟨t0, t1, e0, h⟩ := as2_out h
  subst e0
  obtain ⟨x, e1, hq⟩ := arG_out rd_inst h
  clear h
  subst e1
  have h := hq
  clear hq
  obtain ⟨c, e1, hq⟩ := arC_out (rd_int .u8) h
  clear h
  subst e1
  have h := hq
  clear hq
  exact ⟨_, _, h, Nat.le_of_ble_eq_true (show Nat.ble 2 Try.f41.ntmps = true by kernel_rfl), _, run_impl_partOf x c⟩

def pf_impl_hasPart : PF := ⟨[.t 4], .seq (.reg [.s (.box 2 (.t 0)), .s (.mv 4 (.k (.v (.c .ff))))]) (.seq (.reg [.s (.fa 8 (.t 2) 0), .s (.load 9 false 1 (.t 8)), .s (.call (some 10) 40 [(.t 9)]), .s (.mv 7 (.t 10)), .s (.ext 11 (.t 7) 0), .s (.ext 12 (.t 7) 1), .s (.mv 5 (.t 11)), .s (.mv 6 (.t 12))]) (.seq (.reg [.s (.mv 13 (.t 5)), .s (.s2b 14 (.t 13)), .s (.mv 15 (.t 1)), .s (.call (some 16) 48 [(.t 14), (.t 15)]), .s (.mv 4 (.t 16))]) (.ret)))⟩
def c_impl_hasPart : Fun := ⟨42, [], fun ts K => as2 ts fun t0 t1 => arG pInstT t0 fun x => arC (pI .u8) t1 fun c => K (tB (hasC x.op c)) []⟩
theorem run_impl_hasPart (x : Inst) (c : Int) : runK [c_impl_formOf, c_slices_Contains_byte] (0) [] pf_impl_hasPart [tG (x.tc []), tI .u8 c] fun r o => r = tB (hasC x.op c) ∧ o = [] := by
  have hl := formS_len x.op
  conv => whnf
  repeat' (first | (refine sel_i (fun h => ?_) (fun h => ?_) <;> conv => whnf) | (refine chk_c ?_ ?_ <;> conv => whnf) | (refine And.intro ?_ rfl) | (refine And.intro ?_ ?_ <;> conv => whnf))
  all_goals first | rfl | (refine ⟨?_⟩; omega) | trace_state
theorem ok_impl_hasPart : FunOk Try.prog c_impl_hasPart := funOk (E := [c_impl_formOf, c_slices_Contains_byte]) (envOk_cons ok_impl_formOf (envOk_cons ok_slices_Contains_byte (envOk_nil))) mixd Try.func42 (pf := pf_impl_hasPart) (by kernel_rfl) fun ts K h => by
  obtain ⟨t0, t1, e0, h⟩ := as2_out h
  subst e0
  obtain ⟨x, e1, hq⟩ := arG_out rd_inst h
  clear h
  subst e1
  have h := hq
  clear hq
  obtain ⟨c, e1, hq⟩ := arC_out (rd_int .u8) h
  clear h
  subst e1
  have h := hq
  clear hq
  exact ⟨_, _, h, Nat.le_of_ble_eq_true (show Nat.ble 2 Try.f42.ntmps = true by kernel_rfl), _, run_impl_hasPart x c⟩

def pf_spec_l6Has : PF := ⟨[.t 2], .seq (.reg [.s (.mv 2 (.k (.v (.c (.int .i64 0)))))]) (.seq (.seq (.reg [.s (.mv 3 (.t 0)), .s (.call (some 4) 27 [(.t 3), (.k (.v (.c (.int .i64 1)))), (.k (.v (.c (.int .i64 15))))]), .s (.bnot 5 (.t 4))]) (.cond (.t 5) (.seq (.reg [.s (.mv 2 (.k (.v (.c (.int .i64 0)))))]) (.ret)) (.skip))) (.seq (.reg [.s (.bs 6 (.int .i64) [(.k (.v (.c (.int .i64 0)))), (.k (.v (.c (.int .i64 9)))), (.k (.v (.c (.int .i64 7)))), (.k (.v (.c (.int .i64 3)))), (.k (.v (.c (.int .i64 7)))), (.k (.v (.c (.int .i64 7)))), (.k (.v (.c (.int .i64 15)))), (.k (.v (.c (.int .i64 7)))), (.k (.v (.c (.int .i64 7)))), (.k (.v (.c (.int .i64 3)))), (.k (.v (.c (.int .i64 11)))), (.k (.v (.c (.int .i64 14)))), (.k (.v (.c (.int .i64 3)))), (.k (.v (.c (.int .i64 10)))), (.k (.v (.c (.int .i64 2)))), (.k (.v (.c (.int .i64 0))))]), .s (.mv 7 (.t 0)), .s (.ia 8 (.int .i64) (.t 6) (.t 7)), .s (.load 9 false 1 (.t 8)), .s (.mv 2 (.t 9))]) (.ret)))⟩
def c_spec_l6Has : Fun := ⟨37, [], fun ts K => as1 ts fun t0 => arC (pI .i64) t0 fun op => K (tN (maskI op)) []⟩
theorem run_spec_l6Has (op : Int) : runK [c_spec_l1In] (0) [] pf_spec_l6Has [tI .i64 op] fun r o => r = tN (maskI op) ∧ o = [] := by
  conv => whnf
  repeat' (first | (refine sel_i (fun h => ?_) (fun h => ?_) <;> conv => whnf) | (refine chk_c ?_ ?_ <;> conv => whnf) | (refine And.intro ?_ rfl) | (refine And.intro ?_ ?_ <;> conv => whnf))
  all_goals (try simp only [inR_t, inR_f, Bool.not_eq_true', Bool.not_eq_false'] at *)
  all_goals first
    | (refine ⟨?_⟩; show _ ≤ _ ∧ _ < (16 : Int); omega)
    | (refine ⟨?_⟩; show op.toNat < 16; omega)
    | (rw [show maskI op = 0 by unfold maskI; rw [if_neg (by rw [inR_t]; omega)]])
    | (unfold maskI; rw [if_pos (by rw [inR_t]; omega)]; rfl)
    | trace_state
theorem ok_spec_l6Has : FunOk Try.prog c_spec_l6Has := funOk (E := [c_spec_l1In]) (envOk_cons ok_spec_l1In (envOk_nil)) mixd Try.func37 (pf := pf_spec_l6Has) (by kernel_rfl) fun ts K h => by
  obtain ⟨t0, e0, h⟩ := as1_out h
  subst e0
  obtain ⟨op, e1, hq⟩ := arC_out (rd_int .i64) h
  clear h
  subst e1
  have h := hq
  clear hq
  exact ⟨_, _, h, Nat.le_of_ble_eq_true (show Nat.ble 1 Try.f37.ntmps = true by kernel_rfl), _, run_spec_l6Has op⟩

def pf_spec_l6Field : PF := ⟨[.t 4], .seq (.reg [.s (.mv 4 (.k (.v (.c .ff))))]) (.seq (.reg [.s (.mv 5 (.t 0)), .s (.call (some 6) 27 [(.t 5), (.k (.v (.c (.int .i64 0)))), (.k (.v (.c (.int .i64 7))))]), .s (.mv 7 (.t 6)), .g 7 true (some 8) (.mv 8 (.t 1)), .g 7 true (some 9) (.mv 9 (.t 8)), .g 9 false (some 10) (.mv 10 (.t 0)), .g 9 false (some 11) (.bin 11 .eql (.t 10) (.k (.v (.c (.int .i64 0))))), .g 7 true (some 12) (.pick 12 (.t 9) (.k (.v (.c .tt))) (.t 11)), .s (.pick 13 (.t 7) (.t 12) (.k (.v (.c .ff)))), .s (.mv 4 (.t 13))]) (.ret))⟩
def c_spec_l6Field : Fun := ⟨38, [], fun ts K => as2 ts fun t0 t1 => arC (pI .i64) t0 fun v => arC pB t1 fun b => K (tB (fld v b)) []⟩
theorem run_spec_l6Field (v : Int) (b : Bool) : runK [c_spec_l1In] (0) [] pf_spec_l6Field [tI .i64 v, tB b] fun r o => r = tB (fld v b) ∧ o = [] := by
  conv => whnf
  repeat' (first | (refine sel_i (fun h => ?_) (fun h => ?_) <;> conv => whnf) | (refine chk_c ?_ ?_ <;> conv => whnf) | (refine And.intro ?_ rfl) | (refine And.intro ?_ ?_ <;> conv => whnf))
  all_goals (simp_all [fld]; done)
theorem ok_spec_l6Field : FunOk Try.prog c_spec_l6Field := funOk (E := [c_spec_l1In]) (envOk_cons ok_spec_l1In (envOk_nil)) mixd Try.func38 (pf := pf_spec_l6Field) (by kernel_rfl) fun ts K h => by
  obtain ⟨t0, t1, e0, h⟩ := as2_out h
  subst e0
  obtain ⟨v, e1, hq⟩ := arC_out (rd_int .i64) h
  clear h
  subst e1
  have h := hq
  clear hq
  obtain ⟨b, e1, hq⟩ := arC_out rd_b h
  clear h
  subst e1
  have h := hq
  clear hq
  exact ⟨_, _, h, Nat.le_of_ble_eq_true (show Nat.ble 2 Try.f38.ntmps = true by kernel_rfl), _, run_spec_l6Field v b⟩

def pf_spec_InsOk : PF := ⟨[.t 2], .seq (.reg [.s (.box 1 (.t 0)), .s (.mv 2 (.k (.v (.c .ff))))]) (.seq (.reg [.s (.fa 4 (.t 1) 0), .s (.load 5 false 1 (.t 4)), .s (.call (some 6) 37 [(.t 5)]), .s (.mv 3 (.t 6))]) (.seq (.reg [.s (.fa 7 (.t 1) 0), .s (.load 8 false 1 (.t 7)), .s (.call (some 9) 27 [(.t 8), (.k (.v (.c (.int .i64 1)))), (.k (.v (.c (.int .i64 15))))]), .s (.mv 10 (.t 9)), .g 10 true (some 11) (.fa 11 (.t 1) 1), .g 10 true (some 12) (.load 12 false 1 (.t 11)), .g 10 true (some 13) (.mv 13 (.t 3)), .g 10 true (some 14) (.bin 14 .and (.t 13) (.k (.v (.c (.int .i64 1))))), .g 10 true (some 15) (.bin 15 .neq (.t 14) (.k (.v (.c (.int .i64 0))))), .g 10 true (some 16) (.call (some 16) 38 [(.t 12), (.t 15)]), .s (.pick 17 (.t 10) (.t 16) (.k (.v (.c .ff)))), .s (.mv 18 (.t 17)), .g 18 true (some 19) (.fa 19 (.t 1) 2), .g 18 true (some 20) (.load 20 false 1 (.t 19)), .g 18 true (some 21) (.mv 21 (.t 3)), .g 18 true (some 22) (.bin 22 .and (.t 21) (.k (.v (.c (.int .i64 2))))), .g 18 true (some 23) (.bin 23 .neq (.t 22) (.k (.v (.c (.int .i64 0))))), .g 18 true (some 24) (.call (some 24) 38 [(.t 20), (.t 23)]), .s (.pick 25 (.t 18) (.t 24) (.k (.v (.c .ff)))), .s (.mv 26 (.t 25)), .g 26 true (some 27) (.fa 27 (.t 1) 3), .g 26 true (some 28) (.load 28 false 1 (.t 27)), .g 26 true (some 29) (.mv 29 (.t 3)), .g 26 true (some 30) (.bin 30 .and (.t 29) (.k (.v (.c (.int .i64 4))))), .g 26 true (some 31) (.bin 31 .neq (.t 30) (.k (.v (.c (.int .i64 0))))), .g 26 true (some 32) (.call (some 32) 38 [(.t 28), (.t 31)]), .s (.pick 33 (.t 26) (.t 32) (.k (.v (.c .ff)))), .s (.mv 34 (.t 33)), .g 34 true (some 35) (.fa 35 (.t 1) 4), .g 34 true (some 36) (.load 36 false 1 (.t 35)), .g 34 true (some 37) (.call (some 37) 27 [(.t 36), (.k (.v (.c (.int .i64 (-128))))), (.k (.v (.c (.int .i64 127))))]), .s (.pick 38 (.t 34) (.t 37) (.k (.v (.c .ff)))), .s (.mv 39 (.t 38)), .g 39 true (some 40) (.mv 40 (.t 3)), .g 39 true (some 41) (.bin 41 .and (.t 40) (.k (.v (.c (.int .i64 8))))), .g 39 true (some 42) (.bin 42 .neq (.t 41) (.k (.v (.c (.int .i64 0))))), .g 39 true (some 43) (.mv 43 (.t 42)), .g 43 false (some 44) (.fa 44 (.t 1) 4), .g 43 false (some 45) (.load 45 false 1 (.t 44)), .g 43 false (some 46) (.bin 46 .eql (.t 45) (.k (.v (.c (.int .i64 0))))), .g 39 true (some 47) (.pick 47 (.t 43) (.k (.v (.c .tt))) (.t 46)), .s (.pick 48 (.t 39) (.t 47) (.k (.v (.c .ff)))), .s (.mv 2 (.t 48))]) (.ret)))⟩
def c_spec_InsOk : Fun := ⟨26, [], fun ts K => as1 ts fun t0 => arG pInstT t0 fun x => K (tB (insOk x)) []⟩
theorem run_spec_InsOk (x : Inst) : runK [c_spec_l1In, c_spec_l6Has, c_spec_l6Field] (0) [] pf_spec_InsOk [tG (x.tc [])] fun r o => r = tB (insOk x) ∧ o = [] := by
  conv => whnf
  repeat' (first | (refine sel_i (fun h => ?_) (fun h => ?_) <;> conv => whnf) | (refine chk_c ?_ ?_ <;> conv => whnf) | (refine And.intro ?_ rfl) | (refine And.intro ?_ ?_ <;> conv => whnf))
  all_goals (try simp only [andI_eq] at *)
  all_goals (simp only [insOk, *, Bool.true_and, Bool.false_and, Bool.and_true, Bool.and_false, Bool.or_true, Bool.true_or, Bool.false_or]; first | done | trace_state)
theorem ok_spec_InsOk : FunOk Try.prog c_spec_InsOk := funOk (E := [c_spec_l1In, c_spec_l6Has, c_spec_l6Field]) (envOk_cons ok_spec_l1In (envOk_cons ok_spec_l6Has (envOk_cons ok_spec_l6Field (envOk_nil)))) mixd Try.func26 (pf := pf_spec_InsOk) (by kernel_rfl) fun ts K h => by
  obtain ⟨t0, e0, h⟩ := as1_out h
  subst e0
  obtain ⟨x, e1, hq⟩ := arG_out rd_inst h
  clear h
  subst e1
  have h := hq
  clear hq
  exact ⟨_, _, h, Nat.le_of_ble_eq_true (show Nat.ble 1 Try.f26.ntmps = true by kernel_rfl), _, run_spec_InsOk x⟩

def lb_impl_InsOk_0 : PC := .seq (.reg [.s (.bin 18 .lss (.t 17) (.t 16))]) (.seq (.cond (.t 18) (.skip) (.exit 0)) (.seq (.blk 1 (.seq (.reg [.s (.ia 19 (.int .u8) (.t 15) (.t 17)), .s (.load 20 false 1 (.t 19)), .s (.mv 6 (.t 20))]) (.seq (.reg [.s (.load 21 true 5 (.t 1)), .s (.mv 22 (.t 6)), .s (.call (some 23) 41 [(.t 21), (.t 22)]), .s (.mv 7 (.t 23))]) (.blk 2 (.seq (.reg [.s (.load 30 true 5 (.t 1)), .s (.mv 31 (.t 6)), .s (.call (some 32) 42 [(.t 30), (.t 31)]), .s (.bnot 33 (.t 32)), .s (.mv 29 (.t 33))]) (.cond (.t 29) (.reg [.s (.mv 34 (.t 4)), .s (.mv 35 (.t 34)), .g 35 true (some 36) (.mv 36 (.t 7)), .g 35 true (some 37) (.bin 37 .eql (.t 36) (.k (.v (.c (.int .i64 0))))), .s (.pick 38 (.t 35) (.t 37) (.k (.v (.c .ff)))), .s (.mv 4 (.t 38))]) (.seq (.reg [.s (.mv 40 (.t 6)), .s (.bin 41 .eql (.t 40) (.k (.v (.c (.int .u8 78))))), .s (.mv 39 (.t 41))]) (.cond (.t 39) (.reg [.s (.mv 42 (.t 4)), .s (.mv 43 (.t 42)), .g 43 true (some 44) (.mv 44 (.t 7)), .g 43 true (some 45) (.call (some 45) 30 [(.t 44), (.k (.v (.c (.int .i64 (-128))))), (.k (.v (.c (.int .i64 127))))]), .s (.pick 46 (.t 43) (.t 45) (.k (.v (.c .ff)))), .s (.mv 4 (.t 46))]) (.reg [.s (.mv 24 (.t 4)), .s (.mv 25 (.t 24)), .g 25 true (some 26) (.mv 26 (.t 7)), .g 25 true (some 27) (.call (some 27) 30 [(.t 26), (.k (.v (.c (.int .i64 0)))), (.k (.v (.c (.int .i64 7))))]), .s (.pick 28 (.t 25) (.t 27) (.k (.v (.c .ff)))), .s (.mv 4 (.t 28))]))))))))) (.reg [.s (.bin 47 .add (.t 17) (.k (.v (.c (.int .i64 1))))), .s (.mv 17 (.t 47))])))
def pf_impl_InsOk : PF := ⟨[.t 2], .seq (.reg [.s (.box 1 (.t 0)), .s (.mv 2 (.k (.v (.c .ff))))]) (.seq (.reg [.s (.fa 9 (.t 1) 0), .s (.load 10 false 1 (.t 9)), .s (.call (some 11) 40 [(.t 10)]), .s (.mv 8 (.t 11)), .s (.ext 12 (.t 8) 0), .s (.ext 13 (.t 8) 1), .s (.mv 3 (.t 12)), .s (.mv 4 (.t 13))]) (.seq (.seq (.reg [.s (.bs 14 (.int .u8) [(.k (.v (.c (.int .u8 82)))), (.k (.v (.c (.int .u8 65)))), (.k (.v (.c (.int .u8 66)))), (.k (.v (.c (.int .u8 78))))]), .s (.stri 15 (.t 14)), .s (.len 16 false (.t 15)), .s (.mv 17 (.k (.v (.c (.int .i64 0)))))]) (.blk 0 (.loop [1, 4, 15, 16, 17] lb_impl_InsOk_0))) (.seq (.reg [.s (.mv 48 (.t 4)), .s (.mv 2 (.t 48))]) (.ret))))⟩
def c_impl_InsOk : Fun := ⟨33, [], fun ts K => as1 ts fun t0 => arG pInstT t0 fun x => K (tB (insOk x)) []⟩
theorem run_impl_InsOk (x : Inst) : runK [c_impl_in, c_impl_formOf, c_impl_partOf, c_impl_hasPart] (6) [] pf_impl_InsOk [tG (x.tc [])] fun r o => r = tB (insOk x) ∧ o = [] := by
  rw [← insOk_eq]
  conv => whnf
  refine chk_i (by decide) ?_
  conv => whnf
  refine loop (α := Nat × Option Bool) (fun q => ⟨[(1, .v (.c (.ptr 0 0))), (4, .v (.c (okC q.2))), (15, .v (.c (.sl true (.int .u8) 1))), (16, .v (.c (.int .i64 (([82, 65, 66, 78] : List Int).length : Int)))), (17, .v (.c (.int .i64 (q.1 : Int))))],
        [(1, some (.flat true (.int .u8) none [82, 65, 66, 78])), (0, some (.box true [.int .i64 x.op, .int .i64 x.r, .int .i64 x.a, .int .i64 x.b, .int .i64 x.n]))], nums.tail.tail, [], false, []⟩)
      (fun q => q.1 ≤ 4 ∧ okV q.2 = (inR x.op 1 15 && allR (fun j => partOkI x (lettI j)) q.1)) (fun q => 4 - q.1) (fun q R hI hR => ?_) (0, some (inR x.op 1 15)) _ ⟨by simp, by simp [okV, allR]⟩ (by dsimp only; omega)
  obtain ⟨i, o⟩ := q
  obtain ⟨hi, hx⟩ := hI
  dsimp only at hi hx
  dsimp only
  have hl4 : (([82, 65, 66, 78] : List Int).length : Int) = 4 := rfl
  have hg : ([82, 65, 66, 78] : List Int).getD ((i : Int)).toNat (FT.zero (.int .u8)) = lettI i := rfl
  conv => whnf
  refine sel_i (fun h => ?_) (fun h => ?_)
  · have hlt : i < 4 := by rw [hl4] at h; simp at h; omega
    clear h
    have hs := allR_succ (fun j => partOkI x (lettI j)) i
    cases o
    all_goals (dsimp only [okC, okV] at *)
    all_goals conv => whnf
    all_goals repeat' (first | (refine sel_i (fun h => ?_) (fun h => ?_) <;> conv => whnf) | (refine chk_c ?_ ?_ <;> conv => whnf) | (refine And.intro ?_ rfl) | (refine And.intro ?_ ?_ <;> conv => whnf))
    all_goals (try simp only [hg, hl4, etaInst, Bool.not_eq_true', Bool.not_eq_false'] at *)
    all_goals first
      | (refine ⟨?_⟩; omega)
      | (refine ⟨?_⟩; exact hlt)
      | (rw [wrap_id (n := (i : Int) + 1) (by omega) (by omega)]
         exact hR (i + 1, none) ⟨by dsimp only; omega, by dsimp only [okV]; rw [hs, ← Bool.and_assoc, ← hx]; clear hx hs hR; simp [partOkI, *]⟩ (by dsimp only; omega))
      | (rw [wrap_id (n := (i : Int) + 1) (by omega) (by omega)]
         exact hR (i + 1, some _) ⟨by dsimp only; omega, by dsimp only [okV]; rw [hs, ← Bool.and_assoc, ← hx]; clear hx hs hR; simp [partOkI, *]⟩ (by dsimp only; omega))
      | trace_state
  · have e : i = 4 := by rw [hl4] at h; simp at h; omega
    subst e
    rw [← hx]
    cases o <;> (conv => whnf) <;> exact ⟨rfl, rfl⟩
theorem ok_impl_InsOk : FunOk Try.prog c_impl_InsOk := funOk (E := [c_impl_in, c_impl_formOf, c_impl_partOf, c_impl_hasPart]) (envOk_cons ok_impl_in (envOk_cons ok_impl_formOf (envOk_cons ok_impl_partOf (envOk_cons ok_impl_hasPart (envOk_nil))))) mixd Try.func33 (pf := pf_impl_InsOk) (by kernel_rfl) fun ts K h => by
  obtain ⟨t0, e0, h⟩ := as1_out h
  subst e0
  obtain ⟨x, e1, hq⟩ := arG_out rd_inst h
  clear h
  subst e1
  have h := hq
  clear hq
  exact ⟨_, _, h, Nat.le_of_ble_eq_true (show Nat.ble 1 Try.f33.ntmps = true by kernel_rfl), _, run_impl_InsOk x⟩

abbrev zW : Word := ⟨0, false, ⟨0, 0, 0, 0⟩⟩
abbrev zI : Inst := ⟨0, 0, 0, 0, 0⟩
def readC (m : Mem) (y : Word) (n : Int) : Int := if tryW y n 1 ≠ 0 then tryW y n 1 else if inR n 0 (m.words.length - 1) then 0 else 4
def readM (m : Mem) (y : Word) (n : Int) : Word × Int := if readC m y n ≠ 0 then (zW, readC m y n) else (filterW m.gone (takenW y (m.words.getD n.toNat (FT.zero .word))), 0)
def writeC (m : Mem) (y : Word) (n : Int) (w : Word) : Int := if tryW y n 2 ≠ 0 then tryW y n 2 else if inR n 0 (m.words.length - 1) = false then 4 else if mayPut y w = false then 3 else 0
def fetchI (l : List Inst) (pc : Word) : Inst × Int := if tryW pc pc.n 4 ≠ 0 then (zI, tryW pc pc.n 4) else if inR pc.n 0 (l.length - 1) = false ∨ insOk (l.getD pc.n.toNat (FT.zero .inst)) = false then (zI, 4) else (l.getD pc.n.toNat (FT.zero .inst), 0)
def trapE (c : Int) (pc : Word) : Eff := ⟨c, -1, zW, pc, -1, zW, -1⟩
def madeW (x : Inst) (a b got : Word) : Word :=
  if x.op = 1 then plainW x.n else if x.op = 2 then plainW (IntKind.i64.wrap (a.n + b.n)) else if x.op = 3 then a else if x.op = 4 then weakenW a b.n else if x.op = 5 then narrowW a b.n else
  if x.op = 6 then pointW a (IntKind.i64.wrap (IntKind.i64.wrap (a.n + b.n) + x.n)) else if x.op = 7 then sealBy a b else if x.op = 8 then openBy a b else if x.op = 9 then (if a.is then plainW 1 else plainW 0) else got
def nextW (pc : Word) : Word := pointW pc (IntKind.i64.wrap (pc.n + 1))
def workE (x : Inst) (pc a b got : Word) : Eff :=
  if x.op = 11 then ⟨0, -1, zW, nextW pc, IntKind.i64.wrap (a.n + x.n), b, -1⟩ else
  if x.op = 12 then (if tryW a a.n 4 ≠ 0 then trapE (tryW a a.n 4) pc else ⟨0, x.r, nextW pc, a, -1, zW, -1⟩) else
  if x.op = 13 then ⟨0, -1, zW, if a.n = 0 then pointW pc (IntKind.i64.wrap (pc.n + x.n)) else nextW pc, -1, zW, -1⟩ else
  if x.op = 14 then (if tryW a a.n 32 ≠ 0 then trapE (tryW a a.n 32) pc else ⟨0, -1, zW, nextW pc, -1, zW, a.key.base⟩) else
  if x.op = 15 then trapE 5 pc else
  if hasC x.op 82 then ⟨0, x.r, if 0 ≤ x.r then madeW x a b got else zW, nextW pc, -1, zW, -1⟩ else ⟨0, -1, zW, nextW pc, -1, zW, -1⟩



def memE (m : Mem) (x : Inst) (a b : Word) : Word × Int :=
  if x.op = 10 then readM m a (IntKind.i64.wrap (a.n + x.n)) else if x.op = 11 then (zW, writeC m a (IntKind.i64.wrap (a.n + x.n)) b) else (zW, 0)
def effE (l : List Inst) (s : State) : Eff :=
  let x := (fetchI l s.pc).1
  let a := s.regs.getD x.a.toNat (FT.zero .word)
  let b := s.regs.getD x.b.toNat (FT.zero .word)
  if (fetchI l s.pc).2 ≠ 0 then trapE (fetchI l s.pc).2 s.pc else
  if (memE s.mem x a b).2 ≠ 0 then trapE (memE s.mem x a b).2 s.pc else workE x s.pc a b (memE s.mem x a b).1
def putE (s : State) (e : Eff) : State :=
  ⟨if inR e.r 0 7 then s.regs.set e.r.toNat e.val else s.regs, e.next,
   ⟨if inR e.addr 0 23 then s.mem.words.set e.addr.toNat e.put else s.mem.words, if inR e.drop 0 23 then s.mem.gone.set e.drop.toNat true else s.mem.gone⟩, s.trap⟩
abbrev zState : State := ⟨[], zW, ⟨[], []⟩, 0⟩
def stepS (l : List Inst) (s : State) : State :=
  if stateOk s = false then zState else if s.trap ≠ 0 then s else if (effE l s).trap ≠ 0 then ⟨s.regs, s.pc, s.mem, (effE l s).trap⟩ else putE s (effE l s)
def LenOk (s : State) : Prop := s.regs.length = 8 ∧ s.mem.words.length = 24 ∧ s.mem.gone.length = 24
theorem LenOk.l {s : State} (h : LenOk s) : LState s 2147483647 := by
  obtain ⟨h1, h2, h3⟩ := h; exact ⟨by omega, by omega, by omega⟩
theorem fld_in {v : Int} {b : Bool} (h : fld v b = true) : 0 ≤ v ∧ v ≤ 7 := by
  simp only [fld, Bool.and_eq_true, inR_t] at h; exact h.1
theorem fetchI_ok {l : List Inst} {pc : Word} (h : (fetchI l pc).2 = 0) : insOk (fetchI l pc).1 = true := by
  unfold fetchI at h ⊢
  split at h
  · contradiction
  · rename_i h1
    rw [if_neg h1]
    split at h
    · cases h
    · rename_i h2
      rw [if_neg h2]
      cases e : insOk (l.getD pc.n.toNat (FT.zero .inst)) with
      | true => rfl
      | false => exact absurd (.inr e) h2
theorem memE_10 {m : Mem} {x : Inst} {a b : Word} (h : x.op = 10) : memE m x a b = readM m a (IntKind.i64.wrap (a.n + x.n)) := if_pos h
theorem memE_11 {m : Mem} {x : Inst} {a b : Word} (h0 : ¬ x.op = 10) (h : x.op = 11) : memE m x a b = (zW, writeC m a (IntKind.i64.wrap (a.n + x.n)) b) := by unfold memE; rw [if_neg h0, if_pos h]
theorem memE_x {m : Mem} {x : Inst} {a b : Word} (h0 : ¬ x.op = 10) (h : ¬ x.op = 11) : memE m x a b = (zW, 0) := by unfold memE; rw [if_neg h0, if_neg h]

theorem stepS_trap {l : List Inst} {s : State} (h : stateOk s = true) (h2 : ¬ s.trap = 0) : stepS l s = s := by
  unfold stepS; rw [if_neg (by rw [h]; decide), if_pos h2]
theorem stepS_e {l : List Inst} {s : State} (h : stateOk s = true) (h2 : s.trap = 0) (h3 : ¬ (effE l s).trap = 0) : stepS l s = ⟨s.regs, s.pc, s.mem, (effE l s).trap⟩ := by
  unfold stepS; rw [if_neg (by rw [h]; decide), if_neg (by simpa using h2), if_pos h3]
theorem stepS_0 {l : List Inst} {s : State} (h : stateOk s = true) (h2 : s.trap = 0) (h3 : (effE l s).trap = 0) : stepS l s = putE s (effE l s) := by
  unfold stepS; rw [if_neg (by rw [h]; decide), if_neg (by simpa using h2), if_neg (by simpa using h3)]

def pf_laws_toIns : PF := ⟨[.c 2 true 5], .seq (.reg [.s (.box 1 (.t 0)), .s (.alloc 2 [.int .i64 0, .int .i64 0, .int .i64 0, .int .i64 0, .int .i64 0])]) (.seq (.reg [.s (.alloc 3 [.int .i64 0, .int .i64 0, .int .i64 0, .int .i64 0, .int .i64 0])]) (.seq (.reg [.s (.fa 4 (.t 1) 0), .s (.load 5 false 1 (.t 4)), .s (.fa 6 (.t 3) 0), .s (.store 1 (.t 6) (.t 5))]) (.seq (.reg [.s (.fa 7 (.t 1) 1), .s (.load 8 false 1 (.t 7)), .s (.fa 9 (.t 3) 1), .s (.store 1 (.t 9) (.t 8))]) (.seq (.reg [.s (.fa 10 (.t 1) 2), .s (.load 11 false 1 (.t 10)), .s (.fa 12 (.t 3) 2), .s (.store 1 (.t 12) (.t 11))]) (.seq (.reg [.s (.fa 13 (.t 1) 3), .s (.load 14 false 1 (.t 13)), .s (.fa 15 (.t 3) 3), .s (.store 1 (.t 15) (.t 14))]) (.seq (.reg [.s (.fa 16 (.t 1) 4), .s (.load 17 false 1 (.t 16)), .s (.fa 18 (.t 3) 4), .s (.store 1 (.t 18) (.t 17))]) (.seq (.reg [.s (.load 19 true 5 (.t 3)), .s (.store 5 (.t 2) (.t 19))]) (.ret))))))))⟩
def c_laws_toIns : Fun := ⟨21, [], fun ts K => as1 ts fun t0 => arG pInstT t0 fun a => K (tG (a.tc [])) []⟩
theorem run_laws_toIns (a : Inst) : runK [] (0) [] pf_laws_toIns [tG (a.tc [])] fun r o => r = tG (a.tc []) ∧ o = [] := by
  conv => whnf
  repeat' (first
    | exact rfl
    | exact trivial
    | (refine sel_i (fun h => ?_) (fun h => ?_) <;> conv => whnf)
    | (refine chk_c ?_ ?_ <;> conv => whnf)
    | (refine And.intro ?_ ?_ <;> conv => whnf))
theorem ok_laws_toIns : FunOk Try.prog c_laws_toIns := funOk (E := []) (envOk_nil) mixd Try.func21 (pf := pf_laws_toIns) (by kernel_rfl) fun ts K h => by
  obtain ⟨t0, e0, h⟩ := as1_out h
  subst e0
  obtain ⟨a, e1, hq⟩ := arG_out rd_inst h
  clear h
  subst e1
  have h := hq
  clear hq
  exact ⟨_, _, h, Nat.le_of_ble_eq_true (show Nat.ble 1 Try.f21.ntmps = true by kernel_rfl), _, run_laws_toIns a⟩

def pf_laws_szInsS : PF := ⟨[.t 4], .seq (.reg [.s (.mv 4 (.k (.v (.c (.int .i64 0)))))]) (.seq (.reg [.s (.mv 5 (.t 1)), .s (.mv 6 (.t 0)), .s (.len 7 false (.t 6)), .s (.bin 8 .sub (.t 5) (.t 7)), .s (.mv 1 (.t 8))]) (.seq (.seq (.reg [.s (.mv 9 (.t 1)), .s (.bin 10 .lss (.t 9) (.k (.v (.c (.int .i64 0)))))]) (.cond (.t 10) (.seq (.reg [.s (.mv 4 (.k (.v (.c (.int .i64 (-1))))))]) (.ret)) (.skip))) (.seq (.reg [.s (.mv 11 (.t 1)), .s (.mv 4 (.t 11))]) (.ret))))⟩
def c_laws_szInsS : Fun := ⟨5, [], fun ts K => as2 ts fun t0 t1 => arC (pL .inst) t0 fun a => arC (pI .i64) t1 fun k => chk (a.length ≤ 9223372036854775807 ∧ 0 ≤ k ∧ k ≤ 1048576) (K (tN (szr k a.length)) [])⟩
theorem run_laws_szInsS (a : List (FT.Ty .inst)) (k : Int) (hpre : a.length ≤ 9223372036854775807 ∧ 0 ≤ k ∧ k ≤ 1048576) : runK [] (0) [] pf_laws_szInsS [tL false .inst a, tI .i64 k] fun r o => r = tN (szr k a.length) ∧ o = [] := by
  conv => whnf
  rw [wrap_id (by omega) (by omega)]
  refine sel_i (fun h => ?_) (fun h => ?_) <;> conv => whnf
  · refine ⟨?_, rfl⟩; rw [szr_t (by simpa using h)]
  · refine ⟨?_, rfl⟩; rw [szr_f (by simpa using h)]
theorem ok_laws_szInsS : FunOk Try.prog c_laws_szInsS := funOk (E := []) (envOk_nil) mixd Try.func5 (pf := pf_laws_szInsS) (by kernel_rfl) fun ts K h => by
  obtain ⟨t0, t1, e0, h⟩ := as2_out h
  subst e0
  obtain ⟨a, e1, hq⟩ := arC_out (rd_l .inst) h
  clear h
  subst e1
  have h := hq
  clear hq
  obtain ⟨k, e1, hq⟩ := arC_out (rd_int .i64) h
  clear h
  subst e1
  have h := hq
  clear hq
  obtain ⟨hpre, h⟩ := chk_o h
  exact ⟨_, _, h, Nat.le_of_ble_eq_true (show Nat.ble 2 Try.f5.ntmps = true by kernel_rfl), _, run_laws_szInsS a k hpre⟩

def lb_laws_toInsS_0 : PC := .seq (.seq (.reg [.s (.mv 8 (.t 4)), .s (.mv 9 (.t 0)), .s (.len 10 false (.t 9)), .s (.bin 11 .lss (.t 8) (.t 10))]) (.cond (.t 11) (.skip) (.exit 0))) (.seq (.blk 1 (.reg [.s (.mv 14 (.t 3)), .s (.mv 15 (.t 4)), .s (.mv 16 (.t 0)), .s (.mv 17 (.t 4)), .s (.ia 18 .inst (.t 16) (.t 17)), .s (.load 19 true 5 (.t 18)), .s (.call (some 20) 21 [(.t 19)]), .s (.ia 21 .inst (.t 14) (.t 15)), .s (.store 5 (.t 21) (.t 20))])) (.reg [.s (.mv 12 (.t 4)), .s (.bin 13 .add (.t 12) (.k (.v (.c (.int .i64 1))))), .s (.mv 4 (.t 13))]))
def pf_laws_toInsS : PF := ⟨[.t 2], .seq (.reg [.s (.mv 2 (.k (.v (.c (.nils .inst)))))]) (.seq (.reg [.s (.mv 5 (.t 0)), .s (.len 6 false (.t 5)), .s (.mkS 7 .inst (.t 6)), .s (.mv 3 (.t 7))]) (.seq (.seq (.reg [.s (.mv 4 (.k (.v (.c (.int .i64 0)))))]) (.blk 0 (.loop [0, 3, 4] lb_laws_toInsS_0))) (.seq (.reg [.s (.mv 22 (.t 3)), .s (.mv 2 (.t 22))]) (.ret))))⟩
def c_laws_toInsS : Fun := ⟨7, [], fun ts K => as1 ts fun t0 => arC (pL .inst) t0 fun a => chk (a.length ≤ 2147483647) (K (tL true .inst a) [])⟩
theorem run_laws_toInsS (a : List (FT.Ty .inst)) (hpre : a.length ≤ 2147483647) : runK [c_laws_toIns] (a.length + 1) [] pf_laws_toInsS [tL false .inst a] fun r o => r = tL true .inst a ∧ o = [] := by
  conv => whnf
  refine chk_i ⟨by omega, by omega⟩ ?_
  conv => whnf
  refine loop (α := Nat × List (FT.Ty .inst)) (fun p => ⟨[(0, .v (.c (.sl false .inst 0))), (3, .v (.c (.sl true .inst 1))), (4, .v (.c (.int .i64 (p.1 : Int))))], [(1, some (.flat true .inst none p.2)), (0, some (.flat false .inst none a))], nums.tail.tail, [], false, []⟩)
      (fun p => p.1 ≤ a.length ∧ p.2 = a.take p.1 ++ (List.replicate a.length (FT.zero .inst)).drop p.1) (fun p => a.length - p.1) (fun p R hI hR => ?_) (0, List.replicate a.length (FT.zero .inst)) _ ⟨by simp, by simp⟩ (by simp)
  obtain ⟨i, xs⟩ := p
  obtain ⟨hi, hx⟩ := hI
  dsimp only at hi hx
  have hlen : xs.length = a.length := by rw [hx]; simp; omega
  dsimp only
  conv => whnf
  refine sel_i (fun h2 => ?_) (fun h2 => ?_)
  · have hlt : i < a.length := by simp at h2; omega
    have hge : a[i]? = some (a.getD i (FT.zero .inst)) := by simp [List.getD_eq_getElem?_getD, hlt]
    conv => whnf
    repeat' (refine chk_c ?_ ?_ <;> conv => whnf)
    all_goals first
      | (refine ⟨?_⟩; omega)
      | (refine ⟨?_⟩; simp; done)
      | (refine ⟨?_⟩; simp; omega)
      | skip
    simp (disch := omega) only [wrap_id, Int.toNat_natCast]
    exact hR (i + 1, xs.set i (a.getD i (FT.zero .inst))) ⟨by omega, by rw [hx]; exact set_mid (by simp) (by simpa using hlt) hge⟩ (by simp; omega)
  · have hge : i = a.length := by simp at h2; omega
    subst hge
    conv => whnf
    refine ⟨?_, rfl⟩
    rw [hx, List.take_of_length_le (by omega), List.drop_eq_nil_of_le (by simp), List.append_nil]
theorem ok_laws_toInsS : FunOk Try.prog c_laws_toInsS := funOk (E := [c_laws_toIns]) (envOk_cons ok_laws_toIns (envOk_nil)) mixd Try.func7 (pf := pf_laws_toInsS) (by kernel_rfl) fun ts K h => by
  obtain ⟨t0, e0, h⟩ := as1_out h
  subst e0
  obtain ⟨a, e1, hq⟩ := arC_out (rd_l .inst) h
  clear h
  subst e1
  have h := hq
  clear hq
  obtain ⟨hpre, h⟩ := chk_o h
  exact ⟨_, _, h, Nat.le_of_ble_eq_true (show Nat.ble 1 Try.f7.ntmps = true by kernel_rfl), _, run_laws_toInsS a hpre⟩

def lb_laws_toIntS_0 : PC := .seq (.seq (.reg [.s (.mv 8 (.t 4)), .s (.mv 9 (.t 0)), .s (.len 10 false (.t 9)), .s (.bin 11 .lss (.t 8) (.t 10))]) (.cond (.t 11) (.skip) (.exit 0))) (.seq (.blk 1 (.reg [.s (.mv 14 (.t 3)), .s (.mv 15 (.t 4)), .s (.mv 16 (.t 0)), .s (.mv 17 (.t 4)), .s (.ia 18 (.int .i64) (.t 16) (.t 17)), .s (.load 19 false 1 (.t 18)), .s (.ia 20 (.int .i64) (.t 14) (.t 15)), .s (.store 1 (.t 20) (.t 19))])) (.reg [.s (.mv 12 (.t 4)), .s (.bin 13 .add (.t 12) (.k (.v (.c (.int .i64 1))))), .s (.mv 4 (.t 13))]))
def pf_laws_toIntS : PF := ⟨[.t 2], .seq (.reg [.s (.mv 2 (.k (.v (.c (.nils (.int .i64))))))]) (.seq (.reg [.s (.mv 5 (.t 0)), .s (.len 6 false (.t 5)), .s (.mkS 7 (.int .i64) (.t 6)), .s (.mv 3 (.t 7))]) (.seq (.seq (.reg [.s (.mv 4 (.k (.v (.c (.int .i64 0)))))]) (.blk 0 (.loop [0, 3, 4] lb_laws_toIntS_0))) (.seq (.reg [.s (.mv 21 (.t 3)), .s (.mv 2 (.t 21))]) (.ret))))⟩
def c_laws_toIntS : Fun := ⟨8, [], fun ts K => as1 ts fun t0 => arC (pL (.int .i64)) t0 fun a => chk (a.length ≤ 2147483647) (K (tL true (.int .i64) a) [])⟩
theorem run_laws_toIntS (a : List (FT.Ty (.int .i64))) (hpre : a.length ≤ 2147483647) : runK [] (a.length + 1) [] pf_laws_toIntS [tL false (.int .i64) a] fun r o => r = tL true (.int .i64) a ∧ o = [] := by
  conv => whnf
  refine chk_i ⟨by omega, by omega⟩ ?_
  conv => whnf
  refine loop (α := Nat × List (FT.Ty (.int .i64))) (fun p => ⟨[(0, .v (.c (.sl false (.int .i64) 0))), (3, .v (.c (.sl true (.int .i64) 1))), (4, .v (.c (.int .i64 (p.1 : Int))))], [(1, some (.flat true (.int .i64) none p.2)), (0, some (.flat false (.int .i64) none a))], nums.tail.tail, [], false, []⟩)
      (fun p => p.1 ≤ a.length ∧ p.2 = a.take p.1 ++ (List.replicate a.length (FT.zero (.int .i64))).drop p.1) (fun p => a.length - p.1) (fun p R hI hR => ?_) (0, List.replicate a.length (FT.zero (.int .i64))) _ ⟨by simp, by simp⟩ (by simp)
  obtain ⟨i, xs⟩ := p
  obtain ⟨hi, hx⟩ := hI
  dsimp only at hi hx
  have hlen : xs.length = a.length := by rw [hx]; simp; omega
  dsimp only
  conv => whnf
  refine sel_i (fun h2 => ?_) (fun h2 => ?_)
  · have hlt : i < a.length := by simp at h2; omega
    have hge : a[i]? = some (a.getD i (FT.zero (.int .i64))) := by simp [List.getD_eq_getElem?_getD, hlt]
    conv => whnf
    repeat' (refine chk_c ?_ ?_ <;> conv => whnf)
    all_goals first
      | (refine ⟨?_⟩; omega)
      | (refine ⟨?_⟩; simp; done)
      | (refine ⟨?_⟩; simp; omega)
      | skip
    simp (disch := omega) only [wrap_id, Int.toNat_natCast]
    exact hR (i + 1, xs.set i (a.getD i (FT.zero (.int .i64)))) ⟨by omega, by rw [hx]; exact set_mid (by simp) (by simpa using hlt) hge⟩ (by simp; omega)
  · have hge : i = a.length := by simp at h2; omega
    subst hge
    conv => whnf
    refine ⟨?_, rfl⟩
    rw [hx, List.take_of_length_le (by omega), List.drop_eq_nil_of_le (by simp), List.append_nil]
theorem ok_laws_toIntS : FunOk Try.prog c_laws_toIntS := funOk (E := []) (envOk_nil) mixd Try.func8 (pf := pf_laws_toIntS) (by kernel_rfl) fun ts K h => by
  obtain ⟨t0, e0, h⟩ := as1_out h
  subst e0
  obtain ⟨a, e1, hq⟩ := arC_out (rd_l (.int .i64)) h
  clear h
  subst e1
  have h := hq
  clear hq
  obtain ⟨hpre, h⟩ := chk_o h
  exact ⟨_, _, h, Nat.le_of_ble_eq_true (show Nat.ble 1 Try.f8.ntmps = true by kernel_rfl), _, run_laws_toIntS a hpre⟩








def wordsBytes (ws : List Word) : List Int := ws.flatMap wordBytes
def goneByte (b : Bool) : Int := if b then 1 else 0
def goneBytes (g : List Bool) : List Int := g.map goneByte
def stateBytes (s : State) : List Int :=
  if stateOk s then wordsBytes s.regs ++ wordBytes s.pc ++ wordsBytes s.mem.words ++ goneBytes s.mem.gone ++ [s.trap] else []

def stateOfGo (b : List Int) : Nat → List Word → Int → Option (List Word × Int)
  | 0, ws, a => some (ws, a)
  | k + 1, ws, a => match wordOf b a with | some (w, e) => stateOfGo b k (ws ++ [w]) e | none => none
def stateAt (b : List Int) (ws : List Word) (a : Nat) : State := ⟨ws.take 8, ws.getD 8 (FT.zero .word), ⟨ws.drop 9, (win b a 24).map (fun v => v == 1)⟩, b.getD (a + 24) 0⟩
def stateOf (b : List Int) : Option State :=
  match stateOfGo b 33 [] 0 with
  | some (ws, a) => if (b.length : Int) = a + 25 ∧ stateBytes (stateAt b ws a.toNat) = b then some (stateAt b ws a.toNat) else none
  | none => none

def inGo (l : List Inst) : Nat → State → State × Nat
  | 0, s => (s, 0)
  | k + 1, s => if s.trap = 0 then ((inGo l k (stepS l s)).1, (inGo l k (stepS l s)).2 + 1) else (s, 0)
def inOrder (l : List Inst) (s : State) (n : Int) : State × Int :=
  if stateOk s = false then (zState, 0) else ((inGo l (min n 600).toNat s).1, ((inGo l (min n 600).toNat s).2 : Int))
def goes (l : List Inst) (b : List Int) (n : Int) : List Int × Bool :=
  match stateOf b with
  | some s => (stateBytes (inOrder l s n).1, true)
  | none => ([], false)

/-! words that are right, and what they are under -/
theorem wrap_bv (n : Int) : BitVec.ofInt IntKind.i64.bits (IntKind.i64.wrap n) = BitVec.ofInt IntKind.i64.bits n := by
  apply BitVec.eq_of_toNat_eq
  simp only [BitVec.toNat_ofInt, IntKind.wrap_i64]
  show (_ % (18446744073709551616 : Int)).toNat = (n % (18446744073709551616 : Int)).toNat
  omega
theorem andI_bv (a b : Int) : BitVec.ofInt IntKind.i64.bits (andI a b) = BitVec.ofInt IntKind.i64.bits a &&& BitVec.ofInt IntKind.i64.bits b := by
  unfold andI
  rw [wrap_bv, BitVec.ofInt_natCast, BitVec.ofNat_toNat, BitVec.setWidth_eq]
theorem andI_comm (a b : Int) : andI a b = andI b a := by unfold andI; rw [BitVec.and_comm]
theorem andI_assoc (a b c : Int) : andI (andI a b) c = andI a (andI b c) := by
  have h1 : andI (andI a b) c = IntKind.i64.wrap ((BitVec.ofInt IntKind.i64.bits a &&& BitVec.ofInt IntKind.i64.bits b) &&& BitVec.ofInt IntKind.i64.bits c).toNat := by rw [← andI_bv]; rfl
  have h2 : andI a (andI b c) = IntKind.i64.wrap (BitVec.ofInt IntKind.i64.bits a &&& (BitVec.ofInt IntKind.i64.bits b &&& BitVec.ofInt IntKind.i64.bits c)).toNat := by rw [← andI_bv]; rfl
  rw [h1, h2, BitVec.and_assoc]
theorem andI_zero (a : Int) : andI a 0 = 0 := by
  unfold andI
  rw [show BitVec.ofInt IntKind.i64.bits 0 = 0#_ from rfl, BitVec.and_zero]; rfl
theorem andI_nat {m n : Nat} (h : n < 9223372036854775808) : andI (m : Int) (n : Int) = ((m % 18446744073709551616 &&& n : Nat) : Int) := by
  unfold andI
  rw [BitVec.ofInt_natCast, BitVec.ofInt_natCast, BitVec.toNat_and, BitVec.toNat_ofNat, BitVec.toNat_ofNat]
  show IntKind.i64.wrap ((m % 18446744073709551616 &&& n % 18446744073709551616 : Nat) : Int) = _
  rw [Nat.mod_eq_of_lt (a := n) (by omega)]
  have : m % 18446744073709551616 &&& n ≤ n := Nat.and_le_right
  exact wrap_id (by omega) (by omega)
theorem andI_le (a : Int) {p : Int} (h : 0 ≤ p) (h2 : p < 9223372036854775808) : 0 ≤ andI a p ∧ andI a p ≤ p := by
  obtain ⟨n, rfl⟩ := Int.eq_ofNat_of_zero_le h
  unfold andI
  have h1 : (BitVec.ofInt IntKind.i64.bits a &&& BitVec.ofInt IntKind.i64.bits (n : Int)).toNat ≤ n := by
    rw [BitVec.toNat_and, BitVec.ofInt_natCast, BitVec.toNat_ofNat]
    refine Nat.le_trans Nat.and_le_right (Nat.mod_le _ _)
  rw [wrap_id (by omega) (by omega)]; omega
theorem andI_le' {p : Int} (a : Int) (h : 0 ≤ p) (h2 : p < 9223372036854775808) : 0 ≤ andI p a ∧ andI p a ≤ p := by rw [andI_comm]; exact andI_le a h h2
theorem andI_same (a b : Int) : andI a (andI a b) = andI a b := by
  rw [← andI_assoc]
  have h1 : andI (andI a a) b = IntKind.i64.wrap ((BitVec.ofInt IntKind.i64.bits a &&& BitVec.ofInt IntKind.i64.bits a) &&& BitVec.ofInt IntKind.i64.bits b).toNat := by rw [← andI_bv]; rfl
  rw [h1, BitVec.and_self]; rfl
theorem andI_self {a : Int} (h : 0 ≤ a) (h2 : a < 9223372036854775808) : andI a a = a := by
  obtain ⟨n, rfl⟩ := Int.eq_ofNat_of_zero_le h
  rw [andI_nat (by omega), Nat.mod_eq_of_lt (by omega), Nat.and_self]
theorem andI_bit {a b p : Int} (h : andI a b = b) (hp : ¬ andI b p = 0) : ¬ andI a p = 0 := fun h0 => hp (by
  rw [← h, andI_comm a b, andI_assoc, h0, andI_zero])

/-! ### bounds -/
theorem packGo_some {b t : Int} {p : Packed} : ∀ {n e0 : Nat}, packGo b t n e0 = some p → ∃ e : Nat, e0 ≤ e ∧ e < e0 + n ∧ p = ⟨e, packB b e, packL b t e⟩ ∧ packOk b t e = true
  | 0, e0, h => by cases h
  | n + 1, e0, h => by
    unfold packGo at h
    split at h
    · rename_i h1; cases h; exact ⟨e0, by omega, by omega, rfl, h1⟩
    · obtain ⟨e, h1, h2, h3, h4⟩ := packGo_some h; exact ⟨e, by omega, by omega, h3, h4⟩
theorem packGo_find {b t : Int} {e : Nat} (hp : packOk b t e = true) : ∀ {n e0 : Nat}, e0 ≤ e → e < e0 + n → ∃ f : Nat, e0 ≤ f ∧ f ≤ e ∧ packGo b t n e0 = some ⟨f, packB b f, packL b t f⟩ ∧ packOk b t f = true
  | 0, e0, h1, h2 => by omega
  | n + 1, e0, h1, h2 => by
    by_cases h : packOk b t e0 = true
    · exact ⟨e0, by omega, h1, packGo_t h, h⟩
    · have hne : e0 ≠ e := fun q => h (q ▸ hp)
      obtain ⟨f, g1, g2, g3, g4⟩ := packGo_find hp (n := n) (e0 := e0 + 1) (by omega) (by omega)
      exact ⟨f, by omega, g2, by rw [packGo_f (by simpa using h)]; exact g3, g4⟩
theorem packOk_n {b t : Int} {e : Nat} (h : packOk b t e = true) : packB b e ≤ 63 ∧ packL b t e ≤ 63 := by simpa [packOk] using h
theorem wide_e {b t : Int} (h : boundsOk b t = true) {e : Nat} (he : e ≤ 6) (hp : pack b t = some ⟨e, packB b e, packL b t e⟩) (ho : packOk b t e = true) :
    wide b t = (packB b e * 2 ^ e, min 4096 ((packB b e + packL b t e) * 2 ^ e)) := by
  obtain ⟨h0, h1, h2⟩ := bounds_n h
  obtain ⟨o1, o2⟩ := packOk_n ho
  have hu : unpackOk ⟨e, packB b e, packL b t e⟩ = true := by
    simp only [unpackOk, Bool.and_eq_true, inR_t]
    unfold packB packL at *
    rcases e_cases he with rfl | rfl | rfl | rfl | rfl | rfl | rfl <;> simp only [Int.reducePow, Int.pow_zero] at * <;> omega
  unfold wide
  rw [if_pos h, hp]
  simp only [Option.isSome_some, if_true, Option.getD_some]
  rw [unpack_yes hu]
  simp only [Int.toNat_natCast]
theorem wide_cases {b t : Int} (h : boundsOk b t = true) : wide b t = (0, 4096) ∨ ∃ e : Nat, e ≤ 6 ∧ packOk b t e = true ∧ wide b t = (packB b e * 2 ^ e, min 4096 ((packB b e + packL b t e) * 2 ^ e)) := by
  cases hp : pack b t with
  | none => left; unfold wide; rw [if_pos h, hp]; rfl
  | some p =>
    have hp2 := hp
    rw [pack_yes h] at hp2
    obtain ⟨e, h1, h2, rfl, h4⟩ := packGo_some hp2
    exact .inr ⟨e, by omega, h4, wide_e h (by omega) hp h4⟩
theorem wide_parts {e : Nat} (he : e ≤ 6) {lo hi B L : Int} (hB : 0 ≤ B ∧ B ≤ 63) (hL : 0 ≤ L ∧ L ≤ 63) (h1 : lo = B * 2 ^ e) (h2 : hi = min 4096 ((B + L) * 2 ^ e)) : boundsOk lo hi = true ∧ wide lo hi = (lo, hi) := by
  have hb : boundsOk lo hi = true := by
    simp only [boundsOk, Bool.and_eq_true, decide_eq_true_eq]
    rcases e_cases he with rfl | rfl | rfl | rfl | rfl | rfl | rfl <;> simp only [Int.reducePow, Int.pow_zero] at * <;> omega
  refine ⟨hb, ?_⟩
  have ho : packOk lo hi e = true := by
    simp only [packOk, Bool.and_eq_true, decide_eq_true_eq]
    unfold packB packL
    rcases e_cases he with rfl | rfl | rfl | rfl | rfl | rfl | rfl <;> simp only [Int.reducePow, Int.pow_zero] at * <;> omega
  obtain ⟨f, f1, f2, f3, f4⟩ := packGo_find ho (n := 7) (e0 := 0) (by omega) (by omega)
  rw [wide_e hb (e := f) (by omega) (by rw [pack_yes hb]; exact f3) f4]
  unfold packB packL
  rcases e_cases he with rfl | rfl | rfl | rfl | rfl | rfl | rfl <;> rcases e_cases (e := f) (by omega) with rfl | rfl | rfl | rfl | rfl | rfl | rfl <;>
    first
      | (exfalso; omega)
      | (simp only [Int.reducePow, Int.pow_zero, Prod.mk.injEq] at *; omega)
theorem wide_ok {b t : Int} (h : boundsOk b t = true) : 0 ≤ (wide b t).1 ∧ (wide b t).1 ≤ b ∧ t ≤ (wide b t).2 ∧ (wide b t).2 ≤ 4096 ∧ exact_ (wide b t).1 (wide b t).2 = true := by
  obtain ⟨h0, h1, h2⟩ := bounds_n h
  rcases wide_cases h with e | ⟨e, he, ho, hw⟩
  · rw [e]; exact ⟨by decide, by omega, by omega, by decide, by decide +kernel⟩
  · obtain ⟨o1, o2⟩ := packOk_n ho
    have hB : 0 ≤ packB b e ∧ packB b e ≤ 63 := ⟨by
      unfold packB
      rcases e_cases he with rfl | rfl | rfl | rfl | rfl | rfl | rfl <;> simp only [Int.reducePow, Int.pow_zero] <;> omega, o1⟩
    have hL : 0 ≤ packL b t e ∧ packL b t e ≤ 63 := ⟨by
      unfold packL
      rcases e_cases he with rfl | rfl | rfl | rfl | rfl | rfl | rfl <;> simp only [Int.reducePow, Int.pow_zero] <;> omega, o2⟩
    obtain ⟨g1, g2⟩ := wide_parts he hB hL rfl rfl
    rw [hw]
    refine ⟨?_, ?_, ?_, by dsimp only; omega, by simp only [exact_, g1, g2, decide_true, Bool.and_self]⟩
    all_goals
      dsimp only
      unfold packB packL at *
      rcases e_cases he with rfl | rfl | rfl | rfl | rfl | rfl | rfl <;> simp only [Int.reducePow, Int.pow_zero] at * <;> omega
/-! ### keys and words -/
theorem keyOk_n {k : Key} (h : keyOk k = true) : 0 ≤ k.base ∧ k.base ≤ k.top ∧ k.top ≤ 4096 ∧ 0 ≤ k.perms ∧ k.perms ≤ 63 ∧ 0 ≤ k.sealed ∧ k.sealed ≤ 7 := by
  simp only [keyOk, Bool.and_eq_true, exact_, inR_t] at h
  have := bounds_n h.1.1.1.1
  omega
theorem keyOk_mk {k : Key} (h : exact_ k.base k.top = true) (h1 : 0 ≤ k.perms ∧ k.perms ≤ 63) (h2 : 0 ≤ k.sealed ∧ k.sealed ≤ 7) : keyOk k = true := by
  simp only [keyOk, Bool.and_eq_true, inR_t]; exact ⟨⟨h, h1⟩, h2⟩
theorem keyOk_exact {k : Key} (h : keyOk k = true) : exact_ k.base k.top = true := by simp only [keyOk, Bool.and_eq_true] at h; exact h.1.1
theorem wordOk_is {w : Word} (h : wordOk w = true) (h2 : w.is = true) : keyOk w.key = true := by
  simp only [wordOk, h2, if_true, Bool.and_eq_true] at h; exact h.2
theorem wordOk_mk {n : Int} {k : Key} (h : 0 ≤ n ∧ n ≤ 65535) (h2 : keyOk k = true) : wordOk ⟨n, true, k⟩ = true := by
  simp only [wordOk, if_true, Bool.and_eq_true, inR_t]; exact ⟨h, h2⟩
theorem and65 (n : Int) : 0 ≤ andI n 65535 ∧ andI n 65535 ≤ 65535 := andI_le n (by decide) (by decide)
theorem plainW_ok (n : Int) : wordOk (plainW n) = true := by
  simp only [wordOk, plainW, Bool.and_eq_true, inR_t, Bool.false_eq_true, if_false, decide_true, and_true]
  exact and65 n
def coversK (a b : Key) : Bool := keyOk a && keyOk b && decide (a.base ≤ b.base) && decide (b.top ≤ a.top) && decide (andI a.perms b.perms = b.perms)
theorem coversK_iff {a b : Key} : coversK a b = true ↔ keyOk a = true ∧ keyOk b = true ∧ a.base ≤ b.base ∧ b.top ≤ a.top ∧ andI a.perms b.perms = b.perms := by
  simp only [coversK, Bool.and_eq_true, decide_eq_true_eq, and_assoc]
theorem coversK_refl {a : Key} (h : keyOk a = true) : coversK a a = true :=
  coversK_iff.2 ⟨h, h, Int.le_refl _, Int.le_refl _, andI_self (by have := keyOk_n h; omega) (by have := keyOk_n h; omega)⟩
theorem coversK_trans {a b c : Key} (h : coversK a b = true) (k : coversK b c = true) : coversK a c = true := by
  obtain ⟨h1, h2, h3, h4, h5⟩ := coversK_iff.1 h
  obtain ⟨k1, k2, k3, k4, k5⟩ := coversK_iff.1 k
  exact coversK_iff.2 ⟨h1, k2, by omega, by omega, by rw [← k5, ← andI_assoc, h5]⟩
def Und (C : List Word) (w : Word) : Prop := w.is = true → ∃ c ∈ C, c.is = true ∧ coversK c.key w.key = true
theorem und_bare (C : List Word) (n : Int) : Und C (plainW n) := fun h => by cases h
theorem und_zero (C : List Word) : Und C zW := fun h => by cases h
theorem und_of {C : List Word} {w v : Word} (h : Und C w) (hw : w.is = true) (hk : coversK w.key v.key = true) : Und C v := fun _ => by
  obtain ⟨c, h1, h2, h3⟩ := h hw
  exact ⟨c, h1, h2, coversK_trans h3 hk⟩
theorem openW_iff {w : Word} : openW w = true ↔ wordOk w = true ∧ w.is = true ∧ w.key.sealed = 0 := by
  simp only [openW, Bool.and_eq_true, beq_iff_eq, and_assoc]
theorem sealsB_n {y : Word} (h : sealsB y = true) : openW y = true ∧ ¬ andI y.key.perms 32 = 0 ∧ 1 ≤ y.n ∧ y.n ≤ 7 := by
  simp only [sealsB, Bool.and_eq_true, bne_iff_ne, inR_t] at h
  exact ⟨h.1.1.1.1, h.1.1.1.2, h.2.1, h.2.2⟩
def Fine (w v : Word) : Prop := wordOk v = true ∧ (v.is = true → w.is = true ∧ coversK w.key v.key = true)
theorem fine_bare (w : Word) (n : Int) : Fine w (plainW n) := ⟨plainW_ok n, fun h => by cases h⟩
theorem fine_self {w : Word} (h : wordOk w = true) : Fine w w := ⟨h, fun hi => ⟨hi, coversK_refl (wordOk_is h hi)⟩⟩
theorem Fine.und {C : List Word} {w v : Word} (h : Fine w v) (hu : Und C w) : Und C v := fun hi => by
  obtain ⟨h1, h2⟩ := h.2 hi
  exact und_of hu h1 h2 hi
theorem weakenW_fine (w : Word) (m : Int) : Fine w (weakenW w m) := by
  unfold weakenW
  split
  · rename_i h
    obtain ⟨h1, h2, h3⟩ := openW_iff.1 h
    have hk := wordOk_is h1 h2
    have hn := keyOk_n hk
    have hp := andI_le' (andI m 63) (p := w.key.perms) (by omega) (by omega)
    have hk' : keyOk { w.key with perms := andI w.key.perms (andI m 63) } = true := keyOk_mk (k := ⟨w.key.base, w.key.top, andI w.key.perms (andI m 63), w.key.sealed⟩) (keyOk_exact (k := w.key) hk) ⟨hp.1, by dsimp only; omega⟩ (by dsimp only; omega)
    refine ⟨?_, fun _ => ⟨h2, coversK_iff.2 ⟨hk, hk', Int.le_refl _, Int.le_refl _, andI_same _ _⟩⟩⟩
    have hw := wordOk_n h1
    simp only [wordOk, h2, if_true, Bool.and_eq_true, inR_t]
    exact ⟨hw, hk'⟩
  · exact fine_bare w _
theorem narrowW_fine (w : Word) (n : Int) : Fine w (narrowW w n) := by
  unfold narrowW
  split
  · rename_i h
    simp only [Bool.and_eq_true] at h
    obtain ⟨⟨h, _⟩, hb⟩ := h
    obtain ⟨h1, h2, h3⟩ := openW_iff.1 h
    have hk := wordOk_is h1 h2
    have hn := keyOk_n hk
    split
    · exact fine_bare w _
    · rename_i hr
      obtain ⟨w1, w2, w3, w4, w5⟩ := wide_ok hb
      have hk' : keyOk { w.key with base := (wide w.n (IntKind.i64.wrap (w.n + n))).1, top := (wide w.n (IntKind.i64.wrap (w.n + n))).2 } = true := keyOk_mk w5 (by dsimp only; omega) (by dsimp only; omega)
      refine ⟨?_, fun _ => ⟨h2, coversK_iff.2 ⟨hk, hk', by dsimp only; omega, by dsimp only; omega, andI_self (by omega) (by omega)⟩⟩⟩
      have hw := wordOk_n h1
      simp only [wordOk, h2, if_true, Bool.and_eq_true, inR_t]
      exact ⟨hw, hk'⟩
  · exact fine_bare w _
theorem pointW_fine (w : Word) (n : Int) : Fine w (pointW w n) := by
  unfold pointW
  split
  · rename_i h
    obtain ⟨h1, h2, h3⟩ := openW_iff.1 h
    exact ⟨wordOk_mk (and65 n) (wordOk_is h1 h2), fun _ => ⟨h2, coversK_refl (wordOk_is h1 h2)⟩⟩
  · exact fine_bare w _
theorem seal_fine {w : Word} (h1 : wordOk w = true) (h2 : w.is = true) {s : Int} (hs : 0 ≤ s ∧ s ≤ 7) : Fine w { w with key := { w.key with sealed := s } } := by
  have hk := wordOk_is h1 h2
  have hn := keyOk_n hk
  have hk' : keyOk { w.key with sealed := s } = true := keyOk_mk (k := ⟨w.key.base, w.key.top, w.key.perms, s⟩) (keyOk_exact (k := w.key) hk) (by dsimp only; omega) hs
  refine ⟨?_, fun _ => ⟨h2, coversK_iff.2 ⟨hk, hk', Int.le_refl _, Int.le_refl _, andI_self (by omega) (by omega)⟩⟩⟩
  have hw := wordOk_n h1
  simp only [wordOk, h2, if_true, Bool.and_eq_true, inR_t]
  exact ⟨hw, hk'⟩
theorem sealBy_fine (w y : Word) : Fine w (sealBy w y) := by
  unfold sealBy
  split
  · rename_i h
    simp only [Bool.and_eq_true] at h
    obtain ⟨h1, h2, h3⟩ := openW_iff.1 h.1
    exact seal_fine h1 h2 (by have := sealsB_n h.2; omega)
  · exact fine_bare w _
theorem openBy_fine (w y : Word) : Fine w (openBy w y) := by
  unfold openBy
  split
  · rename_i h
    simp only [Bool.and_eq_true] at h
    exact seal_fine h.1.1.1 h.1.1.2 (by decide)
  · exact fine_bare w _
theorem takenW_fine {y w : Word} (h : wordOk w = true) : Fine w (takenW y w) := by
  unfold takenW
  split
  · exact fine_bare w _
  · exact fine_self h
theorem filterW_fine {g : List Bool} {w : Word} (h : wordOk w = true) : Fine w (filterW g w) := by
  unfold filterW
  split
  · exact fine_bare w _
  · exact fine_self h
theorem zW_ok : wordOk zW = true := by decide
theorem tryW_0 {w : Word} {n p : Int} (h : tryW w n p = 0) : wordOk w = true ∧ w.is = true ∧ w.key.sealed = 0 ∧ andI w.key.perms p = p ∧ w.key.base ≤ n ∧ n < w.key.top := by
  unfold tryW at h
  split at h
  · cases h
  · rename_i h1
    split at h
    · cases h
    · rename_i h2
      split at h
      · cases h
      · rename_i h3
        split at h
        · cases h
        · rename_i h4
          exact ⟨by cases e : wordOk w with | true => rfl | false => exact absurd (.inr e) h1, by cases e : w.is with | true => rfl | false => exact absurd (.inl e) h1, by omega, by omega, by omega, by omega⟩
theorem tryW_in (w : Word) (n p : Int) : 0 ≤ tryW w n p ∧ tryW w n p ≤ 4 := by
  unfold tryW
  repeat' split
  all_goals omega
theorem getD_ok {ws : List Word} (h : ∀ w ∈ ws, wordOk w = true) (i : Nat) : wordOk (ws.getD i (FT.zero .word)) = true := by
  rw [List.getD_eq_getElem?_getD]
  cases e : ws[i]? with
  | none => exact zW_ok
  | some w => exact h w (List.mem_of_getElem? e)
theorem getD_und {C ws : List Word} (h : ∀ w ∈ ws, Und C w) (i : Nat) : Und C (ws.getD i (FT.zero .word)) := by
  rw [List.getD_eq_getElem?_getD]
  cases e : ws[i]? with
  | none => exact und_zero C
  | some w => exact h w (List.mem_of_getElem? e)

/-! states that are right stay so -/
theorem memoryOk_iff {m : Mem} : memoryOk m = true ↔ m.words.length = 24 ∧ m.gone.length = 24 ∧ ∀ w ∈ m.words, wordOk w = true := by
  simp only [memoryOk, Bool.and_eq_true, decide_eq_true_eq, List.all_eq_true, and_assoc]
theorem stateOk_iff {s : State} : stateOk s = true ↔ s.regs.length = 8 ∧ (∀ w ∈ s.regs, wordOk w = true) ∧ wordOk s.pc = true ∧ memoryOk s.mem = true ∧ 0 ≤ s.trap ∧ s.trap ≤ 5 := by
  simp only [stateOk, Bool.and_eq_true, decide_eq_true_eq, List.all_eq_true, inR_t, and_assoc]
theorem fine_zero (w : Word) : Fine w zW := ⟨zW_ok, fun h => by cases h⟩
def Made (pc a b got v : Word) : Prop := Fine pc v ∨ Fine a v ∨ Fine b v ∨ Fine got v
theorem Made.ok {pc a b got v : Word} (h : Made pc a b got v) : wordOk v = true := by rcases h with h | h | h | h <;> exact h.1
theorem Made.und {C : List Word} {pc a b got v : Word} (h : Made pc a b got v) (h1 : Und C pc) (h2 : Und C a) (h3 : Und C b) (h4 : Und C got) : Und C v := by
  rcases h with h | h | h | h
  · exact h.und h1
  · exact h.und h2
  · exact h.und h3
  · exact h.und h4
theorem madeW_made {x : Inst} {pc a b got : Word} (ha : wordOk a = true) (hg : wordOk got = true) : Made pc a b got (madeW x a b got) := by
  unfold madeW
  repeat' split
  · exact .inr (.inl (fine_bare _ _))
  · exact .inr (.inl (fine_bare _ _))
  · exact .inr (.inl (fine_self ha))
  · exact .inr (.inl (weakenW_fine _ _))
  · exact .inr (.inl (narrowW_fine _ _))
  · exact .inr (.inl (pointW_fine _ _))
  · exact .inr (.inl (sealBy_fine _ _))
  · exact .inr (.inl (openBy_fine _ _))
  · exact .inr (.inl (fine_bare _ _))
  · exact .inr (.inl (fine_bare _ _))
  · exact .inr (.inr (.inr (fine_self hg)))
theorem nextW_made {pc a b got : Word} : Made pc a b got (nextW pc) := .inl (pointW_fine _ _)
theorem made_zero {pc a b got : Word} : Made pc a b got zW := .inl (fine_zero _)
structure WorkSpec (x : Inst) (pc a b got : Word) (e : Eff) : Prop where
  val : Made pc a b got e.val
  next : Made pc a b got e.next
  put : Made pc a b got e.put
  addr : e.addr ≠ -1 → x.op = 11 ∧ e.addr = IntKind.i64.wrap (a.n + x.n) ∧ e.put = b
  drop : e.drop ≠ -1 → tryW a a.n 32 = 0 ∧ e.drop = a.key.base
theorem workE_spec {x : Inst} {pc a b got : Word} (ha : wordOk a = true) (hb : wordOk b = true) (hg : wordOk got = true) :
    (0 ≤ (workE x pc a b got).trap ∧ (workE x pc a b got).trap ≤ 5) ∧ ((workE x pc a b got).trap = 0 → WorkSpec x pc a b got (workE x pc a b got)) := by
  unfold workE
  split
  · rename_i h
    exact ⟨(show (0 : Int) ≤ 0 ∧ (0 : Int) ≤ 5 by decide), fun _ => ⟨made_zero, nextW_made, .inr (.inr (.inl (fine_self hb))), fun _ => ⟨h, rfl, rfl⟩, fun h => absurd rfl h⟩⟩
  split
  · split
    · have := tryW_in a a.n 4
      rename_i h2
      exact ⟨by show 0 ≤ tryW a a.n 4 ∧ tryW a a.n 4 ≤ 5; omega, fun h => absurd h h2⟩
    · exact ⟨(show (0 : Int) ≤ 0 ∧ (0 : Int) ≤ 5 by decide), fun _ => ⟨nextW_made, .inr (.inl (fine_self ha)), made_zero, fun h => absurd rfl h, fun h => absurd rfl h⟩⟩
  split
  · refine ⟨(show (0 : Int) ≤ 0 ∧ (0 : Int) ≤ 5 by decide), fun _ => ⟨made_zero, ?_, made_zero, fun h => absurd rfl h, fun h => absurd rfl h⟩⟩
    dsimp only
    split
    · exact .inl (pointW_fine _ _)
    · exact nextW_made
  split
  · split
    · have := tryW_in a a.n 32
      rename_i h2
      exact ⟨by show 0 ≤ tryW a a.n 32 ∧ tryW a a.n 32 ≤ 5; omega, fun h => absurd h h2⟩
    · rename_i h2
      exact ⟨(show (0 : Int) ≤ 0 ∧ (0 : Int) ≤ 5 by decide), fun _ => ⟨made_zero, nextW_made, made_zero, fun h => absurd rfl h, fun _ => ⟨by simpa using h2, rfl⟩⟩⟩
  split
  · exact ⟨(show (0 : Int) ≤ 5 ∧ (5 : Int) ≤ 5 by decide), fun h => by cases h⟩
  split
  · refine ⟨(show (0 : Int) ≤ 0 ∧ (0 : Int) ≤ 5 by decide), fun _ => ⟨?_, nextW_made, made_zero, fun h => absurd rfl h, fun h => absurd rfl h⟩⟩
    dsimp only
    split
    · exact madeW_made ha hg
    · exact made_zero
  · exact ⟨(show (0 : Int) ≤ 0 ∧ (0 : Int) ≤ 5 by decide), fun _ => ⟨made_zero, nextW_made, made_zero, fun h => absurd rfl h, fun h => absurd rfl h⟩⟩
theorem readC_00 {m : Mem} {y : Word} {n : Int} (h : readC m y n = 0) : tryW y n 1 = 0 ∧ 0 ≤ n ∧ n ≤ m.words.length - 1 := by
  unfold readC at h
  split at h
  · rename_i h1; exact absurd h h1
  · rename_i h1
    split at h
    · rename_i h2; exact ⟨by omega, by have := inR_t.1 h2; omega⟩
    · cases h
theorem writeC_00 {m : Mem} {y w : Word} {n : Int} (h : writeC m y n w = 0) : tryW y n 2 = 0 ∧ 0 ≤ n ∧ n ≤ m.words.length - 1 := by
  unfold writeC at h
  split at h
  · rename_i h1; exact absurd h h1
  · rename_i h1
    split at h
    · cases h
    · rename_i h2
      have h2 : inR n 0 (m.words.length - 1) = true := by simpa using h2
      exact ⟨by omega, by have := inR_t.1 h2; omega⟩
theorem readM_00 {m : Mem} {y : Word} {n : Int} (h : (readM m y n).2 = 0) : tryW y n 1 = 0 ∧ 0 ≤ n ∧ n ≤ m.words.length - 1 ∧ (readM m y n).1 = filterW m.gone (takenW y (m.words.getD n.toNat (FT.zero .word))) := by
  unfold readM at h ⊢
  split at h
  · rename_i h1; exact absurd h h1
  · rename_i h1
    rw [if_neg h1]
    have := readC_00 (m := m) (y := y) (n := n) (by omega)
    exact ⟨this.1, this.2.1, this.2.2, rfl⟩
theorem readM_ok {m : Mem} (hm : ∀ w ∈ m.words, wordOk w = true) (y : Word) (n : Int) : wordOk (readM m y n).1 = true := by
  unfold readM
  split
  · exact zW_ok
  · exact (filterW_fine (takenW_fine (getD_ok hm _)).1).1
theorem memE_ok {m : Mem} (hm : ∀ w ∈ m.words, wordOk w = true) (x : Inst) (a b : Word) : wordOk (memE m x a b).1 = true := by
  unfold memE
  repeat' split
  · exact readM_ok hm _ _
  · exact zW_ok
  · exact zW_ok
structure EffSpec (l : List Inst) (s : State) (x : Inst) (a b got : Word) : Prop where
  fetch : fetchI l s.pc = (x, 0)
  hx : insOk x = true
  ha : a = s.regs.getD x.a.toNat (FT.zero .word)
  hb : b = s.regs.getD x.b.toNat (FT.zero .word)
  mem : memE s.mem x a b = (got, 0)
  eff : effE l s = workE x s.pc a b got
theorem effE_parts {l : List Inst} {s : State} (h : (effE l s).trap = 0) : ∃ x a b got, EffSpec l s x a b got := by
  by_cases h1 : (fetchI l s.pc).2 = 0
  · by_cases h2 : (memE s.mem (fetchI l s.pc).1 (s.regs.getD (fetchI l s.pc).1.a.toNat (FT.zero .word)) (s.regs.getD (fetchI l s.pc).1.b.toNat (FT.zero .word))).2 = 0
    · refine ⟨(fetchI l s.pc).1, _, _, (memE s.mem (fetchI l s.pc).1 (s.regs.getD (fetchI l s.pc).1.a.toNat (FT.zero .word)) (s.regs.getD (fetchI l s.pc).1.b.toNat (FT.zero .word))).1, ?_, fetchI_ok h1, rfl, rfl, ?_, ?_⟩
      · rw [← h1]
      · rw [← h2]
      · unfold effE; simp only; rw [if_neg (by simpa using h1), if_neg (by simpa using h2)]
    · unfold effE at h; simp only at h; rw [if_neg (by simpa using h1), if_pos h2] at h; exact absurd h h2
  · unfold effE at h; simp only at h; rw [if_pos h1] at h; exact absurd h h1
theorem EffSpec.work {l : List Inst} {s : State} {x : Inst} {a b got : Word} (h : EffSpec l s x a b got) (hs : stateOk s = true) (h0 : (effE l s).trap = 0) : WorkSpec x s.pc a b got (effE l s) := by
  obtain ⟨h1, h2, h3, h4, h5, h6⟩ := stateOk_iff.1 hs
  obtain ⟨m1, m2, m3⟩ := memoryOk_iff.1 h4
  have hg := memE_ok m3 x a b
  rw [h.mem] at hg
  rw [h.eff] at h0 ⊢
  exact (workE_spec (by rw [h.ha]; exact getD_ok h2 _) (by rw [h.hb]; exact getD_ok h2 _) hg).2 h0
theorem EffSpec.store {l : List Inst} {s : State} {x : Inst} {a b got : Word} (h : EffSpec l s x a b got) (hs : stateOk s = true) (h0 : (effE l s).trap = 0) (ha : (effE l s).addr ≠ -1) :
    tryW a (effE l s).addr 2 = 0 ∧ 0 ≤ (effE l s).addr ∧ (effE l s).addr ≤ 23 ∧ (effE l s).put = b := by
  obtain ⟨w1, w2, w3⟩ := (h.work hs h0).addr ha
  have hm := h.mem
  rw [memE_11 (by omega) w1] at hm
  have := writeC_00 (congrArg Prod.snd hm)
  obtain ⟨h1, h2, h3, h4, h5, h6⟩ := stateOk_iff.1 hs
  obtain ⟨m1, m2, m3⟩ := memoryOk_iff.1 h4
  rw [← w2] at this
  exact ⟨this.1, this.2.1, by omega, w3⟩
theorem EffSpec.load {l : List Inst} {s : State} {x : Inst} {a b got : Word} (h : EffSpec l s x a b got) : got = zW ∨ ∃ n : Int, tryW a n 1 = 0 ∧ 0 ≤ n ∧ n ≤ s.mem.words.length - 1 ∧ got = filterW s.mem.gone (takenW a (s.mem.words.getD n.toNat (FT.zero .word))) := by
  have hm := h.mem
  by_cases h1 : x.op = 10
  · rw [memE_10 h1] at hm
    obtain ⟨r1, r2, r3, r4⟩ := readM_00 (congrArg Prod.snd hm)
    right
    refine ⟨_, r1, r2, r3, ?_⟩
    rw [← r4, hm]
  · left
    by_cases h2 : x.op = 11
    · rw [memE_11 h1 h2] at hm; exact (congrArg Prod.fst hm).symm
    · rw [memE_x h1 h2] at hm; exact (congrArg Prod.fst hm).symm
theorem mem_set {α : Type} {xs : List α} {i : Nat} {v x : α} (h : x ∈ xs.set i v) : x ∈ xs ∨ x = v := List.mem_or_eq_of_mem_set h
theorem stepS_cases {l : List Inst} {s : State} (hs : stateOk s = true) :
    (s.trap ≠ 0 ∧ stepS l s = s) ∨ (s.trap = 0 ∧ (effE l s).trap ≠ 0 ∧ stepS l s = ⟨s.regs, s.pc, s.mem, (effE l s).trap⟩) ∨ (s.trap = 0 ∧ (effE l s).trap = 0 ∧ stepS l s = putE s (effE l s)) := by
  by_cases h : s.trap = 0
  · by_cases h2 : (effE l s).trap = 0
    · exact .inr (.inr ⟨h, h2, stepS_0 hs h h2⟩)
    · exact .inr (.inl ⟨h, h2, stepS_e hs h h2⟩)
  · exact .inl ⟨h, stepS_trap hs h⟩

/-! a closure: it has its roots, what its words open, and no more -/
theorem putW_min {P : Word → Prop} {out : List Word} {w : Word} (h : ∀ x ∈ out, P x) (hw : w.is = true → wordOk w = true → P w) : ∀ x ∈ putW out w, P x := by
  intro x hx
  unfold putW at hx
  split at hx
  · rename_i hc
    simp only [Bool.and_eq_true] at hc
    rcases List.mem_append.1 hx with q | q
    · exact h x q
    · rw [List.mem_singleton.1 q]; exact hw hc.1.1 hc.1.2
  · exact h x hx
theorem foldPut_min {P : Word → Prop} : ∀ {l out : List Word}, (∀ x ∈ out, P x) → (∀ w ∈ l, w.is = true → wordOk w = true → P w) → ∀ x ∈ l.foldl putW out, P x
  | [], out, h, _ => h
  | v :: l, out, h, hl => foldPut_min (l := l) (putW_min h (hl v (by simp))) (fun w hw => hl w (by simp [hw]))
theorem scan_min {P : Word → Prop} {ws : List Word} : ∀ {n c : Nat} {out : List Word}, (∀ x ∈ out, P x) → (∀ j, c ≤ j → j < c + n → (ws.getD j (FT.zero .word)).is = true → P (ws.getD j (FT.zero .word))) → ∀ x ∈ scan ws n c out, P x
  | 0, c, out, h, _ => h
  | n + 1, c, out, h, hj => scan_min (n := n) (c := c + 1) (putW_min h fun hi _ => hj c (by omega) (by omega) hi) (fun j h1 h2 => hj j (by omega) (by omega))
theorem closGo_min {P : Word → Prop} {ws : List Word} (hk : ∀ k : Word, P k → opens k.key = true → ∀ j : Nat, k.key.base.toNat ≤ j → j < k.key.base.toNat + (min k.key.top 24 - k.key.base).toNat → (ws.getD j (FT.zero .word)).is = true → P (ws.getD j (FT.zero .word))) :
    ∀ {n i : Nat} {out : List Word}, (∀ x ∈ out, P x) → ∀ x ∈ closGo ws n i out, P x
  | 0, _, _, h => h
  | n + 1, i, out, h => by
    unfold closGo; split
    · rename_i hi
      refine closGo_min hk (n := n) ?_
      unfold closStep; split
      · rename_i ho
        exact scan_min h (fun j h1 h2 h3 => hk _ (h _ (getD_mem hi)) ho j h1 h2 h3)
      · exact h
    · exact h
theorem closure_min {P : Word → Prop} {m : Mem} {l : List Word} (hl : ∀ w ∈ l, w.is = true → wordOk w = true → P w)
    (hk : ∀ k : Word, P k → opens k.key = true → ∀ j : Nat, k.key.base.toNat ≤ j → j < k.key.base.toNat + (min k.key.top 24 - k.key.base).toNat → (m.words.getD j (FT.zero .word)).is = true → P (m.words.getD j (FT.zero .word))) : ∀ x ∈ closure m l, P x := by
  unfold closure; split
  · exact closGo_min hk (foldPut_min (fun x hx => by cases hx) hl)
  · intro x hx; cases hx
/-! ### what is under a closed set -/
def Reach (C : List Word) (m : Mem) : Prop := ∀ c ∈ C, c.is = true → opens c.key = true → ∀ j : Nat, c.key.base ≤ j → (j : Int) < c.key.top → j < 24 → Und C (m.words.getD j (FT.zero .word))
theorem opens_iff {k : Key} : opens k = true ↔ ¬ andI k.perms 1 = 0 ∧ ¬ andI k.perms 8 = 0 := by simp [opens]
theorem opens_up {a b : Key} (h : coversK a b = true) (ho : opens b = true) : opens a = true := by
  obtain ⟨h1, h2, h3, h4, h5⟩ := coversK_iff.1 h
  obtain ⟨o1, o2⟩ := opens_iff.1 ho
  exact opens_iff.2 ⟨andI_bit h5 o1, andI_bit h5 o2⟩
theorem closure_under {C : List Word} {m : Mem} {l : List Word} (hl : ∀ w ∈ l, Und C w) (hr : Reach C m) : ∀ x ∈ closure m l, Und C x := by
  intro x hx
  have hm : memoryOk m = true := by
    unfold closure at hx; split at hx
    · assumption
    · cases hx
  obtain ⟨m1, m2, m3⟩ := memoryOk_iff.1 hm
  refine (closure_min (P := fun x => (x.is = true ∧ wordOk x = true) ∧ Und C x) (fun w hw h1 h2 => ⟨⟨h1, h2⟩, hl w hw⟩) (fun k hk ho j h1 h2 h3 => ?_) x hx).2
  obtain ⟨⟨hki, hko⟩, hku⟩ := hk
  have hn := keyOk_n (wordOk_is hko hki)
  refine ⟨⟨h3, getD_ok m3 j⟩, ?_⟩
  obtain ⟨c, c1, c2, c3⟩ := hku hki
  obtain ⟨q1, q2, q3, q4, q5⟩ := coversK_iff.1 c3
  exact hr c c1 c2 (opens_up c3 ho) j (by omega) (by omega) (by omega)
theorem hasP_iff {w : Word} {p : Int} : hasP w p = true ↔ w.is = true ∧ ¬ andI w.key.perms p = 0 := by simp [hasP]
theorem mem_filt {f : Nat → Bool} {n : Nat} {c : Int} : c ∈ filt f n ↔ ∃ j : Nat, j < n ∧ f j = true ∧ c = j := by
  simp only [filt, List.mem_map, List.mem_filter, List.mem_range]
  constructor
  · rintro ⟨j, ⟨h1, h2⟩, rfl⟩; exact ⟨j, h1, h2, rfl⟩
  · rintro ⟨j, h1, h2, rfl⟩; exact ⟨j, ⟨h1, h2⟩, rfl⟩
theorem coverP_iff {ws : List Word} {p : Int} {c : Nat} : coverP ws p c = true ↔ ∃ w ∈ ws, hasP w p = true ∧ w.key.base ≤ c ∧ (c : Int) ≤ w.key.top - 1 := by
  simp only [coverP, List.any_eq_true, Bool.and_eq_true, inR_t]
theorem cover_up {C : List Word} {w : Word} {p : Int} {c : Nat} (h : Und C w) (hp : hasP w p = true) (h1 : w.key.base ≤ c) (h2 : (c : Int) ≤ w.key.top - 1) : coverP C p c = true := by
  obtain ⟨p1, p2⟩ := hasP_iff.1 hp
  obtain ⟨d, d1, d2, d3⟩ := h p1
  obtain ⟨q1, q2, q3, q4, q5⟩ := coversK_iff.1 d3
  exact coverP_iff.2 ⟨d, d1, hasP_iff.2 ⟨d2, andI_bit q5 p2⟩, by omega, by omega⟩
theorem mem_cellsBy {m : Mem} {l : List Word} {p c : Int} : c ∈ cellsBy m l p ↔ ∃ j : Nat, j < 24 ∧ coverP (closure m l) p j = true ∧ c = j := mem_filt
structure Inv (C : List Word) (s : State) : Prop where
  ok : stateOk s = true
  regs : ∀ w ∈ s.regs, Und C w
  pc : Und C s.pc
  mem : Reach C s.mem
def hold (s : State) : List Word := s.regs ++ [s.pc]
theorem Inv.under {C : List Word} {s : State} (h : Inv C s) : ∀ x ∈ closure s.mem (hold s), Und C x := closure_under (fun w hw => by
  rcases List.mem_append.1 hw with q | q
  · exact h.regs w q
  · rw [List.mem_singleton.1 q]; exact h.pc) h.mem
theorem Inv.got {C : List Word} {l : List Inst} {s : State} (h : Inv C s) {x : Inst} {a b got : Word} (he : EffSpec l s x a b got) : Und C a ∧ Und C b ∧ Und C got := by
  obtain ⟨r1, r2, r3, r4, r5, r6⟩ := stateOk_iff.1 h.ok
  obtain ⟨m1, m2, m3⟩ := memoryOk_iff.1 r4
  have ha : Und C a := by rw [he.ha]; exact getD_und h.regs _
  have hb : Und C b := by rw [he.hb]; exact getD_und h.regs _
  refine ⟨ha, hb, ?_⟩
  rcases he.load with rfl | ⟨n, h1, h2, h3, rfl⟩
  · exact und_zero C
  · obtain ⟨t1, t2, t3, t4, t5, t6⟩ := tryW_0 h1
    obtain ⟨j, rfl⟩ := Int.eq_ofNat_of_zero_le h2
    have hj : j < 24 := by omega
    rw [Int.toNat_natCast]
    by_cases h8 : andI a.key.perms 8 = 0
    · rw [show takenW a (s.mem.words.getD j (FT.zero .word)) = plainW (s.mem.words.getD j (FT.zero .word)).n from if_pos h8]
      exact (filterW_fine (plainW_ok _)).und (und_bare C _)
    · obtain ⟨c, c1, c2, c3⟩ := ha t2
      obtain ⟨q1, q2, q3, q4, q5⟩ := coversK_iff.1 c3
      have hu := h.mem c c1 c2 (opens_up c3 (opens_iff.2 ⟨by rw [t4]; decide, h8⟩)) j (by omega) (by omega) hj
      exact (filterW_fine (takenW_fine (getD_ok m3 j)).1).und ((takenW_fine (getD_ok m3 j)).und hu)
theorem getD_set2 {α : Type} (xs : List α) (i j : Nat) (v d : α) : (xs.set i v).getD j d = if i = j ∧ j < xs.length then v else xs.getD j d := by
  simp only [List.getD_eq_getElem?_getD, List.getElem?_set]
  split
  · rename_i h; subst h
    split
    · rename_i h; simp [h]
    · rename_i h; simp [h]
  · rename_i h; simp [h]
theorem Inv.gone {C : List Word} {l : List Inst} {s : State} (h : Inv C s) (hC : ∀ c ∈ C, hasP c 32 = false) : (stepS l s).mem.gone = s.mem.gone := by
  have hs := h.ok
  rcases stepS_cases (l := l) hs with ⟨h1, h2⟩ | ⟨h1, h2, h3⟩ | ⟨h1, h2, h3⟩
  · rw [h2]
  · rw [h3]
  · rw [h3]
    obtain ⟨x, a, b, got, he⟩ := effE_parts h2
    obtain ⟨u1, u2, u3⟩ := h.got he
    unfold putE; dsimp only
    split
    · rename_i hr
      have hr := inR_t.1 hr
      obtain ⟨d1, d2⟩ := (he.work hs h2).drop (by omega)
      obtain ⟨t1, t2, t3, t4, t5, t6⟩ := tryW_0 d1
      obtain ⟨d, e1, e2, e3⟩ := u1 t2
      obtain ⟨q1, q2, q3, q4, q5⟩ := coversK_iff.1 e3
      have := hC d e1
      rw [hasP_iff.2 ⟨e2, andI_bit q5 (by rw [t4]; decide)⟩] at this
      cases this
    · rfl
end Go.Pi
