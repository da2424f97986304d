/- Contracts of functions, each out of its run by PI. No conditions. -/
import Derived.Test.YtgpchgakonpcfaaGreatDoorPiFn
import Derived.KernelRfl
import Derived.ProofKit
import Derived.Test.YtgpchgakonpcfaaGreatDoorRows
import Derived.Test.YtgpchgakonpcfaaGreatDoorPiDoor
import Derived.Test.YtgpchgakonpcfaaGreatDoorShelf
namespace Go.Pi
open Go.Proofs
set_option linter.unusedVariables false
set_option linter.unusedSimpArgs false
set_option maxRecDepth 100000
attribute [local irreducible] iterN
theorem mixd : Tryz.prog.follows .mixedOrders = true := by kernel_rfl
theorem etaKey (x : Key) : (⟨x.base, x.top, x.perms, x.sealed⟩ : Key) = x := rfl
theorem etaWord (x : Word) : (⟨x.n, x.is, x.key⟩ : Word) = x := rfl
theorem etaInst (x : Inst) : (⟨x.op, x.r, x.a, x.b, x.n⟩ : Inst) = x := rfl
theorem etaEff (x : Eff) : (⟨x.trap, x.r, x.val, x.next, x.addr, x.put, x.drop⟩ : Eff) = x := rfl
theorem etaEntry (x : Entry) : (⟨x.pc, x.x, x.done, x.e, x.guess⟩ : Entry) = x := rfl
theorem etaPick (x : Pick) : (⟨x.kind, x.n⟩ : Pick) = x := rfl
theorem etaPacked (x : Packed) : (⟨x.e, x.b, x.l⟩ : Packed) = x := rfl
theorem keyEq (a b : Key) : (a.base == b.base && (a.top == b.top && (a.perms == b.perms && a.sealed == b.sealed))) = decide (a = b) := by
  obtain ⟨a1, a2, a3, a4⟩ := a
  obtain ⟨b1, b2, b3, b4⟩ := b
  rw [Bool.eq_iff_iff]; simp
theorem keyEq0 (a : Key) : (a.base == 0 && (a.top == 0 && (a.perms == 0 && a.sealed == 0))) = decide (a = ⟨0, 0, 0, 0⟩) := keyEq a ⟨0, 0, 0, 0⟩
theorem beqI (a b : Int) : (a == b) = decide (a = b) := rfl


def inR (n lo hi : Int) : Bool := decide (lo ≤ n) && decide (n ≤ hi)

def pf_i_in : PF := ⟨[.t 6], .r [.mv 6 .F] (.r [.m 7 0, .m 8 1, .bin 9 .geq 7 8, .m 10 9, .y 10 11 (.mv 11 0), .y 10 12 (.mv 12 2), .y 10 13 (.bin 13 .leq 11 12), .pick 14 10 13 .F, .m 6 14] .ret)⟩
def c_i_in : Fun := ⟨112, [], fun ts K => as3 ts fun t0 t1 t2 => arC (pI .i64) t0 fun n => arC (pI .i64) t1 fun lo => arC (pI .i64) t2 fun hi => K (tB (inR n lo hi)) []⟩
theorem run_i_in (n : Int) (lo : Int) (hi : Int) : runK [] (0) [] pf_i_in [tI .i64 n, tI .i64 lo, tI .i64 hi] fun r o => r = tB (inR n lo hi) ∧ o = [] := by
  conv => whnf
  refine sel_i (fun h => ?_) (fun h => ?_) <;> conv => whnf
  all_goals (refine ⟨?_, rfl⟩; simp at h; simp [inR] <;> omega)
theorem ok_i_in : FunOk Tryz.prog c_i_in := funOk (eN) mixd Tryz.func112 (pf := pf_i_in) (by kernel_rfl) fun ts K h => by
  obtain ⟨t0, t1, t2, rfl, q0⟩ := as3_out h
  obtain ⟨n, rfl, q1⟩ := arC_out (rd_int .i64) q0
  obtain ⟨lo, rfl, q2⟩ := arC_out (rd_int .i64) q1
  obtain ⟨hi, rfl, q3⟩ := arC_out (rd_int .i64) q2
  exact ⟨_, _, q3, nb 3 Tryz.f112 (by kernel_rfl), _, run_i_in n lo hi⟩

def pf_s_l1In : PF := ⟨[.t 6], .r [.mv 6 .F] (.r [.m 7 0, .m 8 1, .bin 9 .geq 7 8, .m 10 9, .y 10 11 (.mv 11 0), .y 10 12 (.mv 12 2), .y 10 13 (.bin 13 .leq 11 12), .pick 14 10 13 .F, .m 6 14] .ret)⟩
def c_s_l1In : Fun := ⟨53, [], fun ts K => as3 ts fun t0 t1 t2 => arC (pI .i64) t0 fun n => arC (pI .i64) t1 fun lo => arC (pI .i64) t2 fun hi => K (tB (inR n lo hi)) []⟩
theorem run_s_l1In (n : Int) (lo : Int) (hi : Int) : runK [] (0) [] pf_s_l1In [tI .i64 n, tI .i64 lo, tI .i64 hi] fun r o => r = tB (inR n lo hi) ∧ o = [] := by
  conv => whnf
  refine sel_i (fun h => ?_) (fun h => ?_) <;> conv => whnf
  all_goals (refine ⟨?_, rfl⟩; simp at h; simp [inR] <;> omega)
theorem ok_s_l1In : FunOk Tryz.prog c_s_l1In := funOk (eN) mixd Tryz.func53 (pf := pf_s_l1In) (by kernel_rfl) fun ts K h => by
  obtain ⟨t0, t1, t2, rfl, q0⟩ := as3_out h
  obtain ⟨n, rfl, q1⟩ := arC_out (rd_int .i64) q0
  obtain ⟨lo, rfl, q2⟩ := arC_out (rd_int .i64) q1
  obtain ⟨hi, rfl, q3⟩ := arC_out (rd_int .i64) q2
  exact ⟨_, _, q3, nb 3 Tryz.f53 (by kernel_rfl), _, run_s_l1In n lo hi⟩

def pf_w_eqIns : PF := ⟨[.t 4], .r [.box 2 0, .box 3 1, .mv 4 .F] (.seq (.r [.f 5 2 0, .l 6 1 5, .f 7 3 0, .l 8 1 7, .bin 9 .neq 6 8] (.cond 9 (.r [.mv 4 .F] .ret) .skip)) (.seq (.r [.f 10 2 1, .l 11 1 10, .f 12 3 1, .l 13 1 12, .bin 14 .neq 11 13] (.cond 14 (.r [.mv 4 .F] .ret) .skip)) (.seq (.r [.f 15 2 2, .l 16 1 15, .f 17 3 2, .l 18 1 17, .bin 19 .neq 16 18] (.cond 19 (.r [.mv 4 .F] .ret) .skip)) (.seq (.r [.f 20 2 3, .l 21 1 20, .f 22 3 3, .l 23 1 22, .bin 24 .neq 21 23] (.cond 24 (.r [.mv 4 .F] .ret) .skip)) (.seq (.r [.f 25 2 4, .l 26 1 25, .f 27 3 4, .l 28 1 27, .bin 29 .neq 26 28] (.cond 29 (.r [.mv 4 .F] .ret) .skip)) (.r [.mv 4 .T] .ret))))))⟩
def c_w_eqIns : Fun := ⟨77, [], fun ts K => as2 ts fun t0 t1 => arG pInstT t0 fun a => arG pInstT t1 fun b => K (tB (decide (a = b))) []⟩
theorem run_w_eqIns (a : Inst) (b : Inst) : runK [] (0) [] pf_w_eqIns [tG (a.tc []), tG (b.tc [])] fun r o => r = tB (decide (a = b)) ∧ o = [] := by
  obtain ⟨a1, a2, a3, a4, a5⟩ := a
  obtain ⟨b1, b2, b3, b4, b5⟩ := b
  conv => whnf
  repeat' (refine sel_i (fun h => ?_) (fun h => ?_) <;> conv => whnf)
  all_goals (refine ⟨?_, rfl⟩; simp_all)
theorem ok_w_eqIns : FunOk Tryz.prog c_w_eqIns := funOk (eN) mixd Tryz.func77 (pf := pf_w_eqIns) (by kernel_rfl) fun ts K h => by
  obtain ⟨t0, t1, rfl, q0⟩ := as2_out h
  obtain ⟨a, rfl, q1⟩ := arG_out rd_inst q0
  obtain ⟨b, rfl, q2⟩ := arG_out rd_inst q1
  exact ⟨_, _, q2, nb 2 Tryz.f77 (by kernel_rfl), _, run_w_eqIns a b⟩

theorem set_mid {α : Type} {m a : List α} {i : Nat} {x : α} (h : m.length = a.length) (hi : i < a.length) (hx : m[i]? = some x) : (m.take i ++ a.drop i).set i x = m.take (i + 1) ++ a.drop (i + 1) := by
  rw [List.set_append_right _ _ (by simp; omega)]
  have hm : min i m.length = i := by omega
  simp only [List.length_take, hm, Nat.sub_self]
  rw [List.drop_eq_getElem_cons hi, List.set_cons_zero, List.take_add_one, hx]
  simp
def elIns (c : Int) : Inst := ⟨c, c + 1, c + 1 + 1, c + 1 + 1 + 1, c + 1 + 1 + 1 + 1⟩
def mkInsS (n : Nat) (k : Int) : List Inst := (List.range n).map (fun j : Nat => elIns (k + 5 * j))
theorem mkInsS_length (n : Nat) (k : Int) : (mkInsS n k).length = n := by simp [mkInsS]

def lb_w_eqInsS_0 : PC := .seq (.r [.m 11 5, .m 12 0, .len 13 false 12, .bin 14 .lss 11 13] (.cond 14 .skip (.exit 0))) (.seq (.blk 1 (.seq (.rgd [] [.m 17 0, .m 18 5, .ia 19 .inst 17 18, .L 20 5 19, .m 21 1, .m 22 5, .ia 23 .inst 21 22, .L 24 5 23, .c 25 77 [20, 24], .bnot 26 25] (.ts [0, 1, 2, 3, 4, 5, 6, 7] (.one 8 true (.tk 9 .d)))) (.cond 26 (.r [.mv 4 .F] .ret) .skip))) (.reg [.m 15 5, .bin 16 .add 15 (.i 1), .m 5 16]))
def pf_w_eqInsS : PF := ⟨[.t 4], .r [.mv 4 .F] (.seq (.r [.m 6 0, .len 7 false 6, .m 8 1, .len 9 false 8, .bin 10 .neq 7 9] (.cond 10 (.r [.mv 4 .F] .ret) .skip)) (.seq (.r [.mv 5 (.i 0)] (.blk 0 (.loop [0, 1, 5] lb_w_eqInsS_0))) (.r [.mv 4 .T] .ret)))⟩
def c_w_eqInsS : Fun := ⟨28, [], fun ts K => as2 ts fun t0 t1 => arC (pL .inst) t0 fun a => arC (pL .inst) t1 fun b => chk (a.length ≤ 2147483647) (K (tB (decide (a = b))) [])⟩
theorem run_w_eqInsS (a : List (FT.Ty .inst)) (b : List (FT.Ty .inst)) (hpre : a.length ≤ 2147483647) : runK [c_w_eqIns] (a.length + 1) [] pf_w_eqInsS [tL false .inst a, tL false .inst b] fun r o => r = tB (decide (a = b)) ∧ o = [] := by
  conv => whnf
  refine sel_i (fun h => ?_) (fun h => ?_)
  · conv => whnf
    refine ⟨?_, rfl⟩
    simp at h
    simp
    intro e; subst e; simp at h
  · conv => whnf
    refine loop (α := Nat) (fun i => ⟨[(0, .v (.c (.sl false .inst 0))), (1, .v (.c (.sl false .inst 1))), (5, .v (.c (.int .i64 (i : Int))))], [(1, some (.flat false .inst none b)), (0, some (.flat false .inst none a))], nums.tail.tail, [], false, []⟩)
      (fun i => i ≤ a.length ∧ a.take i = b.take i) (fun i => a.length - i) (fun i R hI hR => ?_) 0 _ ⟨by simp, by simp⟩ (by omega)
    conv => whnf
    repeat' (first | (refine sel_i (fun h2 => ?_) (fun h2 => ?_) <;> conv => whnf) | (refine chk_c ?_ ?_ <;> conv => whnf))
    all_goals (have hl : a.length = b.length := by simp at h; omega)
    · exact ⟨by simp at h2; omega⟩
    · exact ⟨by simp at h2; omega⟩
    · exact ⟨by simp at h2; omega⟩
    · exact ⟨by simp at h2; omega⟩
    · refine ⟨?_, rfl⟩
      have hne : a ≠ b := fun e => by subst e; simp at h2
      simp [hne]
    · rename_i h3
      have hlt : i < a.length := by simpa using h3
      rw [wrap_id (n := (i : Int) + 1) (by omega) (by omega)]
      exact hR (i + 1) ⟨by omega, take_step (z := FT.zero .inst) hI.2 hlt (by omega) (nd_t h2)⟩ (by omega)
    · refine ⟨?_, rfl⟩
      have hge : a.length ≤ i := by simpa using h2
      have : a = b := take_all hI.2 hge (by omega)
      simp [this]
theorem ok_w_eqInsS : FunOk Tryz.prog c_w_eqInsS := funOk (eK ok_w_eqIns eN) mixd Tryz.func28 (pf := pf_w_eqInsS) (by kernel_rfl) fun ts K h => by
  obtain ⟨t0, t1, rfl, q0⟩ := as2_out h
  obtain ⟨a, rfl, q1⟩ := arC_out (rd_l .inst) q0
  obtain ⟨b, rfl, q2⟩ := arC_out (rd_l .inst) q1
  obtain ⟨hpre, hk⟩ := chk_o q2
  exact ⟨_, _, hk, nb 2 Tryz.f28 (by kernel_rfl), _, run_w_eqInsS a b hpre⟩

def lb_w_markInsS_0 : PC := .seq (.r [.m 6 5, .m 7 0, .len 8 false 7, .bin 9 .lss 6 8] (.cond 9 .skip (.exit 0))) (.seq (.blk 1 (.r [.m 12 0, .m 13 5, .m 14 1, .ia 15 .inst 12 13, .f 16 15 0, .o 1 16 14] (.r [.m 17 1, .bin 18 .add 17 (.i 1), .m 1 18] (.r [.m 19 0, .m 20 5, .m 21 1, .ia 22 .inst 19 20, .f 23 22 1, .o 1 23 21] (.r [.m 24 1, .bin 25 .add 24 (.i 1), .m 1 25] (.r [.m 26 0, .m 27 5, .m 28 1, .ia 29 .inst 26 27, .f 30 29 2, .o 1 30 28] (.r [.m 31 1, .bin 32 .add 31 (.i 1), .m 1 32] (.r [.m 33 0, .m 34 5, .m 35 1, .ia 36 .inst 33 34, .f 37 36 3, .o 1 37 35] (.r [.m 38 1, .bin 39 .add 38 (.i 1), .m 1 39] (.r [.m 40 0, .m 41 5, .m 42 1, .ia 43 .inst 40 41, .f 44 43 4, .o 1 44 42] (.reg [.m 45 1, .bin 46 .add 45 (.i 1), .m 1 46]))))))))))) (.reg [.m 10 5, .bin 11 .add 10 (.i 1), .m 5 11]))
def pf_w_markInsS : PF := ⟨[.t 4], .r [.mv 4 (.i 0)] (.seq (.r [.mv 5 (.i 0)] (.blk 0 (.loop [0, 1, 5] lb_w_markInsS_0))) (.r [.m 47 1, .m 4 47] .ret))⟩
def c_w_markInsS : Fun := ⟨31, [true, false], fun ts K => as2 ts fun t0 t1 => arC (pO .inst) t0 fun a => arC (pI .i64) t1 fun k => chk (0 ≤ k ∧ k ≤ 1125899906842624 ∧ a.length ≤ 2147483647) (K (tN (k + 5 * a.length)) ([tL true .inst (mkInsS a.length k)]))⟩
theorem run_w_markInsS (a : List (FT.Ty .inst)) (k : Int) (hpre : 0 ≤ k ∧ k ≤ 1125899906842624 ∧ a.length ≤ 2147483647) : runK [] (a.length + 1) [true, false] pf_w_markInsS [tL true .inst a, tI .i64 k] fun r o => r = tN (k + 5 * a.length) ∧ o = [tL true .inst (mkInsS a.length k)] := by
  have hml : (mkInsS a.length k).length = a.length := by simp [mkInsS]
  conv => whnf
  refine loop (α := Nat × Int × List Inst) (fun p => ⟨[(0, .v (.c (.sl false .inst 0))), (1, .v (.c (.int .i64 p.2.1))), (5, .v (.c (.int .i64 (p.1 : Int))))], [(0, some (.flat true .inst none p.2.2))], nums.tail, [.v (.c (.sl false .inst 0))], false, []⟩)
      (fun p => p.1 ≤ a.length ∧ p.2.1 = k + 5 * p.1 ∧ p.2.2 = (mkInsS a.length k).take p.1 ++ a.drop p.1) (fun p => a.length - p.1) (fun p R hI hR => ?_) (0, k, a) _ ⟨by simp, by simp, by simp⟩ (by simp)
  obtain ⟨i, c, xs⟩ := p
  obtain ⟨hi, hc, hx⟩ := hI
  dsimp only at hi hc hx
  have hlen : xs.length = a.length := by rw [hx]; simp [hml]; omega
  dsimp only
  conv => whnf
  refine sel_i (fun h2 => ?_) (fun h2 => ?_)
  · have hlt : i < a.length := by simp at h2; omega
    have hget : ∀ x : Inst, (xs.set i x).getD i (FT.zero .inst) = x := fun x => by simp [List.getD_eq_getElem?_getD, hlen, hlt]
    have hmk : (mkInsS a.length k)[i]? = some (elIns c) := by simp [mkInsS, hlt, hc]
    conv => whnf
    repeat' (refine chk_c ?_ ?_ <;> conv => whnf)
    all_goals first
      | (refine ⟨?_⟩; omega)
      | (refine ⟨?_⟩; simp; done)
      | (refine ⟨?_⟩; simp; omega)
      | skip
    simp (disch := omega) only [wrap_id, Int.toNat_natCast, hget, List.set_set]
    exact hR (i + 1, c + 1 + 1 + 1 + 1 + 1, xs.set i (elIns c)) ⟨by omega, by simp; omega, by rw [hx]; exact set_mid hml hlt hmk⟩ (by simp; omega)
  · have hge : i = a.length := by simp at h2; omega
    subst hge
    conv => whnf
    refine ⟨by rw [hc], ?_⟩
    rw [hx, List.take_of_length_le (by omega), List.drop_eq_nil_of_le (by omega), List.append_nil]
theorem ok_w_markInsS : FunOk Tryz.prog c_w_markInsS := funOk (eN) mixd Tryz.func31 (pf := pf_w_markInsS) (by kernel_rfl) fun ts K h => by
  obtain ⟨t0, t1, rfl, q0⟩ := as2_out h
  obtain ⟨a, rfl, q1⟩ := arC_out (rd_o .inst) q0
  obtain ⟨k, rfl, q2⟩ := arC_out (rd_int .i64) q1
  obtain ⟨hpre, hk⟩ := chk_o q2
  exact ⟨_, _, hk, nb 2 Tryz.f31 (by kernel_rfl), _, run_w_markInsS a k hpre⟩

def lb_w_heldInsS_0 : PC := .seq (.r [.m 6 5, .m 7 0, .len 8 false 7, .bin 9 .lss 6 8] (.cond 9 .skip (.exit 0))) (.seq (.blk 1 (.seq (.r [.m 12 0, .m 13 5, .ia 14 .inst 12 13, .f 15 14 0, .l 16 1 15, .m 17 1, .bin 18 .neq 16 17] (.cond 18 (.r [.mv 4 (.i (-1))] .ret) .skip)) (.r [.m 19 1, .bin 20 .add 19 (.i 1), .m 1 20] (.seq (.r [.m 21 0, .m 22 5, .ia 23 .inst 21 22, .f 24 23 1, .l 25 1 24, .m 26 1, .bin 27 .neq 25 26] (.cond 27 (.r [.mv 4 (.i (-1))] .ret) .skip)) (.r [.m 28 1, .bin 29 .add 28 (.i 1), .m 1 29] (.seq (.r [.m 30 0, .m 31 5, .ia 32 .inst 30 31, .f 33 32 2, .l 34 1 33, .m 35 1, .bin 36 .neq 34 35] (.cond 36 (.r [.mv 4 (.i (-1))] .ret) .skip)) (.r [.m 37 1, .bin 38 .add 37 (.i 1), .m 1 38] (.seq (.r [.m 39 0, .m 40 5, .ia 41 .inst 39 40, .f 42 41 3, .l 43 1 42, .m 44 1, .bin 45 .neq 43 44] (.cond 45 (.r [.mv 4 (.i (-1))] .ret) .skip)) (.r [.m 46 1, .bin 47 .add 46 (.i 1), .m 1 47] (.seq (.r [.m 48 0, .m 49 5, .ia 50 .inst 48 49, .f 51 50 4, .l 52 1 51, .m 53 1, .bin 54 .neq 52 53] (.cond 54 (.r [.mv 4 (.i (-1))] .ret) .skip)) (.reg [.m 55 1, .bin 56 .add 55 (.i 1), .m 1 56]))))))))))) (.reg [.m 10 5, .bin 11 .add 10 (.i 1), .m 5 11]))
def pf_w_heldInsS : PF := ⟨[.t 4], .r [.mv 4 (.i 0)] (.seq (.r [.mv 5 (.i 0)] (.blk 0 (.loop [0, 1, 5] lb_w_heldInsS_0))) (.r [.m 57 1, .m 4 57] .ret))⟩
def c_w_heldInsS : Fun := ⟨34, [], fun ts K => as2 ts fun t0 t1 => arC (pL .inst) t0 fun a => arC (pI .i64) t1 fun k => chk (0 ≤ k ∧ k ≤ 1125899906842624 ∧ a.length ≤ 2147483647) (K (tN (hres (a = mkInsS a.length k) (k + 5 * a.length))) [])⟩
theorem run_w_heldInsS (a : List (FT.Ty .inst)) (k : Int) (hpre : 0 ≤ k ∧ k ≤ 1125899906842624 ∧ a.length ≤ 2147483647) : runK [] (a.length + 1) [] pf_w_heldInsS [tL false .inst a, tI .i64 k] fun r o => r = tN (hres (a = mkInsS a.length k) (k + 5 * a.length)) ∧ o = [] := by
  have hml : (mkInsS a.length k).length = a.length := by simp [mkInsS]
  conv => whnf
  refine loop (α := Nat × Int) (fun p => ⟨[(0, .v (.c (.sl false .inst 0))), (1, .v (.c (.int .i64 p.2))), (5, .v (.c (.int .i64 (p.1 : Int))))], [(0, some (.flat false .inst none a))], nums.tail, [], false, []⟩)
      (fun p => p.1 ≤ a.length ∧ p.2 = k + 5 * p.1 ∧ a.take p.1 = (mkInsS a.length k).take p.1) (fun p => a.length - p.1) (fun p R hI hR => ?_) (0, k) _ ⟨by simp, by simp, by simp⟩ (by simp)
  obtain ⟨i, c⟩ := p
  obtain ⟨hi, hc, hx⟩ := hI
  dsimp only at hi hc hx
  dsimp only
  conv => whnf
  refine sel_i (fun h2 => ?_) (fun h2 => ?_)
  · have hlt : i < a.length := by simp at h2; omega
    have hmk : (mkInsS a.length k).getD i (FT.zero .inst) = elIns c := by simp [mkInsS, List.getD_eq_getElem?_getD, hlt, hc]
    have hne : a.getD i (FT.zero .inst) ≠ elIns c → a ≠ mkInsS a.length k := fun h e => h (by rw [← hmk, ← e])
    conv => whnf
    repeat' (first | (refine sel_i (fun h2 => ?_) (fun h2 => ?_) <;> conv => whnf) | (refine chk_c ?_ ?_ <;> conv => whnf))
    all_goals first
      | (refine ⟨?_⟩; omega)
      | (refine ⟨?_⟩; simp; done)
      | (refine ⟨?_⟩; simp; omega)
      | (refine ⟨?_, rfl⟩
         rw [hres_no (hne (fun e => by
           simp (disch := omega) only [wrap_id, Int.toNat_natCast, e] at h2
           simp [elIns] at h2))])
      | skip
    rename_i e0 e1 e2 e3 e4
    simp (disch := omega) only [wrap_id, Int.toNat_natCast] at e1 e2 e3 e4 h2 ⊢
    have he : a.getD i (FT.zero .inst) = elIns c := by
      generalize a.getD i (FT.zero .inst) = v at e1 e2 e3 e4 h2
      obtain ⟨v0, v1, v2, v3, v4⟩ := v
      simp at e1 e2 e3 e4 h2
      simp [elIns, *]
    exact hR (i + 1, c + 1 + 1 + 1 + 1 + 1) ⟨by omega, by simp; omega, take_step hx hlt (by omega) (he.trans hmk.symm)⟩ (by simp; omega)
  · have hge : i = a.length := by simp at h2; omega
    subst hge
    conv => whnf
    refine ⟨?_, rfl⟩
    rw [List.take_of_length_le (by omega), List.take_of_length_le (by omega)] at hx
    rw [hres_yes hx, hc]
theorem ok_w_heldInsS : FunOk Tryz.prog c_w_heldInsS := funOk (eN) mixd Tryz.func34 (pf := pf_w_heldInsS) (by kernel_rfl) fun ts K h => by
  obtain ⟨t0, t1, rfl, q0⟩ := as2_out h
  obtain ⟨a, rfl, q1⟩ := arC_out (rd_l .inst) q0
  obtain ⟨k, rfl, q2⟩ := arC_out (rd_int .i64) q1
  obtain ⟨hpre, hk⟩ := chk_o q2
  exact ⟨_, _, hk, nb 2 Tryz.f34 (by kernel_rfl), _, run_w_heldInsS a k hpre⟩


def pf_w_eqKey : PF := ⟨[.t 4], .r [.box 2 0, .box 3 1, .mv 4 .F] (.seq (.r [.f 5 2 0, .l 6 1 5, .f 7 3 0, .l 8 1 7, .bin 9 .neq 6 8] (.cond 9 (.r [.mv 4 .F] .ret) .skip)) (.seq (.r [.f 10 2 1, .l 11 1 10, .f 12 3 1, .l 13 1 12, .bin 14 .neq 11 13] (.cond 14 (.r [.mv 4 .F] .ret) .skip)) (.seq (.r [.f 15 2 2, .l 16 1 15, .f 17 3 2, .l 18 1 17, .bin 19 .neq 16 18] (.cond 19 (.r [.mv 4 .F] .ret) .skip)) (.seq (.r [.f 20 2 3, .l 21 1 20, .f 22 3 3, .l 23 1 22, .bin 24 .neq 21 23] (.cond 24 (.r [.mv 4 .F] .ret) .skip)) (.r [.mv 4 .T] .ret)))))⟩
def c_w_eqKey : Fun := ⟨133, [], fun ts K => as2 ts fun t0 t1 => arG pKeyT t0 fun a => arG pKeyT t1 fun b => K (tB (decide (a = b))) []⟩
theorem run_w_eqKey (a : Key) (b : Key) : runK [] (0) [] pf_w_eqKey [tG (a.tc []), tG (b.tc [])] fun r o => r = tB (decide (a = b)) ∧ o = [] := by
  obtain ⟨a1, a2, a3, a4⟩ := a
  obtain ⟨b1, b2, b3, b4⟩ := b
  conv => whnf
  repeat' (refine sel_i (fun h => ?_) (fun h => ?_) <;> conv => whnf)
  all_goals (refine ⟨?_, rfl⟩; simp_all)
theorem ok_w_eqKey : FunOk Tryz.prog c_w_eqKey := funOk (eN) mixd Tryz.func133 (pf := pf_w_eqKey) (by kernel_rfl) fun ts K h => by
  obtain ⟨t0, t1, rfl, q0⟩ := as2_out h
  obtain ⟨a, rfl, q1⟩ := arG_out rd_key q0
  obtain ⟨b, rfl, q2⟩ := arG_out rd_key q1
  exact ⟨_, _, q2, nb 2 Tryz.f133 (by kernel_rfl), _, run_w_eqKey a b⟩

def pf_w_eqWord : PF := ⟨[.t 4], .r [.box 2 0, .box 3 1, .mv 4 .F] (.seq (.r [.f 5 2 0, .l 6 1 5, .f 7 3 0, .l 8 1 7, .bin 9 .neq 6 8] (.cond 9 (.r [.mv 4 .F] .ret) .skip)) (.seq (.r [.f 10 2 1, .l 11 1 10, .f 12 3 1, .l 13 1 12, .eqs 14 false [.b] true 11 13] (.cond 14 (.r [.mv 4 .F] .ret) .skip)) (.seq (.r [.f 15 2 2, .L 16 4 15, .f 17 3 2, .L 18 4 17, .c 19 133 [16, 18], .bnot 20 19] (.cond 20 (.r [.mv 4 .F] .ret) .skip)) (.r [.mv 4 .T] .ret))))⟩
def c_w_eqWord : Fun := ⟨80, [], fun ts K => as2 ts fun t0 t1 => arG pWordT t0 fun a => arG pWordT t1 fun b => K (tB (decide (a = b))) []⟩
theorem run_w_eqWord (a : Word) (b : Word) : runK [c_w_eqKey] (0) [] pf_w_eqWord [tG (a.tc []), tG (b.tc [])] fun r o => r = tB (decide (a = b)) ∧ o = [] := by
  obtain ⟨a1, a2, a3⟩ := a
  obtain ⟨b1, b2, b3⟩ := b
  conv => whnf
  refine sel_i (fun h => ?_) (fun h => ?_) <;> conv => whnf
  · refine ⟨?_, rfl⟩; simp at h; simp [h]
  refine sel_i (fun h2 => ?_) (fun h2 => ?_) <;> conv => whnf
  · refine ⟨?_, rfl⟩; simp at h2; simp [h2]
  refine sel_i (fun h3 => ?_) (fun h3 => ?_) <;> conv => whnf
  · have h3 : ¬ a3 = b3 := nd_f h3
    refine ⟨?_, rfl⟩; simp [h3]
  · have h3 : a3 = b3 := nd_t h3
    refine ⟨?_, rfl⟩; simp at h h2; simp [h, h2, h3]
theorem ok_w_eqWord : FunOk Tryz.prog c_w_eqWord := funOk (eK ok_w_eqKey eN) mixd Tryz.func80 (pf := pf_w_eqWord) (by kernel_rfl) fun ts K h => by
  obtain ⟨t0, t1, rfl, q0⟩ := as2_out h
  obtain ⟨a, rfl, q1⟩ := arG_out rd_word q0
  obtain ⟨b, rfl, q2⟩ := arG_out rd_word q1
  exact ⟨_, _, q2, nb 2 Tryz.f80 (by kernel_rfl), _, run_w_eqWord a b⟩

def elWord (c : Int) : Word := ⟨c, (Int.tmod (c + 1) 3 == 0), ⟨c + 1 + 1, c + 1 + 1 + 1, c + 1 + 1 + 1 + 1, c + 1 + 1 + 1 + 1 + 1⟩⟩
def mkWordS (n : Nat) (k : Int) : List Word := (List.range n).map (fun j : Nat => elWord (k + 6 * j))
theorem mkWordS_length (n : Nat) (k : Int) : (mkWordS n k).length = n := by simp [mkWordS]

def lb_w_eqWordS_0 : PC := .seq (.r [.m 11 5, .m 12 0, .len 13 false 12, .bin 14 .lss 11 13] (.cond 14 .skip (.exit 0))) (.seq (.blk 1 (.seq (.rgd [] [.m 17 0, .m 18 5, .ia 19 .word 17 18, .L 20 6 19, .m 21 1, .m 22 5, .ia 23 .word 21 22, .L 24 6 23, .c 25 80 [20, 24], .bnot 26 25] (.ts [0, 1, 2, 3, 4, 5, 6, 7] (.one 8 true (.tk 9 .d)))) (.cond 26 (.r [.mv 4 .F] .ret) .skip))) (.reg [.m 15 5, .bin 16 .add 15 (.i 1), .m 5 16]))
def pf_w_eqWordS : PF := ⟨[.t 4], .r [.mv 4 .F] (.seq (.r [.m 6 0, .len 7 false 6, .m 8 1, .len 9 false 8, .bin 10 .neq 7 9] (.cond 10 (.r [.mv 4 .F] .ret) .skip)) (.seq (.r [.mv 5 (.i 0)] (.blk 0 (.loop [0, 1, 5] lb_w_eqWordS_0))) (.r [.mv 4 .T] .ret)))⟩
def c_w_eqWordS : Fun := ⟨130, [], fun ts K => as2 ts fun t0 t1 => arC (pL .word) t0 fun a => arC (pL .word) t1 fun b => chk (a.length ≤ 2147483647) (K (tB (decide (a = b))) [])⟩
theorem run_w_eqWordS (a : List (FT.Ty .word)) (b : List (FT.Ty .word)) (hpre : a.length ≤ 2147483647) : runK [c_w_eqWord] (a.length + 1) [] pf_w_eqWordS [tL false .word a, tL false .word b] fun r o => r = tB (decide (a = b)) ∧ o = [] := by
  conv => whnf
  refine sel_i (fun h => ?_) (fun h => ?_)
  · conv => whnf
    refine ⟨?_, rfl⟩
    simp at h
    simp
    intro e; subst e; simp at h
  · conv => whnf
    refine loop (α := Nat) (fun i => ⟨[(0, .v (.c (.sl false .word 0))), (1, .v (.c (.sl false .word 1))), (5, .v (.c (.int .i64 (i : Int))))], [(1, some (.flat false .word none b)), (0, some (.flat false .word none a))], nums.tail.tail, [], false, []⟩)
      (fun i => i ≤ a.length ∧ a.take i = b.take i) (fun i => a.length - i) (fun i R hI hR => ?_) 0 _ ⟨by simp, by simp⟩ (by omega)
    conv => whnf
    repeat' (first | (refine sel_i (fun h2 => ?_) (fun h2 => ?_) <;> conv => whnf) | (refine chk_c ?_ ?_ <;> conv => whnf))
    all_goals (have hl : a.length = b.length := by simp at h; omega)
    · exact ⟨by simp at h2; omega⟩
    · exact ⟨by simp at h2; omega⟩
    · exact ⟨by simp at h2; omega⟩
    · exact ⟨by simp at h2; omega⟩
    · refine ⟨?_, rfl⟩
      have hne : a ≠ b := fun e => by subst e; simp at h2
      simp [hne]
    · rename_i h3
      have hlt : i < a.length := by simpa using h3
      rw [wrap_id (n := (i : Int) + 1) (by omega) (by omega)]
      exact hR (i + 1) ⟨by omega, take_step (z := FT.zero .word) hI.2 hlt (by omega) (nd_t h2)⟩ (by omega)
    · refine ⟨?_, rfl⟩
      have hge : a.length ≤ i := by simpa using h2
      have : a = b := take_all hI.2 hge (by omega)
      simp [this]
theorem ok_w_eqWordS : FunOk Tryz.prog c_w_eqWordS := funOk (eK ok_w_eqWord eN) mixd Tryz.func130 (pf := pf_w_eqWordS) (by kernel_rfl) fun ts K h => by
  obtain ⟨t0, t1, rfl, q0⟩ := as2_out h
  obtain ⟨a, rfl, q1⟩ := arC_out (rd_l .word) q0
  obtain ⟨b, rfl, q2⟩ := arC_out (rd_l .word) q1
  obtain ⟨hpre, hk⟩ := chk_o q2
  exact ⟨_, _, hk, nb 2 Tryz.f130 (by kernel_rfl), _, run_w_eqWordS a b hpre⟩

def lb_w_markWordS_0 : PC := .seq (.r [.m 6 5, .m 7 0, .len 8 false 7, .bin 9 .lss 6 8] (.cond 9 .skip (.exit 0))) (.seq (.blk 1 (.r [.m 12 0, .m 13 5, .m 14 1, .ia 15 .word 12 13, .f 16 15 0, .o 1 16 14] (.r [.m 17 1, .bin 18 .add 17 (.i 1), .m 1 18] (.r [.m 19 0, .m 20 5, .m 21 1, .bin 22 .rem 21 (.i 3), .bin 23 .eql 22 (.i 0), .ia 24 .word 19 20, .f 25 24 1, .o 1 25 23] (.r [.m 26 1, .bin 27 .add 26 (.i 1), .m 1 27] (.r [.m 28 0, .m 29 5, .m 30 1, .ia 31 .word 28 29, .f 32 31 2, .f 33 32 0, .o 1 33 30] (.r [.m 34 1, .bin 35 .add 34 (.i 1), .m 1 35] (.r [.m 36 0, .m 37 5, .m 38 1, .ia 39 .word 36 37, .f 40 39 2, .f 41 40 1, .o 1 41 38] (.r [.m 42 1, .bin 43 .add 42 (.i 1), .m 1 43] (.r [.m 44 0, .m 45 5, .m 46 1, .ia 47 .word 44 45, .f 48 47 2, .f 49 48 2, .o 1 49 46] (.r [.m 50 1, .bin 51 .add 50 (.i 1), .m 1 51] (.r [.m 52 0, .m 53 5, .m 54 1, .ia 55 .word 52 53, .f 56 55 2, .f 57 56 3, .o 1 57 54] (.reg [.m 58 1, .bin 59 .add 58 (.i 1), .m 1 59]))))))))))))) (.reg [.m 10 5, .bin 11 .add 10 (.i 1), .m 5 11]))
def pf_w_markWordS : PF := ⟨[.t 4], .r [.mv 4 (.i 0)] (.seq (.r [.mv 5 (.i 0)] (.blk 0 (.loop [0, 1, 5] lb_w_markWordS_0))) (.r [.m 60 1, .m 4 60] .ret))⟩
def c_w_markWordS : Fun := ⟨134, [true, false], fun ts K => as2 ts fun t0 t1 => arC (pO .word) t0 fun a => arC (pI .i64) t1 fun k => chk (0 ≤ k ∧ k ≤ 1125899906842624 ∧ a.length ≤ 2147483647) (K (tN (k + 6 * a.length)) ([tL true .word (mkWordS a.length k)]))⟩
theorem run_w_markWordS (a : List (FT.Ty .word)) (k : Int) (hpre : 0 ≤ k ∧ k ≤ 1125899906842624 ∧ a.length ≤ 2147483647) : runK [] (a.length + 1) [true, false] pf_w_markWordS [tL true .word a, tI .i64 k] fun r o => r = tN (k + 6 * a.length) ∧ o = [tL true .word (mkWordS a.length k)] := by
  have hml : (mkWordS a.length k).length = a.length := by simp [mkWordS]
  conv => whnf
  refine loop (α := Nat × Int × List Word) (fun p => ⟨[(0, .v (.c (.sl false .word 0))), (1, .v (.c (.int .i64 p.2.1))), (5, .v (.c (.int .i64 (p.1 : Int))))], [(0, some (.flat true .word none p.2.2))], nums.tail, [.v (.c (.sl false .word 0))], false, []⟩)
      (fun p => p.1 ≤ a.length ∧ p.2.1 = k + 6 * p.1 ∧ p.2.2 = (mkWordS a.length k).take p.1 ++ a.drop p.1) (fun p => a.length - p.1) (fun p R hI hR => ?_) (0, k, a) _ ⟨by simp, by simp, by simp⟩ (by simp)
  obtain ⟨i, c, xs⟩ := p
  obtain ⟨hi, hc, hx⟩ := hI
  dsimp only at hi hc hx
  have hlen : xs.length = a.length := by rw [hx]; simp [hml]; omega
  dsimp only
  conv => whnf
  refine sel_i (fun h2 => ?_) (fun h2 => ?_)
  · have hlt : i < a.length := by simp at h2; omega
    have hget : ∀ x : Word, (xs.set i x).getD i (FT.zero .word) = x := fun x => by simp [List.getD_eq_getElem?_getD, hlen, hlt]
    have hmk : (mkWordS a.length k)[i]? = some (elWord c) := by simp [mkWordS, hlt, hc]
    conv => whnf
    repeat' (refine chk_c ?_ ?_ <;> conv => whnf)
    all_goals first
      | (refine ⟨?_⟩; omega)
      | (refine ⟨?_⟩; simp; done)
      | (refine ⟨?_⟩; simp; omega)
      | skip
    simp (disch := omega) only [wrap_id, Int.toNat_natCast, hget, List.set_set]
    exact hR (i + 1, c + 1 + 1 + 1 + 1 + 1 + 1, xs.set i (elWord c)) ⟨by omega, by simp; omega, by rw [hx]; exact set_mid hml hlt hmk⟩ (by simp; omega)
  · have hge : i = a.length := by simp at h2; omega
    subst hge
    conv => whnf
    refine ⟨by rw [hc], ?_⟩
    rw [hx, List.take_of_length_le (by omega), List.drop_eq_nil_of_le (by omega), List.append_nil]
theorem ok_w_markWordS : FunOk Tryz.prog c_w_markWordS := funOk (eN) mixd Tryz.func134 (pf := pf_w_markWordS) (by kernel_rfl) fun ts K h => by
  obtain ⟨t0, t1, rfl, q0⟩ := as2_out h
  obtain ⟨a, rfl, q1⟩ := arC_out (rd_o .word) q0
  obtain ⟨k, rfl, q2⟩ := arC_out (rd_int .i64) q1
  obtain ⟨hpre, hk⟩ := chk_o q2
  exact ⟨_, _, hk, nb 2 Tryz.f134 (by kernel_rfl), _, run_w_markWordS a k hpre⟩

def lb_w_heldWordS_0 : PC := .seq (.r [.m 6 5, .m 7 0, .len 8 false 7, .bin 9 .lss 6 8] (.cond 9 .skip (.exit 0))) (.seq (.blk 1 (.seq (.r [.m 12 0, .m 13 5, .ia 14 .word 12 13, .f 15 14 0, .l 16 1 15, .m 17 1, .bin 18 .neq 16 17] (.cond 18 (.r [.mv 4 (.i (-1))] .ret) .skip)) (.r [.m 19 1, .bin 20 .add 19 (.i 1), .m 1 20] (.seq (.r [.m 21 0, .m 22 5, .ia 23 .word 21 22, .f 24 23 1, .l 25 1 24, .m 26 1, .bin 27 .rem 26 (.i 3), .bin 28 .eql 27 (.i 0), .eqs 29 false [.b] true 25 28] (.cond 29 (.r [.mv 4 (.i (-1))] .ret) .skip)) (.r [.m 30 1, .bin 31 .add 30 (.i 1), .m 1 31] (.seq (.r [.m 32 0, .m 33 5, .ia 34 .word 32 33, .f 35 34 2, .f 36 35 0, .l 37 1 36, .m 38 1, .bin 39 .neq 37 38] (.cond 39 (.r [.mv 4 (.i (-1))] .ret) .skip)) (.r [.m 40 1, .bin 41 .add 40 (.i 1), .m 1 41] (.seq (.r [.m 42 0, .m 43 5, .ia 44 .word 42 43, .f 45 44 2, .f 46 45 1, .l 47 1 46, .m 48 1, .bin 49 .neq 47 48] (.cond 49 (.r [.mv 4 (.i (-1))] .ret) .skip)) (.r [.m 50 1, .bin 51 .add 50 (.i 1), .m 1 51] (.seq (.r [.m 52 0, .m 53 5, .ia 54 .word 52 53, .f 55 54 2, .f 56 55 2, .l 57 1 56, .m 58 1, .bin 59 .neq 57 58] (.cond 59 (.r [.mv 4 (.i (-1))] .ret) .skip)) (.r [.m 60 1, .bin 61 .add 60 (.i 1), .m 1 61] (.seq (.r [.m 62 0, .m 63 5, .ia 64 .word 62 63, .f 65 64 2, .f 66 65 3, .l 67 1 66, .m 68 1, .bin 69 .neq 67 68] (.cond 69 (.r [.mv 4 (.i (-1))] .ret) .skip)) (.reg [.m 70 1, .bin 71 .add 70 (.i 1), .m 1 71]))))))))))))) (.reg [.m 10 5, .bin 11 .add 10 (.i 1), .m 5 11]))
def pf_w_heldWordS : PF := ⟨[.t 4], .r [.mv 4 (.i 0)] (.seq (.r [.mv 5 (.i 0)] (.blk 0 (.loop [0, 1, 5] lb_w_heldWordS_0))) (.r [.m 72 1, .m 4 72] .ret))⟩
def c_w_heldWordS : Fun := ⟨136, [], fun ts K => as2 ts fun t0 t1 => arC (pL .word) t0 fun a => arC (pI .i64) t1 fun k => chk (0 ≤ k ∧ k ≤ 1125899906842624 ∧ a.length ≤ 2147483647) (K (tN (hres (a = mkWordS a.length k) (k + 6 * a.length))) [])⟩
theorem run_w_heldWordS (a : List (FT.Ty .word)) (k : Int) (hpre : 0 ≤ k ∧ k ≤ 1125899906842624 ∧ a.length ≤ 2147483647) : runK [] (a.length + 1) [] pf_w_heldWordS [tL false .word a, tI .i64 k] fun r o => r = tN (hres (a = mkWordS a.length k) (k + 6 * a.length)) ∧ o = [] := by
  have hml : (mkWordS a.length k).length = a.length := by simp [mkWordS]
  conv => whnf
  refine loop (α := Nat × Int) (fun p => ⟨[(0, .v (.c (.sl false .word 0))), (1, .v (.c (.int .i64 p.2))), (5, .v (.c (.int .i64 (p.1 : Int))))], [(0, some (.flat false .word none a))], nums.tail, [], false, []⟩)
      (fun p => p.1 ≤ a.length ∧ p.2 = k + 6 * p.1 ∧ a.take p.1 = (mkWordS a.length k).take p.1) (fun p => a.length - p.1) (fun p R hI hR => ?_) (0, k) _ ⟨by simp, by simp, by simp⟩ (by simp)
  obtain ⟨i, c⟩ := p
  obtain ⟨hi, hc, hx⟩ := hI
  dsimp only at hi hc hx
  dsimp only
  conv => whnf
  refine sel_i (fun h2 => ?_) (fun h2 => ?_)
  · have hlt : i < a.length := by simp at h2; omega
    have hmk : (mkWordS a.length k).getD i (FT.zero .word) = elWord c := by simp [mkWordS, List.getD_eq_getElem?_getD, hlt, hc]
    have hne : a.getD i (FT.zero .word) ≠ elWord c → a ≠ mkWordS a.length k := fun h e => h (by rw [← hmk, ← e])
    conv => whnf
    repeat' (first | (refine sel_i (fun h2 => ?_) (fun h2 => ?_) <;> conv => whnf) | (refine chk_c ?_ ?_ <;> conv => whnf))
    all_goals first
      | (refine ⟨?_⟩; omega)
      | (refine ⟨?_⟩; simp; done)
      | (refine ⟨?_⟩; simp; omega)
      | (refine ⟨?_, rfl⟩
         rw [hres_no (hne (fun e => by
           simp (disch := omega) only [wrap_id, Int.toNat_natCast, e] at h2
           simp [elWord] at h2))])
      | skip
    rename_i e0 e1 e2 e3 e4 e5
    simp (disch := omega) only [wrap_id, Int.toNat_natCast] at e1 e2 e3 e4 e5 h2 ⊢
    have he : a.getD i (FT.zero .word) = elWord c := by
      generalize a.getD i (FT.zero .word) = v at e1 e2 e3 e4 e5 h2
      obtain ⟨v0, v1, ⟨v2, v3, v4, v5⟩⟩ := v
      simp at e1 e2 e3 e4 e5 h2
      simp [elWord, *]
    exact hR (i + 1, c + 1 + 1 + 1 + 1 + 1 + 1) ⟨by omega, by simp; omega, take_step hx hlt (by omega) (he.trans hmk.symm)⟩ (by simp; omega)
  · have hge : i = a.length := by simp at h2; omega
    subst hge
    conv => whnf
    refine ⟨?_, rfl⟩
    rw [List.take_of_length_le (by omega), List.take_of_length_le (by omega)] at hx
    rw [hres_yes hx, hc]
theorem ok_w_heldWordS : FunOk Tryz.prog c_w_heldWordS := funOk (eN) mixd Tryz.func136 (pf := pf_w_heldWordS) (by kernel_rfl) fun ts K h => by
  obtain ⟨t0, t1, rfl, q0⟩ := as2_out h
  obtain ⟨a, rfl, q1⟩ := arC_out (rd_l .word) q0
  obtain ⟨k, rfl, q2⟩ := arC_out (rd_int .i64) q1
  obtain ⟨hpre, hk⟩ := chk_o q2
  exact ⟨_, _, hk, nb 2 Tryz.f136 (by kernel_rfl), _, run_w_heldWordS a k hpre⟩

def elBool (c : Int) : Bool := (Int.tmod (c) 3 == 0)
def mkBoolS (n : Nat) (k : Int) : List Bool := (List.range n).map (fun j : Nat => elBool (k + 1 * j))
theorem mkBoolS_length (n : Nat) (k : Int) : (mkBoolS n k).length = n := by simp [mkBoolS]

def lb_w_eqBoolS_0 : PC := .seq (.r [.m 11 5, .m 12 0, .len 13 false 12, .bin 14 .lss 11 13] (.cond 14 .skip (.exit 0))) (.seq (.blk 1 (.seq (.rgd [] [.m 17 0, .m 18 5, .ia 19 .bool 17 18, .l 20 1 19, .m 21 1, .m 22 5, .ia 23 .bool 21 22, .l 24 1 23, .eqs 25 false [.b] true 20 24] (.ts [0, 1, 2, 3, 4, 5, 6, 7, 8] .d)) (.cond 25 (.r [.mv 4 .F] .ret) .skip))) (.reg [.m 15 5, .bin 16 .add 15 (.i 1), .m 5 16]))
def pf_w_eqBoolS : PF := ⟨[.t 4], .r [.mv 4 .F] (.seq (.r [.m 6 0, .len 7 false 6, .m 8 1, .len 9 false 8, .bin 10 .neq 7 9] (.cond 10 (.r [.mv 4 .F] .ret) .skip)) (.seq (.r [.mv 5 (.i 0)] (.blk 0 (.loop [0, 1, 5] lb_w_eqBoolS_0))) (.r [.mv 4 .T] .ret)))⟩
def c_w_eqBoolS : Fun := ⟨185, [], fun ts K => as2 ts fun t0 t1 => arC (pL .bool) t0 fun a => arC (pL .bool) t1 fun b => chk (a.length ≤ 2147483647) (K (tB (decide (a = b))) [])⟩
theorem run_w_eqBoolS (a : List (FT.Ty .bool)) (b : List (FT.Ty .bool)) (hpre : a.length ≤ 2147483647) : runK [] (a.length + 1) [] pf_w_eqBoolS [tL false .bool a, tL false .bool b] fun r o => r = tB (decide (a = b)) ∧ o = [] := by
  conv => whnf
  refine sel_i (fun h => ?_) (fun h => ?_)
  · conv => whnf
    refine ⟨?_, rfl⟩
    simp at h
    simp
    intro e; subst e; simp at h
  · conv => whnf
    refine loop (α := Nat) (fun i => ⟨[(0, .v (.c (.sl false .bool 0))), (1, .v (.c (.sl false .bool 1))), (5, .v (.c (.int .i64 (i : Int))))], [(1, some (.flat false .bool none b)), (0, some (.flat false .bool none a))], nums.tail.tail, [], false, []⟩)
      (fun i => i ≤ a.length ∧ a.take i = b.take i) (fun i => a.length - i) (fun i R hI hR => ?_) 0 _ ⟨by simp, by simp⟩ (by omega)
    conv => whnf
    repeat' (first | (refine sel_i (fun h2 => ?_) (fun h2 => ?_) <;> conv => whnf) | (refine chk_c ?_ ?_ <;> conv => whnf))
    all_goals (have hl : a.length = b.length := by simp at h; omega)
    · exact ⟨by simp at h2; omega⟩
    · exact ⟨by simp at h2; omega⟩
    · exact ⟨by simp at h2; omega⟩
    · exact ⟨by simp at h2; omega⟩
    · refine ⟨?_, rfl⟩
      have hne : a ≠ b := fun e => by subst e; simp at h2
      simp [hne]
    · rename_i h3
      have hlt : i < a.length := by simpa using h3
      rw [wrap_id (n := (i : Int) + 1) (by omega) (by omega)]
      exact hR (i + 1) ⟨by omega, take_step (z := FT.zero .bool) hI.2 hlt (by omega) (by simpa using h2)⟩ (by omega)
    · refine ⟨?_, rfl⟩
      have hge : a.length ≤ i := by simpa using h2
      have : a = b := take_all hI.2 hge (by omega)
      simp [this]
theorem ok_w_eqBoolS : FunOk Tryz.prog c_w_eqBoolS := funOk (eN) mixd Tryz.func185 (pf := pf_w_eqBoolS) (by kernel_rfl) fun ts K h => by
  obtain ⟨t0, t1, rfl, q0⟩ := as2_out h
  obtain ⟨a, rfl, q1⟩ := arC_out (rd_l .bool) q0
  obtain ⟨b, rfl, q2⟩ := arC_out (rd_l .bool) q1
  obtain ⟨hpre, hk⟩ := chk_o q2
  exact ⟨_, _, hk, nb 2 Tryz.f185 (by kernel_rfl), _, run_w_eqBoolS a b hpre⟩

def lb_w_markBoolS_0 : PC := .seq (.r [.m 6 5, .m 7 0, .len 8 false 7, .bin 9 .lss 6 8] (.cond 9 .skip (.exit 0))) (.seq (.blk 1 (.r [.m 12 0, .m 13 5, .m 14 1, .bin 15 .rem 14 (.i 3), .bin 16 .eql 15 (.i 0), .ia 17 .bool 12 13, .o 1 17 16] (.reg [.m 18 1, .bin 19 .add 18 (.i 1), .m 1 19]))) (.reg [.m 10 5, .bin 11 .add 10 (.i 1), .m 5 11]))
def pf_w_markBoolS : PF := ⟨[.t 4], .r [.mv 4 (.i 0)] (.seq (.r [.mv 5 (.i 0)] (.blk 0 (.loop [0, 1, 5] lb_w_markBoolS_0))) (.r [.m 20 1, .m 4 20] .ret))⟩
def c_w_markBoolS : Fun := ⟨187, [true, false], fun ts K => as2 ts fun t0 t1 => arC (pO .bool) t0 fun a => arC (pI .i64) t1 fun k => chk (0 ≤ k ∧ k ≤ 1125899906842624 ∧ a.length ≤ 2147483647) (K (tN (k + 1 * a.length)) ([tL true .bool (mkBoolS a.length k)]))⟩
theorem run_w_markBoolS (a : List (FT.Ty .bool)) (k : Int) (hpre : 0 ≤ k ∧ k ≤ 1125899906842624 ∧ a.length ≤ 2147483647) : runK [] (a.length + 1) [true, false] pf_w_markBoolS [tL true .bool a, tI .i64 k] fun r o => r = tN (k + 1 * a.length) ∧ o = [tL true .bool (mkBoolS a.length k)] := by
  have hml : (mkBoolS a.length k).length = a.length := by simp [mkBoolS]
  conv => whnf
  refine loop (α := Nat × Int × List Bool) (fun p => ⟨[(0, .v (.c (.sl false .bool 0))), (1, .v (.c (.int .i64 p.2.1))), (5, .v (.c (.int .i64 (p.1 : Int))))], [(0, some (.flat true .bool none p.2.2))], nums.tail, [.v (.c (.sl false .bool 0))], false, []⟩)
      (fun p => p.1 ≤ a.length ∧ p.2.1 = k + 1 * p.1 ∧ p.2.2 = (mkBoolS a.length k).take p.1 ++ a.drop p.1) (fun p => a.length - p.1) (fun p R hI hR => ?_) (0, k, a) _ ⟨by simp, by simp, by simp⟩ (by simp)
  obtain ⟨i, c, xs⟩ := p
  obtain ⟨hi, hc, hx⟩ := hI
  dsimp only at hi hc hx
  have hlen : xs.length = a.length := by rw [hx]; simp [hml]; omega
  dsimp only
  conv => whnf
  refine sel_i (fun h2 => ?_) (fun h2 => ?_)
  · have hlt : i < a.length := by simp at h2; omega
    have hget : ∀ x : Bool, (xs.set i x).getD i (FT.zero .bool) = x := fun x => by simp [List.getD_eq_getElem?_getD, hlen, hlt]
    have hmk : (mkBoolS a.length k)[i]? = some (elBool c) := by simp [mkBoolS, hlt, hc]
    conv => whnf
    repeat' (refine chk_c ?_ ?_ <;> conv => whnf)
    all_goals first
      | (refine ⟨?_⟩; omega)
      | (refine ⟨?_⟩; simp; done)
      | (refine ⟨?_⟩; simp; omega)
      | skip
    simp (disch := omega) only [wrap_id, Int.toNat_natCast, hget, List.set_set]
    exact hR (i + 1, c + 1, xs.set i (elBool c)) ⟨by omega, by simp; omega, by rw [hx]; exact set_mid hml hlt hmk⟩ (by simp; omega)
  · have hge : i = a.length := by simp at h2; omega
    subst hge
    conv => whnf
    refine ⟨by rw [hc], ?_⟩
    rw [hx, List.take_of_length_le (by omega), List.drop_eq_nil_of_le (by omega), List.append_nil]
theorem ok_w_markBoolS : FunOk Tryz.prog c_w_markBoolS := funOk (eN) mixd Tryz.func187 (pf := pf_w_markBoolS) (by kernel_rfl) fun ts K h => by
  obtain ⟨t0, t1, rfl, q0⟩ := as2_out h
  obtain ⟨a, rfl, q1⟩ := arC_out (rd_o .bool) q0
  obtain ⟨k, rfl, q2⟩ := arC_out (rd_int .i64) q1
  obtain ⟨hpre, hk⟩ := chk_o q2
  exact ⟨_, _, hk, nb 2 Tryz.f187 (by kernel_rfl), _, run_w_markBoolS a k hpre⟩

def lb_w_heldBoolS_0 : PC := .seq (.r [.m 6 5, .m 7 0, .len 8 false 7, .bin 9 .lss 6 8] (.cond 9 .skip (.exit 0))) (.seq (.blk 1 (.seq (.r [.m 12 0, .m 13 5, .ia 14 .bool 12 13, .l 15 1 14, .m 16 1, .bin 17 .rem 16 (.i 3), .bin 18 .eql 17 (.i 0), .eqs 19 false [.b] true 15 18] (.cond 19 (.r [.mv 4 (.i (-1))] .ret) .skip)) (.reg [.m 20 1, .bin 21 .add 20 (.i 1), .m 1 21]))) (.reg [.m 10 5, .bin 11 .add 10 (.i 1), .m 5 11]))
def pf_w_heldBoolS : PF := ⟨[.t 4], .r [.mv 4 (.i 0)] (.seq (.r [.mv 5 (.i 0)] (.blk 0 (.loop [0, 1, 5] lb_w_heldBoolS_0))) (.r [.m 22 1, .m 4 22] .ret))⟩
def c_w_heldBoolS : Fun := ⟨188, [], fun ts K => as2 ts fun t0 t1 => arC (pL .bool) t0 fun a => arC (pI .i64) t1 fun k => chk (0 ≤ k ∧ k ≤ 1125899906842624 ∧ a.length ≤ 2147483647) (K (tN (hres (a = mkBoolS a.length k) (k + 1 * a.length))) [])⟩
theorem run_w_heldBoolS (a : List (FT.Ty .bool)) (k : Int) (hpre : 0 ≤ k ∧ k ≤ 1125899906842624 ∧ a.length ≤ 2147483647) : runK [] (a.length + 1) [] pf_w_heldBoolS [tL false .bool a, tI .i64 k] fun r o => r = tN (hres (a = mkBoolS a.length k) (k + 1 * a.length)) ∧ o = [] := by
  have hml : (mkBoolS a.length k).length = a.length := by simp [mkBoolS]
  conv => whnf
  refine loop (α := Nat × Int) (fun p => ⟨[(0, .v (.c (.sl false .bool 0))), (1, .v (.c (.int .i64 p.2))), (5, .v (.c (.int .i64 (p.1 : Int))))], [(0, some (.flat false .bool none a))], nums.tail, [], false, []⟩)
      (fun p => p.1 ≤ a.length ∧ p.2 = k + 1 * p.1 ∧ a.take p.1 = (mkBoolS a.length k).take p.1) (fun p => a.length - p.1) (fun p R hI hR => ?_) (0, k) _ ⟨by simp, by simp, by simp⟩ (by simp)
  obtain ⟨i, c⟩ := p
  obtain ⟨hi, hc, hx⟩ := hI
  dsimp only at hi hc hx
  dsimp only
  conv => whnf
  refine sel_i (fun h2 => ?_) (fun h2 => ?_)
  · have hlt : i < a.length := by simp at h2; omega
    have hmk : (mkBoolS a.length k).getD i (FT.zero .bool) = elBool c := by simp [mkBoolS, List.getD_eq_getElem?_getD, hlt, hc]
    have hne : a.getD i (FT.zero .bool) ≠ elBool c → a ≠ mkBoolS a.length k := fun h e => h (by rw [← hmk, ← e])
    conv => whnf
    repeat' (first | (refine sel_i (fun h2 => ?_) (fun h2 => ?_) <;> conv => whnf) | (refine chk_c ?_ ?_ <;> conv => whnf))
    all_goals first
      | (refine ⟨?_⟩; omega)
      | (refine ⟨?_⟩; simp; done)
      | (refine ⟨?_⟩; simp; omega)
      | (refine ⟨?_, rfl⟩
         rw [hres_no (hne (fun e => by
           simp (disch := omega) only [wrap_id, Int.toNat_natCast, e] at h2
           simp [elBool] at h2))])
      | skip
    rename_i e0
    simp (disch := omega) only [wrap_id, Int.toNat_natCast] at h2 ⊢
    have he : a.getD i (FT.zero .bool) = elBool c := by
      generalize a.getD i (FT.zero .bool) = v at h2
      simp at h2
      simp [elBool, *]
    exact hR (i + 1, c + 1) ⟨by omega, by simp; omega, take_step hx hlt (by omega) (he.trans hmk.symm)⟩ (by simp; omega)
  · have hge : i = a.length := by simp at h2; omega
    subst hge
    conv => whnf
    refine ⟨?_, rfl⟩
    rw [List.take_of_length_le (by omega), List.take_of_length_le (by omega)] at hx
    rw [hres_yes hx, hc]
theorem ok_w_heldBoolS : FunOk Tryz.prog c_w_heldBoolS := funOk (eN) mixd Tryz.func188 (pf := pf_w_heldBoolS) (by kernel_rfl) fun ts K h => by
  obtain ⟨t0, t1, rfl, q0⟩ := as2_out h
  obtain ⟨a, rfl, q1⟩ := arC_out (rd_l .bool) q0
  obtain ⟨k, rfl, q2⟩ := arC_out (rd_int .i64) q1
  obtain ⟨hpre, hk⟩ := chk_o q2
  exact ⟨_, _, hk, nb 2 Tryz.f188 (by kernel_rfl), _, run_w_heldBoolS a k hpre⟩

def elInt (c : Int) : Int := c
def mkIntS (n : Nat) (k : Int) : List Int := (List.range n).map (fun j : Nat => elInt (k + 1 * j))
theorem mkIntS_length (n : Nat) (k : Int) : (mkIntS n k).length = n := by simp [mkIntS]

def lb_w_eqIntS_0 : PC := .seq (.r [.m 11 5, .m 12 0, .len 13 false 12, .bin 14 .lss 11 13] (.cond 14 .skip (.exit 0))) (.seq (.blk 1 (.seq (.rgd [] [.m 17 0, .m 18 5, .ia 19 (.int .i64) 17 18, .l 20 1 19, .m 21 1, .m 22 5, .ia 23 (.int .i64) 21 22, .l 24 1 23, .bin 25 .neq 20 24] (.ts [0, 1, 2, 3, 4, 5, 6, 7, 8] .d)) (.cond 25 (.r [.mv 4 .F] .ret) .skip))) (.reg [.m 15 5, .bin 16 .add 15 (.i 1), .m 5 16]))
def pf_w_eqIntS : PF := ⟨[.t 4], .r [.mv 4 .F] (.seq (.r [.m 6 0, .len 7 false 6, .m 8 1, .len 9 false 8, .bin 10 .neq 7 9] (.cond 10 (.r [.mv 4 .F] .ret) .skip)) (.seq (.r [.mv 5 (.i 0)] (.blk 0 (.loop [0, 1, 5] lb_w_eqIntS_0))) (.r [.mv 4 .T] .ret)))⟩
def c_w_eqIntS : Fun := ⟨30, [], fun ts K => as2 ts fun t0 t1 => arC (pL (.int .i64)) t0 fun a => arC (pL (.int .i64)) t1 fun b => chk (a.length ≤ 2147483647) (K (tB (decide (a = b))) [])⟩
theorem run_w_eqIntS (a : List (FT.Ty (.int .i64))) (b : List (FT.Ty (.int .i64))) (hpre : a.length ≤ 2147483647) : runK [] (a.length + 1) [] pf_w_eqIntS [tL false (.int .i64) a, tL false (.int .i64) b] fun r o => r = tB (decide (a = b)) ∧ o = [] := by
  conv => whnf
  refine sel_i (fun h => ?_) (fun h => ?_)
  · conv => whnf
    refine ⟨?_, rfl⟩
    simp at h
    simp
    intro e; subst e; simp at h
  · conv => whnf
    refine loop (α := Nat) (fun i => ⟨[(0, .v (.c (.sl false (.int .i64) 0))), (1, .v (.c (.sl false (.int .i64) 1))), (5, .v (.c (.int .i64 (i : Int))))], [(1, some (.flat false (.int .i64) none b)), (0, some (.flat false (.int .i64) none a))], nums.tail.tail, [], false, []⟩)
      (fun i => i ≤ a.length ∧ a.take i = b.take i) (fun i => a.length - i) (fun i R hI hR => ?_) 0 _ ⟨by simp, by simp⟩ (by omega)
    conv => whnf
    repeat' (first | (refine sel_i (fun h2 => ?_) (fun h2 => ?_) <;> conv => whnf) | (refine chk_c ?_ ?_ <;> conv => whnf))
    all_goals (have hl : a.length = b.length := by simp at h; omega)
    · exact ⟨by simp at h2; omega⟩
    · exact ⟨by simp at h2; omega⟩
    · exact ⟨by simp at h2; omega⟩
    · exact ⟨by simp at h2; omega⟩
    · refine ⟨?_, rfl⟩
      have hne : a ≠ b := fun e => by subst e; simp at h2
      simp [hne]
    · rename_i h3
      have hlt : i < a.length := by simpa using h3
      rw [wrap_id (n := (i : Int) + 1) (by omega) (by omega)]
      exact hR (i + 1) ⟨by omega, take_step (z := FT.zero (.int .i64)) hI.2 hlt (by omega) (by simpa using h2)⟩ (by omega)
    · refine ⟨?_, rfl⟩
      have hge : a.length ≤ i := by simpa using h2
      have : a = b := take_all hI.2 hge (by omega)
      simp [this]
theorem ok_w_eqIntS : FunOk Tryz.prog c_w_eqIntS := funOk (eN) mixd Tryz.func30 (pf := pf_w_eqIntS) (by kernel_rfl) fun ts K h => by
  obtain ⟨t0, t1, rfl, q0⟩ := as2_out h
  obtain ⟨a, rfl, q1⟩ := arC_out (rd_l (.int .i64)) q0
  obtain ⟨b, rfl, q2⟩ := arC_out (rd_l (.int .i64)) q1
  obtain ⟨hpre, hk⟩ := chk_o q2
  exact ⟨_, _, hk, nb 2 Tryz.f30 (by kernel_rfl), _, run_w_eqIntS a b hpre⟩

def lb_w_markIntS_0 : PC := .seq (.r [.m 6 5, .m 7 0, .len 8 false 7, .bin 9 .lss 6 8] (.cond 9 .skip (.exit 0))) (.seq (.blk 1 (.r [.m 12 0, .m 13 5, .m 14 1, .ia 15 (.int .i64) 12 13, .o 1 15 14] (.reg [.m 16 1, .bin 17 .add 16 (.i 1), .m 1 17]))) (.reg [.m 10 5, .bin 11 .add 10 (.i 1), .m 5 11]))
def pf_w_markIntS : PF := ⟨[.t 4], .r [.mv 4 (.i 0)] (.seq (.r [.mv 5 (.i 0)] (.blk 0 (.loop [0, 1, 5] lb_w_markIntS_0))) (.r [.m 18 1, .m 4 18] .ret))⟩
def c_w_markIntS : Fun := ⟨33, [true, false], fun ts K => as2 ts fun t0 t1 => arC (pO (.int .i64)) t0 fun a => arC (pI .i64) t1 fun k => chk (0 ≤ k ∧ k ≤ 1125899906842624 ∧ a.length ≤ 2147483647) (K (tN (k + 1 * a.length)) ([tL true (.int .i64) (mkIntS a.length k)]))⟩
theorem run_w_markIntS (a : List (FT.Ty (.int .i64))) (k : Int) (hpre : 0 ≤ k ∧ k ≤ 1125899906842624 ∧ a.length ≤ 2147483647) : runK [] (a.length + 1) [true, false] pf_w_markIntS [tL true (.int .i64) a, tI .i64 k] fun r o => r = tN (k + 1 * a.length) ∧ o = [tL true (.int .i64) (mkIntS a.length k)] := by
  have hml : (mkIntS a.length k).length = a.length := by simp [mkIntS]
  conv => whnf
  refine loop (α := Nat × Int × List Int) (fun p => ⟨[(0, .v (.c (.sl false (.int .i64) 0))), (1, .v (.c (.int .i64 p.2.1))), (5, .v (.c (.int .i64 (p.1 : Int))))], [(0, some (.flat true (.int .i64) none p.2.2))], nums.tail, [.v (.c (.sl false (.int .i64) 0))], false, []⟩)
      (fun p => p.1 ≤ a.length ∧ p.2.1 = k + 1 * p.1 ∧ p.2.2 = (mkIntS a.length k).take p.1 ++ a.drop p.1) (fun p => a.length - p.1) (fun p R hI hR => ?_) (0, k, a) _ ⟨by simp, by simp, by simp⟩ (by simp)
  obtain ⟨i, c, xs⟩ := p
  obtain ⟨hi, hc, hx⟩ := hI
  dsimp only at hi hc hx
  have hlen : xs.length = a.length := by rw [hx]; simp [hml]; omega
  dsimp only
  conv => whnf
  refine sel_i (fun h2 => ?_) (fun h2 => ?_)
  · have hlt : i < a.length := by simp at h2; omega
    have hget : ∀ x : Int, (xs.set i x).getD i (FT.zero (.int .i64)) = x := fun x => by simp [List.getD_eq_getElem?_getD, hlen, hlt]
    have hmk : (mkIntS a.length k)[i]? = some (elInt c) := by simp [mkIntS, hlt, hc]
    conv => whnf
    repeat' (refine chk_c ?_ ?_ <;> conv => whnf)
    all_goals first
      | (refine ⟨?_⟩; omega)
      | (refine ⟨?_⟩; simp; done)
      | (refine ⟨?_⟩; simp; omega)
      | skip
    simp (disch := omega) only [wrap_id, Int.toNat_natCast, hget, List.set_set]
    exact hR (i + 1, c + 1, xs.set i (elInt c)) ⟨by omega, by simp; omega, by rw [hx]; exact set_mid hml hlt hmk⟩ (by simp; omega)
  · have hge : i = a.length := by simp at h2; omega
    subst hge
    conv => whnf
    refine ⟨by rw [hc], ?_⟩
    rw [hx, List.take_of_length_le (by omega), List.drop_eq_nil_of_le (by omega), List.append_nil]
theorem ok_w_markIntS : FunOk Tryz.prog c_w_markIntS := funOk (eN) mixd Tryz.func33 (pf := pf_w_markIntS) (by kernel_rfl) fun ts K h => by
  obtain ⟨t0, t1, rfl, q0⟩ := as2_out h
  obtain ⟨a, rfl, q1⟩ := arC_out (rd_o (.int .i64)) q0
  obtain ⟨k, rfl, q2⟩ := arC_out (rd_int .i64) q1
  obtain ⟨hpre, hk⟩ := chk_o q2
  exact ⟨_, _, hk, nb 2 Tryz.f33 (by kernel_rfl), _, run_w_markIntS a k hpre⟩

def lb_w_heldIntS_0 : PC := .seq (.r [.m 6 5, .m 7 0, .len 8 false 7, .bin 9 .lss 6 8] (.cond 9 .skip (.exit 0))) (.seq (.blk 1 (.seq (.r [.m 12 0, .m 13 5, .ia 14 (.int .i64) 12 13, .l 15 1 14, .m 16 1, .bin 17 .neq 15 16] (.cond 17 (.r [.mv 4 (.i (-1))] .ret) .skip)) (.reg [.m 18 1, .bin 19 .add 18 (.i 1), .m 1 19]))) (.reg [.m 10 5, .bin 11 .add 10 (.i 1), .m 5 11]))
def pf_w_heldIntS : PF := ⟨[.t 4], .r [.mv 4 (.i 0)] (.seq (.r [.mv 5 (.i 0)] (.blk 0 (.loop [0, 1, 5] lb_w_heldIntS_0))) (.r [.m 20 1, .m 4 20] .ret))⟩
def c_w_heldIntS : Fun := ⟨36, [], fun ts K => as2 ts fun t0 t1 => arC (pL (.int .i64)) t0 fun a => arC (pI .i64) t1 fun k => chk (0 ≤ k ∧ k ≤ 1125899906842624 ∧ a.length ≤ 2147483647) (K (tN (hres (a = mkIntS a.length k) (k + 1 * a.length))) [])⟩
theorem run_w_heldIntS (a : List (FT.Ty (.int .i64))) (k : Int) (hpre : 0 ≤ k ∧ k ≤ 1125899906842624 ∧ a.length ≤ 2147483647) : runK [] (a.length + 1) [] pf_w_heldIntS [tL false (.int .i64) a, tI .i64 k] fun r o => r = tN (hres (a = mkIntS a.length k) (k + 1 * a.length)) ∧ o = [] := by
  have hml : (mkIntS a.length k).length = a.length := by simp [mkIntS]
  conv => whnf
  refine loop (α := Nat × Int) (fun p => ⟨[(0, .v (.c (.sl false (.int .i64) 0))), (1, .v (.c (.int .i64 p.2))), (5, .v (.c (.int .i64 (p.1 : Int))))], [(0, some (.flat false (.int .i64) none a))], nums.tail, [], false, []⟩)
      (fun p => p.1 ≤ a.length ∧ p.2 = k + 1 * p.1 ∧ a.take p.1 = (mkIntS a.length k).take p.1) (fun p => a.length - p.1) (fun p R hI hR => ?_) (0, k) _ ⟨by simp, by simp, by simp⟩ (by simp)
  obtain ⟨i, c⟩ := p
  obtain ⟨hi, hc, hx⟩ := hI
  dsimp only at hi hc hx
  dsimp only
  conv => whnf
  refine sel_i (fun h2 => ?_) (fun h2 => ?_)
  · have hlt : i < a.length := by simp at h2; omega
    have hmk : (mkIntS a.length k).getD i (FT.zero (.int .i64)) = elInt c := by simp [mkIntS, List.getD_eq_getElem?_getD, hlt, hc]
    have hne : a.getD i (FT.zero (.int .i64)) ≠ elInt c → a ≠ mkIntS a.length k := fun h e => h (by rw [← hmk, ← e])
    conv => whnf
    repeat' (first | (refine sel_i (fun h2 => ?_) (fun h2 => ?_) <;> conv => whnf) | (refine chk_c ?_ ?_ <;> conv => whnf))
    all_goals first
      | (refine ⟨?_⟩; omega)
      | (refine ⟨?_⟩; simp; done)
      | (refine ⟨?_⟩; simp; omega)
      | (refine ⟨?_, rfl⟩
         rw [hres_no (hne (fun e => by
           simp (disch := omega) only [wrap_id, Int.toNat_natCast, e] at h2
           simp [elInt] at h2))])
      | skip
    rename_i e0
    simp (disch := omega) only [wrap_id, Int.toNat_natCast] at h2 ⊢
    have he : a.getD i (FT.zero (.int .i64)) = elInt c := by
      generalize a.getD i (FT.zero (.int .i64)) = v at h2
      simp at h2
      simp [elInt, *]
    exact hR (i + 1, c + 1) ⟨by omega, by simp; omega, take_step hx hlt (by omega) (he.trans hmk.symm)⟩ (by simp; omega)
  · have hge : i = a.length := by simp at h2; omega
    subst hge
    conv => whnf
    refine ⟨?_, rfl⟩
    rw [List.take_of_length_le (by omega), List.take_of_length_le (by omega)] at hx
    rw [hres_yes hx, hc]
theorem ok_w_heldIntS : FunOk Tryz.prog c_w_heldIntS := funOk (eN) mixd Tryz.func36 (pf := pf_w_heldIntS) (by kernel_rfl) fun ts K h => by
  obtain ⟨t0, t1, rfl, q0⟩ := as2_out h
  obtain ⟨a, rfl, q1⟩ := arC_out (rd_l (.int .i64)) q0
  obtain ⟨k, rfl, q2⟩ := arC_out (rd_int .i64) q1
  obtain ⟨hpre, hk⟩ := chk_o q2
  exact ⟨_, _, hk, nb 2 Tryz.f36 (by kernel_rfl), _, run_w_heldIntS a k hpre⟩

def pf_w_eqMemory : PF := ⟨[.t 4], .r [.box 2 0, .box 3 1, .mv 4 .F] (.seq (.r [.f 5 2 0, .l 6 1 5, .f 7 3 0, .l 8 1 7, .c 9 130 [6, 8], .bnot 10 9] (.cond 10 (.r [.mv 4 .F] .ret) .skip)) (.seq (.r [.f 11 2 1, .l 12 1 11, .f 13 3 1, .l 14 1 13, .c 15 185 [12, 14], .bnot 16 15] (.cond 16 (.r [.mv 4 .F] .ret) .skip)) (.r [.mv 4 .T] .ret)))⟩
def c_w_eqMemory : Fun := ⟨131, [], fun ts K => as2 ts fun t0 t1 => arG pMemT t0 fun a => arG pMemT t1 fun b => chk (a.words.length ≤ 2147483647 ∧ a.gone.length ≤ 2147483647) (K (tB (decide (a = b))) [])⟩
theorem run_w_eqMemory (a : Mem) (b : Mem) (hpre : a.words.length ≤ 2147483647 ∧ a.gone.length ≤ 2147483647) : runK [c_w_eqWordS, c_w_eqBoolS] (0) [] pf_w_eqMemory [tG (a.tc false []), tG (b.tc false [])] fun r o => r = tB (decide (a = b)) ∧ o = [] := by
  obtain ⟨a1, a2⟩ := a
  obtain ⟨b1, b2⟩ := b
  dsimp only at hpre
  conv => whnf
  refine chk_i hpre.1 ?_
  conv => whnf
  refine sel_i (fun h => ?_) (fun h => ?_) <;> conv => whnf
  · refine ⟨?_, rfl⟩; simp at h; simp [h]
  refine chk_i hpre.2 ?_
  conv => whnf
  refine sel_i (fun h2 => ?_) (fun h2 => ?_) <;> conv => whnf
  all_goals (refine ⟨?_, rfl⟩; simp at h h2; simp [h, h2])
theorem ok_w_eqMemory : FunOk Tryz.prog c_w_eqMemory := funOk (eK ok_w_eqWordS (eK ok_w_eqBoolS eN)) mixd Tryz.func131 (pf := pf_w_eqMemory) (by kernel_rfl) fun ts K h => by
  obtain ⟨t0, t1, rfl, q0⟩ := as2_out h
  obtain ⟨a, rfl, q1⟩ := arG_out rd_mem q0
  obtain ⟨b, rfl, q2⟩ := arG_out rd_mem q1
  obtain ⟨hpre, hk⟩ := chk_o q2
  exact ⟨_, _, hk, nb 2 Tryz.f131 (by kernel_rfl), _, run_w_eqMemory a b hpre⟩

def endMemory (m : Mem) (k : Int) : Int := k + 6 * m.words.length + 1 * m.gone.length
def markMemory (m : Mem) (k : Int) : Mem := { m with words := mkWordS m.words.length (k), gone := mkBoolS m.gone.length (k + 6 * m.words.length) }
def SzMemory (m : Mem) : Prop := m.words.length ≤ 2147483647 ∧ m.gone.length ≤ 2147483647
theorem etaMemory (m : Mem) : (⟨m.words, m.gone⟩ : Mem) = m := rfl

def pf_w_markMemory : PF := ⟨[.t 4], .r [.box 2 0, .mv 4 (.i 0)] (.r [.f 5 2 0, .l 6 1 5, .m 7 1, .c 8 134 [6, 7], .m 1 8] (.r [.f 9 2 1, .l 10 1 9, .m 11 1, .c 12 187 [10, 11], .m 1 12] (.r [.m 13 1, .m 4 13] .ret)))⟩
def c_w_markMemory : Fun := ⟨135, [true, false], fun ts K => as2 ts fun t0 t1 => arG pMemO t0 fun m => arC (pI .i64) t1 fun k => chk (0 ≤ k ∧ k ≤ 562949953421312 ∧ SzMemory m) (K (tN (endMemory m k)) ([tG ((markMemory m k).tc true [])]))⟩
theorem run_w_markMemory (m : Mem) (k : Int) (hpre : 0 ≤ k ∧ k ≤ 562949953421312 ∧ SzMemory m) : runK [c_w_markWordS, c_w_markBoolS] (0) [true, false] pf_w_markMemory [tG (m.tc true []), tI .i64 k] fun r o => r = tN (endMemory m k) ∧ o = [tG ((markMemory m k).tc true [])] := by
  conv => whnf
  repeat' (refine chk_c ?_ ?_ <;> conv => whnf)
  all_goals first
    | (refine ⟨?_⟩; (try dsimp only); simp only [SzMemory, endMemory, markMemory] at *; omega)
    | (refine ⟨?_⟩; (try dsimp only); simp only [SzMemory, endMemory, markMemory, mkWordS_length, mkBoolS_length] at *; omega)
    | (refine ⟨?_⟩; (try dsimp only); simp [SzMemory, endMemory, markMemory, mkWordS_length, mkBoolS_length]; done)
    | exact ⟨rfl, rfl⟩
theorem ok_w_markMemory : FunOk Tryz.prog c_w_markMemory := funOk (eK ok_w_markWordS (eK ok_w_markBoolS eN)) mixd Tryz.func135 (pf := pf_w_markMemory) (by kernel_rfl) fun ts K h => by
  obtain ⟨t0, t1, rfl, q0⟩ := as2_out h
  obtain ⟨m, rfl, q1⟩ := arG_out rd_memO q0
  obtain ⟨k, rfl, q2⟩ := arC_out (rd_int .i64) q1
  obtain ⟨hpre, hk⟩ := chk_o q2
  exact ⟨_, _, hk, nb 2 Tryz.f135 (by kernel_rfl), _, run_w_markMemory m k hpre⟩

def pf_w_heldMemory : PF := ⟨[.t 4], .r [.box 2 0, .mv 4 (.i 0)] (.r [.f 5 2 0, .l 6 1 5, .m 7 1, .c 8 136 [6, 7], .m 1 8] (.seq (.r [.m 9 1, .bin 10 .lss 9 (.i 0)] (.cond 10 (.r [.mv 4 (.i (-1))] .ret) .skip)) (.r [.f 11 2 1, .l 12 1 11, .m 13 1, .c 14 188 [12, 13], .m 1 14] (.seq (.r [.m 15 1, .bin 16 .lss 15 (.i 0)] (.cond 16 (.r [.mv 4 (.i (-1))] .ret) .skip)) (.r [.m 17 1, .m 4 17] .ret)))))⟩
def c_w_heldMemory : Fun := ⟨137, [], fun ts K => as2 ts fun t0 t1 => arG pMemT t0 fun m => arC (pI .i64) t1 fun k => chk (0 ≤ k ∧ k ≤ 562949953421312 ∧ SzMemory m) (K (tN (hres (m = markMemory m k) (endMemory m k))) [])⟩
theorem run_w_heldMemory (m : Mem) (k : Int) (hpre : 0 ≤ k ∧ k ≤ 562949953421312 ∧ SzMemory m) : runK [c_w_heldWordS, c_w_heldBoolS] (0) [] pf_w_heldMemory [tG (m.tc false []), tI .i64 k] fun r o => r = tN (hres (m = markMemory m k) (endMemory m k)) ∧ o = [] := by
  have hsz := hpre.2.2
  conv => whnf
  refine chk_i (by (try dsimp only); simp only [SzMemory, endMemory, markMemory] at *; omega) ?_
  conv => whnf
  refine sel_i (fun h => ?_) (fun h => ?_)
  · have hn := hres_t (by (try dsimp only); simp only [SzMemory, endMemory, markMemory] at *; omega) h
    conv => whnf
    refine ⟨?_, rfl⟩
    rw [hres_no (fun e => hn (congrArg Mem.words e))]
  obtain ⟨p0, e0⟩ := hres_f h
  conv => whnf
  simp only [e0]
  refine chk_i (by (try dsimp only); simp only [SzMemory, endMemory, markMemory] at *; omega) ?_
  conv => whnf
  refine sel_i (fun h => ?_) (fun h => ?_)
  · have hn := hres_t (by (try dsimp only); simp only [SzMemory, endMemory, markMemory] at *; omega) h
    conv => whnf
    refine ⟨?_, rfl⟩
    rw [hres_no (fun e => hn (congrArg Mem.gone e))]
  obtain ⟨p1, e1⟩ := hres_f h
  conv => whnf
  refine ⟨?_, rfl⟩
  rw [hres_yes (show m = markMemory m k from ?_)]
  · exact congrArg (fun x => tN x) e1
  · obtain ⟨m0, m1⟩ := m
    simp only [markMemory, Mem.mk.injEq, eq_self, and_true, true_and]
    exact ⟨p0, p1⟩
theorem ok_w_heldMemory : FunOk Tryz.prog c_w_heldMemory := funOk (eK ok_w_heldWordS (eK ok_w_heldBoolS eN)) mixd Tryz.func137 (pf := pf_w_heldMemory) (by kernel_rfl) fun ts K h => by
  obtain ⟨t0, t1, rfl, q0⟩ := as2_out h
  obtain ⟨m, rfl, q1⟩ := arG_out rd_mem q0
  obtain ⟨k, rfl, q2⟩ := arC_out (rd_int .i64) q1
  obtain ⟨hpre, hk⟩ := chk_o q2
  exact ⟨_, _, hk, nb 2 Tryz.f137 (by kernel_rfl), _, run_w_heldMemory m k hpre⟩

def memNew : Mem := ⟨List.replicate 24 ⟨0, false, ⟨0, 0, 0, 0⟩⟩, List.replicate 24 false⟩

def pf_s_MemoryNew : PF := ⟨[.c 0 true 2], .r [.alloc 0 zcM] (.seq (.rgd [] [.s (.mkS 1 .word (.i 24)), .s (.mkS 2 .bool (.i 24)), .build 3 zcM [(0, 1, 1), (1, 1, 2)], .o 2 0 3] (.alt 0 false (.one 1 true (.tk 2 (.one 3 true (.done (some [0]))))) (.alt 1 false (.one 0 true (.tk 2 (.one 3 true (.done (some [0]))))) .nil))) .ret)⟩
def c_s_MemoryNew : Fun := ⟨142, [], fun ts K => as0 ts (K (tG (memNew.tc true [])) [])⟩
theorem run_s_MemoryNew  : runK [] (0) [] pf_s_MemoryNew [] fun r o => r = tG (memNew.tc true []) ∧ o = [] := by
  conv => whnf
  repeat' first | refine chk_c ?_ ?_ | refine And.intro ?_ ?_ <;> conv => whnf
  all_goals first
    | (refine ⟨?_⟩; omega)
    | exact ⟨rfl, rfl⟩
    | rfl
    | exact True.intro
theorem ok_s_MemoryNew : FunOk Tryz.prog c_s_MemoryNew := funOk (eN) mixd Tryz.func142 (pf := pf_s_MemoryNew) (by kernel_rfl) fun ts K h => by
  obtain ⟨rfl, q0⟩ := as0_out h
  exact ⟨_, _, q0, nb 0 Tryz.f142 (by kernel_rfl), _, run_s_MemoryNew ⟩

def pf_i_MemoryNew : PF := ⟨[.c 0 true 2], .r [.alloc 0 zcM] (.seq (.rgd [] [.s (.mkS 1 .word (.i 24)), .s (.mkS 2 .bool (.i 24)), .build 3 zcM [(0, 1, 1), (1, 1, 2)], .o 2 0 3] (.alt 0 false (.one 1 true (.tk 2 (.one 3 true (.done (some [0]))))) (.alt 1 false (.one 0 true (.tk 2 (.one 3 true (.done (some [0]))))) .nil))) .ret)⟩
def c_i_MemoryNew : Fun := ⟨176, [], fun ts K => as0 ts (K (tG (memNew.tc true [])) [])⟩
theorem run_i_MemoryNew  : runK [] (0) [] pf_i_MemoryNew [] fun r o => r = tG (memNew.tc true []) ∧ o = [] := by
  conv => whnf
  repeat' first | refine chk_c ?_ ?_ | refine And.intro ?_ ?_ <;> conv => whnf
  all_goals first
    | (refine ⟨?_⟩; omega)
    | exact ⟨rfl, rfl⟩
    | rfl
    | exact True.intro
theorem ok_i_MemoryNew : FunOk Tryz.prog c_i_MemoryNew := funOk (eN) mixd Tryz.func176 (pf := pf_i_MemoryNew) (by kernel_rfl) fun ts K h => by
  obtain ⟨rfl, q0⟩ := as0_out h
  exact ⟨_, _, q0, nb 0 Tryz.f176 (by kernel_rfl), _, run_i_MemoryNew ⟩


def szr (k : Int) (n : Nat) : Int := if k - n < 0 then -1 else k - n
theorem szr_t {k : Int} {n : Nat} (h : k - n < 0) : szr k n = -1 := if_pos h
theorem szr_f {k : Int} {n : Nat} (h : ¬ k - n < 0) : szr k n = k - n := if_neg h

def pf_w_toKey : PF := ⟨[.c 2 true 4], .r [.box 1 0, .alloc 2 zcK] (.r [.alloc 3 zcK] (.r [.f 4 1 0, .l 5 1 4, .f 6 3 0, .o 1 6 5] (.r [.f 7 1 1, .l 8 1 7, .f 9 3 1, .o 1 9 8] (.r [.f 10 1 2, .l 11 1 10, .f 12 3 2, .o 1 12 11] (.r [.f 13 1 3, .l 14 1 13, .f 15 3 3, .o 1 15 14] (.r [.L 16 4 3, .o 4 2 16] .ret))))))⟩
def c_w_toKey : Fun := ⟨107, [], fun ts K => as1 ts fun t0 => arG pKeyT t0 fun a => K (tG (a.tc [])) []⟩
theorem run_w_toKey (a : Key) : runK [] (0) [] pf_w_toKey [tG (a.tc [])] fun r o => r = tG (a.tc []) ∧ o = [] := by
  conv => whnf
  repeat' (first
    | exact rfl
    | exact trivial
    | (refine sel_i (fun h => ?_) (fun h => ?_) <;> conv => whnf)
    | (refine chk_c ?_ ?_ <;> conv => whnf)
    | (refine And.intro ?_ ?_ <;> conv => whnf))
theorem ok_w_toKey : FunOk Tryz.prog c_w_toKey := funOk (eN) mixd Tryz.func107 (pf := pf_w_toKey) (by kernel_rfl) fun ts K h => by
  obtain ⟨t0, rfl, q0⟩ := as1_out h
  obtain ⟨a, rfl, q1⟩ := arG_out rd_key q0
  exact ⟨_, _, q1, nb 1 Tryz.f107 (by kernel_rfl), _, run_w_toKey a⟩

def pf_w_toWord : PF := ⟨[.c 2 true 6], .r [.box 1 0, .alloc 2 zcW] (.r [.alloc 3 zcW] (.r [.f 4 1 0, .l 5 1 4, .f 6 3 0, .o 1 6 5] (.r [.f 7 1 1, .l 8 1 7, .f 9 3 1, .o 1 9 8] (.r [.f 10 1 2, .L 11 4 10, .c 12 107 [11], .f 13 3 2, .o 4 13 12] (.r [.L 14 6 3, .o 6 2 14] .ret)))))⟩
def c_w_toWord : Fun := ⟨57, [], fun ts K => as1 ts fun t0 => arG pWordT t0 fun a => K (tG (a.tc [])) []⟩
theorem run_w_toWord (a : Word) : runK [c_w_toKey] (0) [] pf_w_toWord [tG (a.tc [])] fun r o => r = tG (a.tc []) ∧ o = [] := by
  conv => whnf
  repeat' (first
    | exact rfl
    | exact trivial
    | (refine sel_i (fun h => ?_) (fun h => ?_) <;> conv => whnf)
    | (refine chk_c ?_ ?_ <;> conv => whnf)
    | (refine And.intro ?_ ?_ <;> conv => whnf))
theorem ok_w_toWord : FunOk Tryz.prog c_w_toWord := funOk (eK ok_w_toKey eN) mixd Tryz.func57 (pf := pf_w_toWord) (by kernel_rfl) fun ts K h => by
  obtain ⟨t0, rfl, q0⟩ := as1_out h
  obtain ⟨a, rfl, q1⟩ := arG_out rd_word q0
  exact ⟨_, _, q1, nb 1 Tryz.f57 (by kernel_rfl), _, run_w_toWord a⟩

def pf_w_szWordS : PF := ⟨[.t 4], .r [.mv 4 (.i 0)] (.r [.m 5 1, .m 6 0, .len 7 false 6, .bin 8 .sub 5 7, .m 1 8] (.seq (.r [.m 9 1, .bin 10 .lss 9 (.i 0)] (.cond 10 (.r [.mv 4 (.i (-1))] .ret) .skip)) (.r [.m 11 1, .m 4 11] .ret)))⟩
def c_w_szWordS : Fun := ⟨85, [], fun ts K => as2 ts fun t0 t1 => arC (pL .word) t0 fun a => arC (pI .i64) t1 fun k => chk (a.length ≤ 9223372036854775807 ∧ 0 ≤ k ∧ k ≤ 1048576) (K (tN (szr k a.length)) [])⟩
theorem run_w_szWordS (a : List (FT.Ty .word)) (k : Int) (hpre : a.length ≤ 9223372036854775807 ∧ 0 ≤ k ∧ k ≤ 1048576) : runK [] (0) [] pf_w_szWordS [tL false .word a, tI .i64 k] fun r o => r = tN (szr k a.length) ∧ o = [] := by
  conv => whnf
  rw [wrap_id (by omega) (by omega)]
  refine sel_i (fun h => ?_) (fun h => ?_) <;> conv => whnf
  · refine ⟨?_, rfl⟩; rw [szr_t (by simpa using h)]
  · refine ⟨?_, rfl⟩; rw [szr_f (by simpa using h)]
theorem ok_w_szWordS : FunOk Tryz.prog c_w_szWordS := funOk (eN) mixd Tryz.func85 (pf := pf_w_szWordS) (by kernel_rfl) fun ts K h => by
  obtain ⟨t0, t1, rfl, q0⟩ := as2_out h
  obtain ⟨a, rfl, q1⟩ := arC_out (rd_l .word) q0
  obtain ⟨k, rfl, q2⟩ := arC_out (rd_int .i64) q1
  obtain ⟨hpre, hk⟩ := chk_o q2
  exact ⟨_, _, hk, nb 2 Tryz.f85 (by kernel_rfl), _, run_w_szWordS a k hpre⟩

def lb_w_toWordS_0 : PC := .seq (.r [.m 8 4, .m 9 0, .len 10 false 9, .bin 11 .lss 8 10] (.cond 11 .skip (.exit 0))) (.seq (.blk 1 (.reg [.m 14 3, .m 15 4, .m 16 0, .m 17 4, .ia 18 .word 16 17, .L 19 6 18, .c 20 57 [19], .ia 21 .word 14 15, .o 6 21 20])) (.reg [.m 12 4, .bin 13 .add 12 (.i 1), .m 4 13]))
def pf_w_toWordS : PF := ⟨[.t 2], .r [.mv 2 (.k (.v (.c (.nils .word))))] (.r [.m 5 0, .len 6 false 5, .s (.mkS 7 .word 6), .m 3 7] (.seq (.r [.mv 4 (.i 0)] (.blk 0 (.loop [0, 3, 4] lb_w_toWordS_0))) (.r [.m 22 3, .m 2 22] .ret)))⟩
def c_w_toWordS : Fun := ⟨104, [], fun ts K => as1 ts fun t0 => arC (pL .word) t0 fun a => chk (a.length ≤ 2147483647) (K (tL true .word a) [])⟩
theorem run_w_toWordS (a : List (FT.Ty .word)) (hpre : a.length ≤ 2147483647) : runK [c_w_toWord] (a.length + 1) [] pf_w_toWordS [tL false .word a] fun r o => r = tL true .word a ∧ o = [] := by
  conv => whnf
  refine chk_i ⟨by omega, by omega⟩ ?_
  conv => whnf
  refine loop (α := Nat × List (FT.Ty .word)) (fun p => ⟨[(0, .v (.c (.sl false .word 0))), (3, .v (.c (.sl true .word 1))), (4, .v (.c (.int .i64 (p.1 : Int))))], [(1, some (.flat true .word none p.2)), (0, some (.flat false .word none a))], nums.tail.tail, [], false, []⟩)
      (fun p => p.1 ≤ a.length ∧ p.2 = a.take p.1 ++ (List.replicate a.length (FT.zero .word)).drop p.1) (fun p => a.length - p.1) (fun p R hI hR => ?_) (0, List.replicate a.length (FT.zero .word)) _ ⟨by simp, by simp⟩ (by simp)
  obtain ⟨i, xs⟩ := p
  obtain ⟨hi, hx⟩ := hI
  dsimp only at hi hx
  have hlen : xs.length = a.length := by rw [hx]; simp; omega
  dsimp only
  conv => whnf
  refine sel_i (fun h2 => ?_) (fun h2 => ?_)
  · have hlt : i < a.length := by simp at h2; omega
    have hge : a[i]? = some (a.getD i (FT.zero .word)) := by simp [List.getD_eq_getElem?_getD, hlt]
    conv => whnf
    repeat' (refine chk_c ?_ ?_ <;> conv => whnf)
    all_goals first
      | (refine ⟨?_⟩; omega)
      | (refine ⟨?_⟩; simp; done)
      | (refine ⟨?_⟩; simp; omega)
      | skip
    simp (disch := omega) only [wrap_id, Int.toNat_natCast]
    exact hR (i + 1, xs.set i (a.getD i (FT.zero .word))) ⟨by omega, by rw [hx]; exact set_mid (by simp) (by simpa using hlt) hge⟩ (by simp; omega)
  · have hge : i = a.length := by simp at h2; omega
    subst hge
    conv => whnf
    refine ⟨?_, rfl⟩
    rw [hx, List.take_of_length_le (by omega), List.drop_eq_nil_of_le (by simp), List.append_nil]
theorem ok_w_toWordS : FunOk Tryz.prog c_w_toWordS := funOk (eK ok_w_toWord eN) mixd Tryz.func104 (pf := pf_w_toWordS) (by kernel_rfl) fun ts K h => by
  obtain ⟨t0, rfl, q0⟩ := as1_out h
  obtain ⟨a, rfl, q1⟩ := arC_out (rd_l .word) q0
  obtain ⟨hpre, hk⟩ := chk_o q1
  exact ⟨_, _, hk, nb 1 Tryz.f104 (by kernel_rfl), _, run_w_toWordS a hpre⟩

def pf_w_szBoolS : PF := ⟨[.t 4], .r [.mv 4 (.i 0)] (.r [.m 5 1, .m 6 0, .len 7 false 6, .bin 8 .sub 5 7, .m 1 8] (.seq (.r [.m 9 1, .bin 10 .lss 9 (.i 0)] (.cond 10 (.r [.mv 4 (.i (-1))] .ret) .skip)) (.r [.m 11 1, .m 4 11] .ret)))⟩
def c_w_szBoolS : Fun := ⟨138, [], fun ts K => as2 ts fun t0 t1 => arC (pL .bool) t0 fun a => arC (pI .i64) t1 fun k => chk (a.length ≤ 9223372036854775807 ∧ 0 ≤ k ∧ k ≤ 1048576) (K (tN (szr k a.length)) [])⟩
theorem run_w_szBoolS (a : List (FT.Ty .bool)) (k : Int) (hpre : a.length ≤ 9223372036854775807 ∧ 0 ≤ k ∧ k ≤ 1048576) : runK [] (0) [] pf_w_szBoolS [tL false .bool a, tI .i64 k] fun r o => r = tN (szr k a.length) ∧ o = [] := by
  conv => whnf
  rw [wrap_id (by omega) (by omega)]
  refine sel_i (fun h => ?_) (fun h => ?_) <;> conv => whnf
  · refine ⟨?_, rfl⟩; rw [szr_t (by simpa using h)]
  · refine ⟨?_, rfl⟩; rw [szr_f (by simpa using h)]
theorem ok_w_szBoolS : FunOk Tryz.prog c_w_szBoolS := funOk (eN) mixd Tryz.func138 (pf := pf_w_szBoolS) (by kernel_rfl) fun ts K h => by
  obtain ⟨t0, t1, rfl, q0⟩ := as2_out h
  obtain ⟨a, rfl, q1⟩ := arC_out (rd_l .bool) q0
  obtain ⟨k, rfl, q2⟩ := arC_out (rd_int .i64) q1
  obtain ⟨hpre, hk⟩ := chk_o q2
  exact ⟨_, _, hk, nb 2 Tryz.f138 (by kernel_rfl), _, run_w_szBoolS a k hpre⟩

def lb_w_toBoolS_0 : PC := .seq (.r [.m 8 4, .m 9 0, .len 10 false 9, .bin 11 .lss 8 10] (.cond 11 .skip (.exit 0))) (.seq (.blk 1 (.reg [.m 14 3, .m 15 4, .m 16 0, .m 17 4, .ia 18 .bool 16 17, .l 19 1 18, .ia 20 .bool 14 15, .o 1 20 19])) (.reg [.m 12 4, .bin 13 .add 12 (.i 1), .m 4 13]))
def pf_w_toBoolS : PF := ⟨[.t 2], .r [.mv 2 (.k (.v (.c (.nils .bool))))] (.r [.m 5 0, .len 6 false 5, .s (.mkS 7 .bool 6), .m 3 7] (.seq (.r [.mv 4 (.i 0)] (.blk 0 (.loop [0, 3, 4] lb_w_toBoolS_0))) (.r [.m 21 3, .m 2 21] .ret)))⟩
def c_w_toBoolS : Fun := ⟨154, [], fun ts K => as1 ts fun t0 => arC (pL .bool) t0 fun a => chk (a.length ≤ 2147483647) (K (tL true .bool a) [])⟩
theorem run_w_toBoolS (a : List (FT.Ty .bool)) (hpre : a.length ≤ 2147483647) : runK [] (a.length + 1) [] pf_w_toBoolS [tL false .bool a] fun r o => r = tL true .bool a ∧ o = [] := by
  conv => whnf
  refine chk_i ⟨by omega, by omega⟩ ?_
  conv => whnf
  refine loop (α := Nat × List (FT.Ty .bool)) (fun p => ⟨[(0, .v (.c (.sl false .bool 0))), (3, .v (.c (.sl true .bool 1))), (4, .v (.c (.int .i64 (p.1 : Int))))], [(1, some (.flat true .bool none p.2)), (0, some (.flat false .bool none a))], nums.tail.tail, [], false, []⟩)
      (fun p => p.1 ≤ a.length ∧ p.2 = a.take p.1 ++ (List.replicate a.length (FT.zero .bool)).drop p.1) (fun p => a.length - p.1) (fun p R hI hR => ?_) (0, List.replicate a.length (FT.zero .bool)) _ ⟨by simp, by simp⟩ (by simp)
  obtain ⟨i, xs⟩ := p
  obtain ⟨hi, hx⟩ := hI
  dsimp only at hi hx
  have hlen : xs.length = a.length := by rw [hx]; simp; omega
  dsimp only
  conv => whnf
  refine sel_i (fun h2 => ?_) (fun h2 => ?_)
  · have hlt : i < a.length := by simp at h2; omega
    have hge : a[i]? = some (a.getD i (FT.zero .bool)) := by simp [List.getD_eq_getElem?_getD, hlt]
    conv => whnf
    repeat' (refine chk_c ?_ ?_ <;> conv => whnf)
    all_goals first
      | (refine ⟨?_⟩; omega)
      | (refine ⟨?_⟩; simp; done)
      | (refine ⟨?_⟩; simp; omega)
      | skip
    simp (disch := omega) only [wrap_id, Int.toNat_natCast]
    exact hR (i + 1, xs.set i (a.getD i (FT.zero .bool))) ⟨by omega, by rw [hx]; exact set_mid (by simp) (by simpa using hlt) hge⟩ (by simp; omega)
  · have hge : i = a.length := by simp at h2; omega
    subst hge
    conv => whnf
    refine ⟨?_, rfl⟩
    rw [hx, List.take_of_length_le (by omega), List.drop_eq_nil_of_le (by simp), List.append_nil]
theorem ok_w_toBoolS : FunOk Tryz.prog c_w_toBoolS := funOk (eN) mixd Tryz.func154 (pf := pf_w_toBoolS) (by kernel_rfl) fun ts K h => by
  obtain ⟨t0, rfl, q0⟩ := as1_out h
  obtain ⟨a, rfl, q1⟩ := arC_out (rd_l .bool) q0
  obtain ⟨hpre, hk⟩ := chk_o q1
  exact ⟨_, _, hk, nb 1 Tryz.f154 (by kernel_rfl), _, run_w_toBoolS a hpre⟩

def pf_slices_Clone_Word : PF := ⟨[.t 2], .r [.mv 2 (.k (.v (.c (.nils .word))))] (.seq (.r [.m 3 0, .s (.isnil 4 3)] (.cond 4 (.r [.mv 2 (.k (.v (.c (.nils .word))))] .ret) .skip)) (.r [.bs 5 .word [], .m 6 0, .app 7 .word 5 6, .m 2 7] .ret))⟩
def c_slices_Clone_Word : Fun := ⟨156, [], fun ts K => as1 ts fun t0 => arC (pL .word) t0 fun a => chk (a.length ≤ 2147483647) (K (tL true .word a) [])⟩
theorem ok_slices_Clone_Word : FunOk Tryz.prog c_slices_Clone_Word := funOkN (E := []) envOk_nil mixd Tryz.func156 (pf := pf_slices_Clone_Word) (by kernel_rfl) rfl (Nat.le_of_ble_eq_true (show Nat.ble 1 Tryz.f156.ntmps = true by kernel_rfl)) fun ts K h => by
  obtain ⟨t0, e0, h⟩ := as1_out h
  subst e0
  obtain ⟨a, e1, h⟩ := arC_out (rd_l .word) h
  subst e1
  obtain ⟨hpre, h⟩ := chk_o h
  refine ⟨.word, a, _, rfl, h, 0, fun e => ?_, ?_⟩
  · subst e
    conv => whnf
    exact ⟨rfl, rfl⟩
  · conv => whnf
    repeat' (refine chk_c ?_ ?_ <;> conv => whnf)
    all_goals first
      | (refine ⟨?_⟩; simp; omega)
      | exact ⟨rfl, rfl⟩

def pf_slices_Clone_bool : PF := ⟨[.t 2], .r [.mv 2 (.k (.v (.c (.nils .bool))))] (.seq (.r [.m 3 0, .s (.isnil 4 3)] (.cond 4 (.r [.mv 2 (.k (.v (.c (.nils .bool))))] .ret) .skip)) (.r [.bs 5 .bool [], .m 6 0, .app 7 .bool 5 6, .m 2 7] .ret))⟩
def c_slices_Clone_bool : Fun := ⟨201, [], fun ts K => as1 ts fun t0 => arC (pL .bool) t0 fun a => chk (a.length ≤ 2147483647) (K (tL true .bool a) [])⟩
theorem ok_slices_Clone_bool : FunOk Tryz.prog c_slices_Clone_bool := funOkN (E := []) envOk_nil mixd Tryz.func201 (pf := pf_slices_Clone_bool) (by kernel_rfl) rfl (Nat.le_of_ble_eq_true (show Nat.ble 1 Tryz.f201.ntmps = true by kernel_rfl)) fun ts K h => by
  obtain ⟨t0, e0, h⟩ := as1_out h
  subst e0
  obtain ⟨a, e1, h⟩ := arC_out (rd_l .bool) h
  subst e1
  obtain ⟨hpre, h⟩ := chk_o h
  refine ⟨.bool, a, _, rfl, h, 0, fun e => ?_, ?_⟩
  · subst e
    conv => whnf
    exact ⟨rfl, rfl⟩
  · conv => whnf
    repeat' (refine chk_c ?_ ?_ <;> conv => whnf)
    all_goals first
      | (refine ⟨?_⟩; simp; omega)
      | exact ⟨rfl, rfl⟩

def szB (x : Int) (f : Int → Int) : Int := if x < 0 then -1 else f x
theorem szr_le {k : Int} {n : Nat} (h : 0 ≤ k) : szr k n ≤ k := by unfold szr; split <;> omega
theorem szr_ge {k : Int} {n : Nat} : -1 ≤ szr k n := by unfold szr; split <;> omega
theorem szr_n {k : Int} {n : Nat} (h : 0 ≤ szr k n) : (n : Int) ≤ k ∧ szr k n = k - n := by unfold szr at *; split at h <;> omega
def szMem (m : Mem) (k : Int) : Int := szB (szr k m.words.length) fun k => szr k m.gone.length
theorem szB_pos {x : Int} {f : Int → Int} (h : 0 ≤ szB x f) : 0 ≤ x ∧ 0 ≤ f x ∧ szB x f = f x := by
  unfold szB at h ⊢; split at h
  · omega
  · rename_i hx; rw [if_neg hx]; exact ⟨by omega, h, rfl⟩
theorem szMem_pos {m : Mem} {k : Int} (h : 0 ≤ szMem m k) : 0 ≤ szr k m.words.length ∧ 0 ≤ szr (szr k m.words.length) m.gone.length ∧ szMem m k = szr (szr k m.words.length) m.gone.length := szB_pos h
theorem szMem_le {m : Mem} {k : Int} (h : 0 ≤ k) : szMem m k ≤ k := by
  by_cases hp : 0 ≤ szMem m k
  · obtain ⟨h1, h2, h3⟩ := szMem_pos hp
    have := szr_le (n := m.words.length) h; have := szr_le (n := m.gone.length) h1; omega
  · omega
def LMem (m : Mem) (n : Nat) : Prop := m.words.length ≤ n ∧ m.gone.length ≤ n
def LTwo (t : Two) (n : Nat) : Prop := LMem t.mem n ∧ t.a.regs.length ≤ n ∧ t.b.regs.length ≤ n
theorem szMem_n {m : Mem} {k : Int} (h0 : k ≤ 1048576) (h : 0 ≤ szMem m k) : LMem m 1048576 ∧ szMem m k ≤ k := by
  obtain ⟨h1, h2, h3⟩ := szMem_pos h
  have h4 := szr_n h1; have h5 := szr_n h2
  exact ⟨⟨by omega, by omega⟩, by omega⟩
def pf_w_szMemory : PF := ⟨[.t 4], .r [.box 2 0, .mv 4 (.i 0)] (.r [.f 5 2 0, .l 6 1 5, .m 7 1, .c 8 85 [6, 7], .m 1 8] (.seq (.r [.m 9 1, .bin 10 .lss 9 (.i 0)] (.cond 10 (.r [.mv 4 (.i (-1))] .ret) .skip)) (.r [.f 11 2 1, .l 12 1 11, .m 13 1, .c 14 138 [12, 13], .m 1 14] (.seq (.r [.m 15 1, .bin 16 .lss 15 (.i 0)] (.cond 16 (.r [.mv 4 (.i (-1))] .ret) .skip)) (.r [.m 17 1, .m 4 17] .ret)))))⟩
def c_w_szMemory : Fun := ⟨86, [], fun ts K => as2 ts fun t0 t1 => arG pMemT t0 fun m => arC (pI .i64) t1 fun k => chk (LMem m 9223372036854775807 ∧ 0 ≤ k ∧ k ≤ 1048576) (K (tN (szMem m k)) [])⟩
theorem run_w_szMemory (m : Mem) (k : Int) (hpre : LMem m 9223372036854775807 ∧ 0 ≤ k ∧ k ≤ 1048576) : runK [c_w_szWordS, c_w_szBoolS] (0) [] pf_w_szMemory [tG (m.tc false []), tI .i64 k] fun r o => r = tN (szMem m k) ∧ o = [] := by
  obtain ⟨⟨l1, l2⟩, hk, hk2⟩ := hpre
  have h0 := szr_le (n := m.words.length) hk
  conv => whnf
  refine chk_i ⟨l1, hk, hk2⟩ ?_
  conv => whnf
  refine sel_i (fun h => ?_) (fun h => ?_)
  · conv => whnf
    refine ⟨?_, rfl⟩; simp at h; simp [szMem, szB, h]
  · simp at h
    conv => whnf
    refine chk_i ⟨l2, h, by omega⟩ ?_
    conv => whnf
    refine sel_i (fun h2 => ?_) (fun h2 => ?_) <;> conv => whnf
    · refine ⟨?_, rfl⟩; simp at h2; have := szr_ge (k := szr k m.words.length) (n := m.gone.length); simp [szMem, szB, show ¬ szr k m.words.length < 0 by omega]; omega
    · refine ⟨?_, rfl⟩; simp [szMem, szB, show ¬ szr k m.words.length < 0 by omega]
theorem ok_w_szMemory : FunOk Tryz.prog c_w_szMemory := funOk (eK ok_w_szWordS (eK ok_w_szBoolS eN)) mixd Tryz.func86 (pf := pf_w_szMemory) (by kernel_rfl) fun ts K h => by
  obtain ⟨t0, t1, rfl, q0⟩ := as2_out h
  obtain ⟨m, rfl, q1⟩ := arG_out rd_mem q0
  obtain ⟨k, rfl, q2⟩ := arC_out (rd_int .i64) q1
  obtain ⟨hpre, hk⟩ := chk_o q2
  exact ⟨_, _, hk, nb 2 Tryz.f86 (by kernel_rfl), _, run_w_szMemory m k hpre⟩

def pf_w_toMemory : PF := ⟨[.c 2 true 2], .r [.box 1 0, .alloc 2 zcM] (.r [.alloc 3 zcM] (.r [.f 4 1 0, .l 5 1 4, .c 6 104 [5], .f 7 3 0, .o 1 7 6] (.r [.f 8 1 1, .l 9 1 8, .c 10 154 [9], .f 11 3 1, .o 1 11 10] (.r [.L 12 2 3, .o 2 2 12] .ret))))⟩
def c_w_toMemory : Fun := ⟨105, [], fun ts K => as1 ts fun t0 => arG pMemT t0 fun m => chk (LMem m 2147483647) (K (tG (m.tc true [])) [])⟩
theorem run_w_toMemory (m : Mem) (hpre : LMem m 2147483647) : runK [c_w_toWordS, c_w_toBoolS] (0) [] pf_w_toMemory [tG (m.tc false [])] fun r o => r = tG (m.tc true []) ∧ o = [] := by
  obtain ⟨l1, l2⟩ := hpre
  conv => whnf
  repeat' (first | (refine chk_c ?_ ?_ <;> conv => whnf) | (refine And.intro ?_ ?_ <;> conv => whnf))
  all_goals first
    | (refine ⟨?_⟩; omega)
    | (refine ⟨?_⟩; simp; done)
    | (refine ⟨?_⟩; simp [LMem, LTwo] at *; omega)
    | rfl
    | exact True.intro
    | exact ⟨rfl, rfl⟩
theorem ok_w_toMemory : FunOk Tryz.prog c_w_toMemory := funOk (eK ok_w_toWordS (eK ok_w_toBoolS eN)) mixd Tryz.func105 (pf := pf_w_toMemory) (by kernel_rfl) fun ts K h => by
  obtain ⟨t0, rfl, q0⟩ := as1_out h
  obtain ⟨m, rfl, q1⟩ := arG_out rd_mem q0
  obtain ⟨hpre, hk⟩ := chk_o q1
  exact ⟨_, _, hk, nb 1 Tryz.f105 (by kernel_rfl), _, run_w_toMemory m hpre⟩

def pf_s_l8Copy : PF := ⟨[.c 2 true 2], .r [.box 1 0, .alloc 2 zcM] (.seq (.rgd [] [.bs 3 .word [], .f 4 1 0, .l 5 1 4, .app 6 .word 3 5, .bs 7 .bool [], .f 8 1 1, .l 9 1 8, .app 10 .bool 7 9, .build 11 zcM [(0, 1, 6), (1, 1, 10)], .o 2 2 11] (.ts [1, 2, 5, 6] (.alt 0 false (.alt 3 false (.one 4 false (.one 7 true (.tk 8 (.one 9 true (.done (some [2])))))) (.alt 4 false (.one 3 false (.one 7 true (.tk 8 (.one 9 true (.done (some [2])))))) .nil)) (.alt 4 false (.one 0 false (.one 3 false (.one 7 true (.tk 8 (.one 9 true (.done (some [2]))))))) .nil)))) .ret)⟩
def c_s_l8Copy : Fun := ⟨102, [], fun ts K => as1 ts fun t0 => arG pMemT t0 fun m => chk (LMem m 2147483647) (K (tG (m.tc true [])) [])⟩
theorem run_s_l8Copy (m : Mem) (hpre : LMem m 2147483647) : runK [] (0) [] pf_s_l8Copy [tG (m.tc false [])] fun r o => r = tG (m.tc true []) ∧ o = [] := by
  obtain ⟨l1, l2⟩ := hpre
  conv => whnf
  repeat' (first | (refine chk_c ?_ ?_ <;> conv => whnf) | (refine And.intro ?_ ?_ <;> conv => whnf))
  all_goals first
    | (refine ⟨?_⟩; omega)
    | (refine ⟨?_⟩; simp; done)
    | (refine ⟨?_⟩; simp [LMem, LTwo] at *; omega)
    | rfl
    | exact True.intro
    | exact ⟨rfl, rfl⟩
theorem ok_s_l8Copy : FunOk Tryz.prog c_s_l8Copy := funOk (eN) mixd Tryz.func102 (pf := pf_s_l8Copy) (by kernel_rfl) fun ts K h => by
  obtain ⟨t0, rfl, q0⟩ := as1_out h
  obtain ⟨m, rfl, q1⟩ := arG_out rd_mem q0
  obtain ⟨hpre, hk⟩ := chk_o q1
  exact ⟨_, _, hk, nb 1 Tryz.f102 (by kernel_rfl), _, run_s_l8Copy m hpre⟩

def pf_i_cloneMemory : PF := ⟨[.c 2 true 2], .r [.box 1 0, .alloc 2 zcM] (.seq (.rgd [] [.f 3 1 0, .l 4 1 3, .c 5 156 [4], .f 6 1 1, .l 7 1 6, .c 8 201 [7], .build 9 zcM [(0, 1, 5), (1, 1, 8)], .o 2 2 9] (.ts [0, 1, 3, 4] (.one 2 false (.one 5 true (.tk 6 (.one 7 true .d)))))) .ret)⟩
def c_i_cloneMemory : Fun := ⟨157, [], fun ts K => as1 ts fun t0 => arG pMemT t0 fun m => chk (LMem m 2147483647) (K (tG (m.tc true [])) [])⟩
theorem run_i_cloneMemory (m : Mem) (hpre : LMem m 2147483647) : runK [c_slices_Clone_Word, c_slices_Clone_bool] (0) [] pf_i_cloneMemory [tG (m.tc false [])] fun r o => r = tG (m.tc true []) ∧ o = [] := by
  obtain ⟨l1, l2⟩ := hpre
  conv => whnf
  repeat' (first | (refine chk_c ?_ ?_ <;> conv => whnf) | (refine And.intro ?_ ?_ <;> conv => whnf))
  all_goals first
    | (refine ⟨?_⟩; omega)
    | (refine ⟨?_⟩; simp; done)
    | (refine ⟨?_⟩; simp [LMem, LTwo] at *; omega)
    | rfl
    | exact True.intro
    | exact ⟨rfl, rfl⟩
theorem ok_i_cloneMemory : FunOk Tryz.prog c_i_cloneMemory := funOk (eK ok_slices_Clone_Word (eK ok_slices_Clone_bool eN)) mixd Tryz.func157 (pf := pf_i_cloneMemory) (by kernel_rfl) fun ts K h => by
  obtain ⟨t0, rfl, q0⟩ := as1_out h
  obtain ⟨m, rfl, q1⟩ := arG_out rd_mem q0
  obtain ⟨hpre, hk⟩ := chk_o q1
  exact ⟨_, _, hk, nb 1 Tryz.f157 (by kernel_rfl), _, run_i_cloneMemory m hpre⟩

def sideState (t : Two) (who : Int) : State :=
  if who = 0 then ⟨t.a.regs, t.a.pc, t.mem, t.a.trap⟩ else if who = 1 then ⟨t.b.regs, t.b.pc, t.mem, t.b.trap⟩ else ⟨[], ⟨0, false, ⟨0, 0, 0, 0⟩⟩, ⟨[], []⟩, 0⟩

def LState (s : State) (n : Nat) : Prop := s.regs.length ≤ n ∧ LMem s.mem n

def pf_w_eqState : PF := ⟨[.t 4], .r [.box 2 0, .box 3 1, .mv 4 .F] (.seq (.r [.f 5 2 0, .l 6 1 5, .f 7 3 0, .l 8 1 7, .c 9 130 [6, 8], .bnot 10 9] (.cond 10 (.r [.mv 4 .F] .ret) .skip)) (.seq (.r [.f 11 2 1, .L 12 6 11, .f 13 3 1, .L 14 6 13, .c 15 80 [12, 14], .bnot 16 15] (.cond 16 (.r [.mv 4 .F] .ret) .skip)) (.seq (.r [.f 17 2 7, .L 18 2 17, .f 19 3 7, .L 20 2 19, .c 21 131 [18, 20], .bnot 22 21] (.cond 22 (.r [.mv 4 .F] .ret) .skip)) (.seq (.r [.f 23 2 9, .l 24 1 23, .f 25 3 9, .l 26 1 25, .bin 27 .neq 24 26] (.cond 27 (.r [.mv 4 .F] .ret) .skip)) (.r [.mv 4 .T] .ret)))))⟩
def c_w_eqState : Fun := ⟨78, [], fun ts K => as2 ts fun t0 t1 => arG pStateT t0 fun a => arG pStateT t1 fun b => chk (LState a 2147483647) (K (tB (decide (a = b))) [])⟩
theorem run_w_eqState (a : State) (b : State) (hpre : LState a 2147483647) : runK [c_w_eqWord, c_w_eqWordS, c_w_eqMemory] (0) [] pf_w_eqState [tG (a.tc false []), tG (b.tc false [])] fun r o => r = tB (decide (a = b)) ∧ o = [] := by
  obtain ⟨l1, l2, l3⟩ := hpre
  obtain ⟨a1, ⟨a2n, a2i, ⟨a2a, a2b, a2c, a2d⟩⟩, ⟨a3, a5⟩, a4⟩ := a
  obtain ⟨b1, ⟨b2n, b2i, ⟨b2a, b2b, b2c, b2d⟩⟩, ⟨b3, b5⟩, b4⟩ := b
  dsimp only at l1 l2 l3
  conv => whnf
  repeat' (first | (refine sel_i (fun h => ?_) (fun h => ?_) <;> conv => whnf) | (refine chk_c ?_ ?_ <;> conv => whnf))
  all_goals first
    | (refine ⟨?_⟩; assumption)
    | (refine ⟨?_⟩; exact ⟨by assumption, by assumption⟩)
    | (refine ⟨?_, rfl⟩; simp_all; done)
    | (refine ⟨?_, rfl⟩; simp_all; intros; simp_all; done)
theorem ok_w_eqState : FunOk Tryz.prog c_w_eqState := funOk (eK ok_w_eqWord (eK ok_w_eqWordS (eK ok_w_eqMemory eN))) mixd Tryz.func78 (pf := pf_w_eqState) (by kernel_rfl) fun ts K h => by
  obtain ⟨t0, t1, rfl, q0⟩ := as2_out h
  obtain ⟨a, rfl, q1⟩ := arG_out rd_state q0
  obtain ⟨b, rfl, q2⟩ := arG_out rd_state q1
  obtain ⟨hpre, hk⟩ := chk_o q2
  exact ⟨_, _, hk, nb 2 Tryz.f78 (by kernel_rfl), _, run_w_eqState a b hpre⟩

def endState (m : State) (k : Int) : Int := endMemory m.mem (k + 6 * m.regs.length)
def markState (m : State) (k : Int) : State := { m with regs := mkWordS m.regs.length (k), mem := markMemory m.mem (k + 6 * m.regs.length) }
def SzState (m : State) : Prop := m.regs.length ≤ 2147483647 ∧ SzMemory m.mem
theorem etaState (m : State) : (⟨m.regs, m.pc, m.mem, m.trap⟩ : State) = m := rfl

def pf_w_markState : PF := ⟨[.t 4], .r [.box 2 0, .mv 4 (.i 0)] (.r [.f 5 2 0, .l 6 1 5, .m 7 1, .c 8 134 [6, 7], .m 1 8] (.r [.f 9 2 7, .L 10 2 9, .m 11 1, .c 12 135 [10, 11], .m 1 12] (.r [.m 13 1, .m 4 13] .ret)))⟩
def c_w_markState : Fun := ⟨81, [true, false], fun ts K => as2 ts fun t0 t1 => arG pStateO t0 fun m => arC (pI .i64) t1 fun k => chk (0 ≤ k ∧ k ≤ 281474976710656 ∧ SzState m) (K (tN (endState m k)) ([tG ((markState m k).tc true [])]))⟩
theorem run_w_markState (m : State) (k : Int) (hpre : 0 ≤ k ∧ k ≤ 281474976710656 ∧ SzState m) : runK [c_w_markWordS, c_w_markMemory] (0) [true, false] pf_w_markState [tG (m.tc true []), tI .i64 k] fun r o => r = tN (endState m k) ∧ o = [tG ((markState m k).tc true [])] := by
  conv => whnf
  repeat' (refine chk_c ?_ ?_ <;> conv => whnf)
  all_goals first
    | (refine ⟨?_⟩; (try dsimp only); simp only [SzState, endState, markState, SzMemory, endMemory, markMemory] at *; omega)
    | (refine ⟨?_⟩; (try dsimp only); simp only [SzState, endState, markState, SzMemory, endMemory, markMemory, mkWordS_length, mkBoolS_length] at *; omega)
    | (refine ⟨?_⟩; (try dsimp only); simp [SzState, endState, markState, SzMemory, endMemory, markMemory, mkWordS_length, mkBoolS_length]; done)
    | exact ⟨rfl, rfl⟩
theorem ok_w_markState : FunOk Tryz.prog c_w_markState := funOk (eK ok_w_markWordS (eK ok_w_markMemory eN)) mixd Tryz.func81 (pf := pf_w_markState) (by kernel_rfl) fun ts K h => by
  obtain ⟨t0, t1, rfl, q0⟩ := as2_out h
  obtain ⟨m, rfl, q1⟩ := arG_out rd_stateO q0
  obtain ⟨k, rfl, q2⟩ := arC_out (rd_int .i64) q1
  obtain ⟨hpre, hk⟩ := chk_o q2
  exact ⟨_, _, hk, nb 2 Tryz.f81 (by kernel_rfl), _, run_w_markState m k hpre⟩

def pf_w_heldState : PF := ⟨[.t 4], .r [.box 2 0, .mv 4 (.i 0)] (.r [.f 5 2 0, .l 6 1 5, .m 7 1, .c 8 136 [6, 7], .m 1 8] (.seq (.r [.m 9 1, .bin 10 .lss 9 (.i 0)] (.cond 10 (.r [.mv 4 (.i (-1))] .ret) .skip)) (.r [.f 11 2 7, .L 12 2 11, .m 13 1, .c 14 137 [12, 13], .m 1 14] (.seq (.r [.m 15 1, .bin 16 .lss 15 (.i 0)] (.cond 16 (.r [.mv 4 (.i (-1))] .ret) .skip)) (.r [.m 17 1, .m 4 17] .ret)))))⟩
def c_w_heldState : Fun := ⟨83, [], fun ts K => as2 ts fun t0 t1 => arG pStateT t0 fun m => arC (pI .i64) t1 fun k => chk (0 ≤ k ∧ k ≤ 281474976710656 ∧ SzState m) (K (tN (hres (m = markState m k) (endState m k))) [])⟩
theorem run_w_heldState (m : State) (k : Int) (hpre : 0 ≤ k ∧ k ≤ 281474976710656 ∧ SzState m) : runK [c_w_heldWordS, c_w_heldMemory] (0) [] pf_w_heldState [tG (m.tc false []), tI .i64 k] fun r o => r = tN (hres (m = markState m k) (endState m k)) ∧ o = [] := by
  have hsz := hpre.2.2
  conv => whnf
  refine chk_i (by (try dsimp only); simp only [SzState, endState, markState, SzMemory, endMemory, markMemory] at *; omega) ?_
  conv => whnf
  refine sel_i (fun h => ?_) (fun h => ?_)
  · have hn := hres_t (by (try dsimp only); simp only [SzState, endState, markState, SzMemory, endMemory, markMemory] at *; omega) h
    conv => whnf
    refine ⟨?_, rfl⟩
    rw [hres_no (fun e => hn (congrArg State.regs e))]
  obtain ⟨p0, e0⟩ := hres_f h
  conv => whnf
  simp only [e0]
  refine chk_i (by (try dsimp only); simp only [SzState, endState, markState, SzMemory, endMemory, markMemory] at *; omega) ?_
  conv => whnf
  refine sel_i (fun h => ?_) (fun h => ?_)
  · have hn := hres_t (by (try dsimp only); simp only [SzState, endState, markState, SzMemory, endMemory, markMemory] at *; omega) h
    conv => whnf
    refine ⟨?_, rfl⟩
    rw [hres_no (fun e => hn (congrArg State.mem e))]
  obtain ⟨p1, e1⟩ := hres_f h
  conv => whnf
  refine ⟨?_, rfl⟩
  rw [hres_yes (show m = markState m k from ?_)]
  · exact congrArg (fun x => tN x) e1
  · obtain ⟨m0, m1, m2, m3⟩ := m
    simp only [markState, State.mk.injEq, eq_self, and_true, true_and]
    exact ⟨p0, p1⟩
theorem ok_w_heldState : FunOk Tryz.prog c_w_heldState := funOk (eK ok_w_heldWordS (eK ok_w_heldMemory eN)) mixd Tryz.func83 (pf := pf_w_heldState) (by kernel_rfl) fun ts K h => by
  obtain ⟨t0, t1, rfl, q0⟩ := as2_out h
  obtain ⟨m, rfl, q1⟩ := arG_out rd_state q0
  obtain ⟨k, rfl, q2⟩ := arC_out (rd_int .i64) q1
  obtain ⟨hpre, hk⟩ := chk_o q2
  exact ⟨_, _, hk, nb 2 Tryz.f83 (by kernel_rfl), _, run_w_heldState m k hpre⟩

theorem LTwo.mono {t : Two} {n m : Nat} (h : LTwo t n) (k : n ≤ m) : LTwo t m := ⟨⟨Nat.le_trans h.1.1 k, Nat.le_trans h.1.2 k⟩, Nat.le_trans h.2.1 k, Nat.le_trans h.2.2 k⟩

def boundsOk (b t : Int) : Bool := decide (0 ≤ b) && decide (b ≤ t) && decide (t ≤ 4096)

def pf_i_BoundsOk : PF := ⟨[.t 4], .r [.mv 4 .F] (.r [.m 5 0, .m 6 1, .c 7 112 [5, (.i 0), 6], .m 8 7, .y 8 9 (.mv 9 1), .y 8 10 (.bin 10 .leq 9 (.i 4096)), .pick 11 8 10 .F, .m 4 11] .ret)⟩
def c_i_BoundsOk : Fun := ⟨205, [], fun ts K => as2 ts fun t0 t1 => arC (pI .i64) t0 fun b => arC (pI .i64) t1 fun t => K (tB (boundsOk b t)) []⟩
theorem run_i_BoundsOk (b : Int) (t : Int) : runK [c_i_in] (0) [] pf_i_BoundsOk [tI .i64 b, tI .i64 t] fun r o => r = tB (boundsOk b t) ∧ o = [] := by
  conv => whnf
  refine sel_i (fun h => ?_) (fun h => ?_) <;> conv => whnf
  all_goals (refine ⟨?_, rfl⟩; simp [inR] at h; simp [boundsOk] <;> omega)
theorem ok_i_BoundsOk : FunOk Tryz.prog c_i_BoundsOk := funOk (eK ok_i_in eN) mixd Tryz.func205 (pf := pf_i_BoundsOk) (by kernel_rfl) fun ts K h => by
  obtain ⟨t0, t1, rfl, q0⟩ := as2_out h
  obtain ⟨b, rfl, q1⟩ := arC_out (rd_int .i64) q0
  obtain ⟨t, rfl, q2⟩ := arC_out (rd_int .i64) q1
  exact ⟨_, _, q2, nb 2 Tryz.f205 (by kernel_rfl), _, run_i_BoundsOk b t⟩

def pf_s_BoundsOk : PF := ⟨[.t 4], .r [.mv 4 .F] (.r [.m 5 0, .c 6 53 [5, (.i 0), (.i 4096)], .m 7 6, .y 7 8 (.mv 8 1), .y 7 9 (.call (some 9) 53 [8, (.i 0), (.i 4096)]), .pick 10 7 9 .F, .m 11 10, .y 11 12 (.mv 12 0), .y 11 13 (.mv 13 1), .y 11 14 (.bin 14 .leq 12 13), .pick 15 11 14 .F, .m 4 15] .ret)⟩
def c_s_BoundsOk : Fun := ⟨190, [], fun ts K => as2 ts fun t0 t1 => arC (pI .i64) t0 fun b => arC (pI .i64) t1 fun t => K (tB (boundsOk b t)) []⟩
theorem run_s_BoundsOk (b : Int) (t : Int) : runK [c_s_l1In] (0) [] pf_s_BoundsOk [tI .i64 b, tI .i64 t] fun r o => r = tB (boundsOk b t) ∧ o = [] := by
  conv => whnf
  repeat' (refine sel_i (fun h => ?_) (fun h => ?_) <;> conv => whnf)
  all_goals (refine ⟨?_, rfl⟩; simp_all [inR, boundsOk] <;> omega)
theorem ok_s_BoundsOk : FunOk Tryz.prog c_s_BoundsOk := funOk (eK ok_s_l1In eN) mixd Tryz.func190 (pf := pf_s_BoundsOk) (by kernel_rfl) fun ts K h => by
  obtain ⟨t0, t1, rfl, q0⟩ := as2_out h
  obtain ⟨b, rfl, q1⟩ := arC_out (rd_int .i64) q0
  obtain ⟨t, rfl, q2⟩ := arC_out (rd_int .i64) q1
  exact ⟨_, _, q2, nb 2 Tryz.f190 (by kernel_rfl), _, run_s_BoundsOk b t⟩

def packB (b : Int) (e : Nat) : Int := b / 2 ^ e
def packL (b t : Int) (e : Nat) : Int := (t - b / 2 ^ e * 2 ^ e + 2 ^ e - 1) / 2 ^ e
theorem e_cases {e : Nat} (he : e ≤ 6) : e = 0 ∨ e = 1 ∨ e = 2 ∨ e = 3 ∨ e = 4 ∨ e = 5 ∨ e = 6 := by omega
theorem e_min {e : Nat} (he : e ≤ 6) : min (e : Int).toNat IntKind.i64.bits = e := by rcases e_cases he with rfl | rfl | rfl | rfl | rfl | rfl | rfl <;> decide
theorem p_pos (e : Nat) : (0 : Int) ≤ 2 ^ e := Int.le_of_lt (Int.pow_pos (by decide))
theorem shr_b {b : Int} {e : Nat} (he : e ≤ 6) : b.fdiv (2 ^ min (e : Int).toNat IntKind.i64.bits) = packB b e := by
  rw [e_min he, Int.fdiv_eq_ediv_of_nonneg _ (p_pos e)]; rfl
theorem shr_l {b t : Int} {e : Nat} (he : e ≤ 6) (h : 0 ≤ b) (h1 : b ≤ t) (h2 : t ≤ 4096) :
    (IntKind.i64.wrap (IntKind.i64.wrap (IntKind.i64.wrap (t - IntKind.i64.wrap (packB b e * 2 ^ min (e : Int).toNat IntKind.i64.bits)) + IntKind.i64.wrap (1 * 2 ^ min (e : Int).toNat IntKind.i64.bits)) - 1)).fdiv (2 ^ min (e : Int).toNat IntKind.i64.bits) = packL b t e := by
  rw [e_min he, Int.fdiv_eq_ediv_of_nonneg _ (p_pos e)]
  unfold packB packL
  rcases e_cases he with rfl | rfl | rfl | rfl | rfl | rfl | rfl <;> simp only [Int.reducePow, Int.pow_zero] <;>
    rw [wrap_id (n := _ * _) (by omega) (by omega), wrap_id (n := t - _) (by omega) (by omega), wrap_id (n := 1 * _) (by omega) (by omega), wrap_id (n := _ + _) (by omega) (by omega), wrap_id (by omega) (by omega)] <;> simp
theorem shr_m {b t : Int} {e : Nat} (he : e ≤ 6) (h : 0 ≤ b) (h1 : b ≤ t) (h2 : t ≤ 4096) :
    packB (IntKind.i64.wrap (IntKind.i64.wrap (IntKind.i64.wrap (t - IntKind.i64.wrap (packB b e * 2 ^ min (e : Int).toNat IntKind.i64.bits)) + IntKind.i64.wrap (1 * 2 ^ min (e : Int).toNat IntKind.i64.bits)) - 1)) e = packL b t e := by
  rw [← shr_l he h h1 h2, shr_b he]
def packOk (b t : Int) (e : Nat) : Bool := decide (packB b e ≤ 63) && decide (packL b t e ≤ 63)
def packGo (b t : Int) : Nat → Nat → Option Packed
  | 0, _ => none
  | n + 1, e => if packOk b t e then some ⟨e, packB b e, packL b t e⟩ else packGo b t n (e + 1)
def pack (b t : Int) : Option Packed := if boundsOk b t then packGo b t 7 0 else none
def packT (o : Option Packed) : Tree := .tup [.g ((o.getD ⟨0, 0, 0⟩).tc []), .c (.bool o.isSome)]
theorem pack_no {b t : Int} (h : boundsOk b t = false) : pack b t = none := by simp [pack, h]
theorem pack_yes {b t : Int} (h : boundsOk b t = true) : pack b t = packGo b t 7 0 := by simp [pack, h]
theorem packGo_t {b t : Int} {n e : Nat} (h : packOk b t e = true) : packGo b t (n + 1) e = some ⟨e, packB b e, packL b t e⟩ := by simp [packGo, h]
theorem packGo_f {b t : Int} {n e : Nat} (h : packOk b t e = false) : packGo b t (n + 1) e = packGo b t n (e + 1) := by simp [packGo, h]
theorem bounds_n {b t : Int} (h : boundsOk b t = true) : 0 ≤ b ∧ b ≤ t ∧ t ≤ 4096 := by simp [boundsOk] at h; omega

def lb_s_Pack_0 : PC := .seq (.r [.m 14 6, .bin 15 .leq 14 (.i 6)] (.cond 15 .skip (.exit 0))) (.seq (.blk 1 (.r [.m 18 0, .m 19 6, .bin 20 .shr 18 19, .m 7 20] (.seq (.rgd [] [.m 21 1, .m 22 7, .m 23 6, .bin 24 .shl 22 23, .bin 25 .sub 21 24, .m 26 6, .bin 27 .shl (.i 1) 26, .bin 28 .add 25 27, .bin 29 .sub 28 (.i 1), .m 30 6, .bin 31 .shr 29 30, .m 8 31] (.ts [0, 1, 2, 3, 4, 5, 6, 7, 8, 9, 10, 11] .d)) (.r [.m 32 7, .bin 33 .leq 32 (.i 63), .m 34 33, .y 34 35 (.mv 35 8), .y 34 36 (.bin 36 .leq 35 (.i 63)), .pick 37 34 36 .F] (.cond 37 (.r [.m 38 6, .m 39 7, .m 40 8, .build 41 [.int .i64 0, .int .i64 0, .int .i64 0] [(0, 1, 38), (1, 1, 39), (2, 1, 40)], .o 3 4 41, .mv 5 .T] .ret) .skip))))) (.reg [.m 16 6, .bin 17 .add 16 (.i 1), .m 6 17]))
def pf_s_Pack : PF := ⟨[.c 4 true 3, .t 5], .r [.alloc 4 [.int .i64 0, .int .i64 0, .int .i64 0], .mv 5 .F] (.seq (.r [.m 9 0, .m 10 1, .c 11 190 [9, 10], .bnot 12 11] (.cond 12 (.r [.build 13 [.int .i64 0, .int .i64 0, .int .i64 0] [], .o 3 4 13, .mv 5 .F] .ret) .skip)) (.seq (.r [.mv 6 (.i 0)] (.blk 0 (.loop [0, 1, 4, 6] lb_s_Pack_0))) (.r [.build 42 [.int .i64 0, .int .i64 0, .int .i64 0] [], .o 3 4 42, .mv 5 .F] .ret)))⟩
def c_s_Pack : Fun := ⟨232, [], fun ts K => as2 ts fun t0 t1 => arC (pI .i64) t0 fun b => arC (pI .i64) t1 fun t => K (packT (pack b t)) []⟩
theorem run_s_Pack (b : Int) (t : Int) : runK [c_s_BoundsOk] (8) [] pf_s_Pack [tI .i64 b, tI .i64 t] fun r o => r = packT (pack b t) ∧ o = [] := by
  conv => whnf
  refine sel_i (fun h => ?_) (fun h => ?_)
  · rw [pack_no (by simpa using h)]
    conv => whnf
    exact ⟨rfl, rfl⟩
  have hb : boundsOk b t = true := by simpa using h
  obtain ⟨b1, b2, b3⟩ := bounds_n hb
  rw [pack_yes hb]
  conv => whnf
  refine loop (α := Nat) (fun e => ⟨[(0, .v (.c (.int .i64 b))), (1, .v (.c (.int .i64 t))), (4, .v (.c (.ptr 0 0))), (6, .v (.c (.int .i64 (e : Int))))], [(0, some (.box true [.int .i64 0, .int .i64 0, .int .i64 0]))], nums.tail, [], false, []⟩)
      (fun e => e ≤ 7 ∧ packGo b t 7 0 = packGo b t (7 - e) e) (fun e => 7 - e) (fun e R hI hR => ?_) 0 _ ⟨by omega, rfl⟩ (by omega)
  obtain ⟨hI, hG⟩ := hI
  conv => whnf
  refine sel_i (fun h2 => ?_) (fun h2 => ?_)
  · have he : e ≤ 6 := by simp at h2; omega
    rw [show 7 - e = (6 - e) + 1 by omega] at hG
    conv => whnf
    repeat' (refine chk_c ?_ ?_ <;> conv => whnf)
    any_goals (refine ⟨?_⟩; omega)
    simp only [shr_b he, shr_m he b1 b2 b3]
    refine sel_i (fun h3 => ?_) (fun h3 => ?_)
    · conv => whnf
      refine sel_i (fun h4 => ?_) (fun h4 => ?_)
      · rw [hG, packGo_t (by simp only [packOk, h3, h4, Bool.and_self])]
        conv => whnf
        exact ⟨rfl, rfl⟩
      · conv => whnf
        rw [wrap_id (by omega) (by omega)]
        exact hR (e + 1) ⟨by omega, by rw [hG, packGo_f (by simp only [packOk, h3, h4, Bool.and_false])]; rw [show 7 - (e + 1) = 6 - e by omega]⟩ (by omega)
    · conv => whnf
      rw [wrap_id (by omega) (by omega)]
      exact hR (e + 1) ⟨by omega, by rw [hG, packGo_f (by simp only [packOk, h3, Bool.false_and])]; rw [show 7 - (e + 1) = 6 - e by omega]⟩ (by omega)
  · have he : e = 7 := by simp at h2; omega
    subst he
    rw [hG]
    conv => whnf
    exact ⟨rfl, rfl⟩
theorem ok_s_Pack : FunOk Tryz.prog c_s_Pack := funOk (eK ok_s_BoundsOk eN) mixd Tryz.func232 (pf := pf_s_Pack) (by kernel_rfl) fun ts K h => by
  obtain ⟨t0, t1, rfl, q0⟩ := as2_out h
  obtain ⟨b, rfl, q1⟩ := arC_out (rd_int .i64) q0
  obtain ⟨t, rfl, q2⟩ := arC_out (rd_int .i64) q1
  exact ⟨_, _, q2, nb 2 Tryz.f232 (by kernel_rfl), _, run_s_Pack b t⟩

theorem p_wrap {e : Nat} (he : e ≤ 6) : IntKind.i64.wrap (1 * 2 ^ min (e : Int).toNat IntKind.i64.bits) = 2 ^ e := by
  rw [e_min he]
  rcases e_cases he with rfl | rfl | rfl | rfl | rfl | rfl | rfl <;> decide
theorem quo_b {b : Int} {e : Nat} (he : e ≤ 6) (h : 0 ≤ b) (h1 : b ≤ 4096) : IntKind.i64.wrap (b.tdiv (2 ^ e)) = packB b e := by
  rw [Int.tdiv_eq_ediv_of_nonneg h]
  unfold packB
  rcases e_cases he with rfl | rfl | rfl | rfl | rfl | rfl | rfl <;> simp only [Int.reducePow, Int.pow_zero] <;> exact wrap_id (by omega) (by omega)
theorem quo_l {b t : Int} {e : Nat} (he : e ≤ 6) (h : 0 ≤ b) (h1 : b ≤ t) (h2 : t ≤ 4096) :
    IntKind.i64.wrap ((IntKind.i64.wrap (IntKind.i64.wrap (IntKind.i64.wrap (t - IntKind.i64.wrap (packB b e * 2 ^ e)) + 2 ^ e) - 1)).tdiv (2 ^ e)) = packL b t e := by
  unfold packB packL
  rcases e_cases he with rfl | rfl | rfl | rfl | rfl | rfl | rfl <;> simp only [Int.reducePow, Int.pow_zero] <;>
    rw [wrap_id (n := _ * _) (by omega) (by omega), wrap_id (n := t - _) (by omega) (by omega), wrap_id (n := _ + _) (by omega) (by omega), wrap_id (n := _ - 1) (by omega) (by omega), Int.tdiv_eq_ediv_of_nonneg (by omega)] <;> exact wrap_id (by omega) (by omega)

def lb_i_Pack_0 : PC := .r [.bin 16 .lss 15 (.i 7)] (.seq (.cond 16 .skip (.exit 0)) (.seq (.blk 1 (.r [.m 17 15, .m 6 17] (.r [.m 18 6, .bin 19 .shl (.i 1) 18, .m 7 19] (.r [.m 20 0, .m 21 7, .bin 22 .quo 20 21, .m 8 22] (.r [.m 23 1, .m 24 8, .m 25 7, .bin 26 .mul 24 25, .bin 27 .sub 23 26, .m 28 7, .bin 29 .add 27 28, .bin 30 .sub 29 (.i 1), .m 31 7, .bin 32 .quo 30 31, .m 9 32] (.r [.m 33 8, .bin 34 .leq 33 (.i 63), .m 35 34, .y 35 36 (.mv 36 9), .y 35 37 (.bin 37 .leq 36 (.i 63)), .pick 38 35 37 .F] (.cond 38 (.r [.m 39 6, .m 40 8, .m 41 9, .build 42 [.int .i64 0, .int .i64 0, .int .i64 0] [(0, 1, 39), (1, 1, 40), (2, 1, 41)], .o 3 4 42, .mv 5 .T] .ret) .skip))))))) (.reg [.bin 43 .add 15 (.i 1), .m 15 43])))
def pf_i_Pack : PF := ⟨[.c 4 true 3, .t 5], .r [.alloc 4 [.int .i64 0, .int .i64 0, .int .i64 0], .mv 5 .F] (.seq (.r [.m 10 0, .m 11 1, .c 12 205 [10, 11], .bnot 13 12] (.cond 13 (.r [.build 14 [.int .i64 0, .int .i64 0, .int .i64 0] [], .o 3 4 14, .mv 5 .F] .ret) .skip)) (.seq (.r [.mv 15 (.i 0)] (.blk 0 (.loop [0, 1, 4, 15] lb_i_Pack_0))) (.r [.build 44 [.int .i64 0, .int .i64 0, .int .i64 0] [], .o 3 4 44, .mv 5 .F] .ret)))⟩
def c_i_Pack : Fun := ⟨239, [], fun ts K => as2 ts fun t0 t1 => arC (pI .i64) t0 fun b => arC (pI .i64) t1 fun t => K (packT (pack b t)) []⟩
theorem run_i_Pack (b : Int) (t : Int) : runK [c_i_BoundsOk] (8) [] pf_i_Pack [tI .i64 b, tI .i64 t] fun r o => r = packT (pack b t) ∧ o = [] := by
  conv => whnf
  refine sel_i (fun h => ?_) (fun h => ?_)
  · rw [pack_no (by simpa using h)]
    conv => whnf
    exact ⟨rfl, rfl⟩
  have hb : boundsOk b t = true := by simpa using h
  obtain ⟨b1, b2, b3⟩ := bounds_n hb
  rw [pack_yes hb]
  conv => whnf
  refine loop (α := Nat) (fun e => ⟨[(0, .v (.c (.int .i64 b))), (1, .v (.c (.int .i64 t))), (4, .v (.c (.ptr 0 0))), (15, .v (.c (.int .i64 (e : Int))))], [(0, some (.box true [.int .i64 0, .int .i64 0, .int .i64 0]))], nums.tail, [], false, []⟩)
      (fun e => e ≤ 7 ∧ packGo b t 7 0 = packGo b t (7 - e) e) (fun e => 7 - e) (fun e R hI hR => ?_) 0 _ ⟨by omega, rfl⟩ (by omega)
  obtain ⟨hI, hG⟩ := hI
  conv => whnf
  refine sel_i (fun h2 => ?_) (fun h2 => ?_)
  · have he : e ≤ 6 := by simp at h2; omega
    rw [show 7 - e = (6 - e) + 1 by omega] at hG
    conv => whnf
    repeat' (refine chk_c ?_ ?_ <;> conv => whnf)
    any_goals (refine ⟨?_⟩; first | omega | (rw [p_wrap he]; exact Int.ne_of_gt (Int.pow_pos (by decide))))
    simp only [p_wrap he, quo_b he b1 (Int.le_trans b2 b3), quo_l he b1 b2 b3]
    refine sel_i (fun h3 => ?_) (fun h3 => ?_)
    · conv => whnf
      refine sel_i (fun h4 => ?_) (fun h4 => ?_)
      · rw [hG, packGo_t (by simp only [packOk, h3, h4, Bool.and_self])]
        conv => whnf
        exact ⟨rfl, rfl⟩
      · conv => whnf
        rw [wrap_id (by omega) (by omega)]
        exact hR (e + 1) ⟨by omega, by rw [hG, packGo_f (by simp only [packOk, h3, h4, Bool.and_false])]; rw [show 7 - (e + 1) = 6 - e by omega]⟩ (by omega)
    · conv => whnf
      rw [wrap_id (by omega) (by omega)]
      exact hR (e + 1) ⟨by omega, by rw [hG, packGo_f (by simp only [packOk, h3, Bool.false_and])]; rw [show 7 - (e + 1) = 6 - e by omega]⟩ (by omega)
  · have he : e = 7 := by simp at h2; omega
    subst he
    rw [hG]
    conv => whnf
    exact ⟨rfl, rfl⟩
theorem ok_i_Pack : FunOk Tryz.prog c_i_Pack := funOk (eK ok_i_BoundsOk eN) mixd Tryz.func239 (pf := pf_i_Pack) (by kernel_rfl) fun ts K h => by
  obtain ⟨t0, t1, rfl, q0⟩ := as2_out h
  obtain ⟨b, rfl, q1⟩ := arC_out (rd_int .i64) q0
  obtain ⟨t, rfl, q2⟩ := arC_out (rd_int .i64) q1
  exact ⟨_, _, q2, nb 2 Tryz.f239 (by kernel_rfl), _, run_i_Pack b t⟩

def pf_s_l1Min : PF := ⟨[.t 4], .r [.mv 4 (.i 0)] (.seq (.r [.m 5 0, .m 6 1, .bin 7 .lss 5 6] (.cond 7 (.r [.m 8 0, .m 4 8] .ret) .skip)) (.r [.m 9 1, .m 4 9] .ret))⟩
def c_s_l1Min : Fun := ⟨195, [], fun ts K => as2 ts fun t0 t1 => arC (pI .i64) t0 fun a => arC (pI .i64) t1 fun b => K (tN (min a b)) []⟩
theorem run_s_l1Min (a : Int) (b : Int) : runK [] (0) [] pf_s_l1Min [tI .i64 a, tI .i64 b] fun r o => r = tN (min a b) ∧ o = [] := by
  conv => whnf
  refine sel_i (fun h => ?_) (fun h => ?_) <;> conv => whnf
  all_goals (refine ⟨?_, rfl⟩; simp at h; congr 3; omega)
theorem ok_s_l1Min : FunOk Tryz.prog c_s_l1Min := funOk (eN) mixd Tryz.func195 (pf := pf_s_l1Min) (by kernel_rfl) fun ts K h => by
  obtain ⟨t0, t1, rfl, q0⟩ := as2_out h
  obtain ⟨a, rfl, q1⟩ := arC_out (rd_int .i64) q0
  obtain ⟨b, rfl, q2⟩ := arC_out (rd_int .i64) q1
  exact ⟨_, _, q2, nb 2 Tryz.f195 (by kernel_rfl), _, run_s_l1Min a b⟩

def unpackOk (p : Packed) : Bool := inR p.e 0 6 && inR p.b 0 63 && inR p.l 0 63
def unpack (p : Packed) : Int × Int × Bool := if unpackOk p then (p.b * 2 ^ p.e.toNat, min 4096 ((p.b + p.l) * 2 ^ p.e.toNat), true) else (0, 0, false)
def unpackT (x : Int × Int × Bool) : Tree := .tup [.c (.int .i64 x.1), .c (.int .i64 x.2.1), .c (.bool x.2.2)]
theorem unpack_no {p : Packed} (h : unpackOk p = false) : unpack p = (0, 0, false) := by simp [unpack, h]
theorem unpack_yes {p : Packed} (h : unpackOk p = true) : unpack p = (p.b * 2 ^ p.e.toNat, min 4096 ((p.b + p.l) * 2 ^ p.e.toNat), true) := by simp [unpack, h]

theorem unpack_sh {p : Packed} (h : unpackOk p = true) : IntKind.i64.wrap (p.b * 2 ^ min p.e.toNat IntKind.i64.bits) = p.b * 2 ^ p.e.toNat ∧ IntKind.i64.wrap (IntKind.i64.wrap (p.b + p.l) * 2 ^ min p.e.toNat IntKind.i64.bits) = (p.b + p.l) * 2 ^ p.e.toNat := by
  obtain ⟨pe, pb, pl⟩ := p
  simp [unpackOk, inR] at h
  obtain ⟨e, he⟩ : ∃ e : Nat, pe = e := ⟨pe.toNat, by omega⟩
  subst he
  dsimp only
  have he6 : e ≤ 6 := by omega
  rw [e_min he6, wrap_id (n := pb + pl) (by omega) (by omega)]
  rcases e_cases he6 with rfl | rfl | rfl | rfl | rfl | rfl | rfl <;> simp only [Int.reducePow, Int.pow_zero, Int.toNat_natCast] <;> exact ⟨wrap_id (by omega) (by omega), wrap_id (by omega) (by omega)⟩
def wide (b t : Int) : Int × Int := if boundsOk b t then (if (pack b t).isSome then ((unpack ((pack b t).getD ⟨0, 0, 0⟩)).1, (unpack ((pack b t).getD ⟨0, 0, 0⟩)).2.1) else (0, 4096)) else (0, 0)
theorem pack_isSome {b t : Int} (h : (pack b t).isSome = true) : boundsOk b t = true := by
  by_cases hb : boundsOk b t = true
  · exact hb
  · rw [pack_no (by simpa using hb)] at h; simp at h
def wideT (x : Int × Int) : Tree := .tup [.c (.int .i64 x.1), .c (.int .i64 x.2)]
def exact_ (b t : Int) : Bool := boundsOk b t && decide ((wide b t).1 = b) && decide ((wide b t).2 = t)
def keyOk (k : Key) : Bool := exact_ k.base k.top && inR k.perms 0 63 && inR k.sealed 0 7
def wordOk (w : Word) : Bool := inR w.n 0 65535 && (if w.is then keyOk w.key else decide (w.key = ⟨0, 0, 0, 0⟩))

def pf_s_Unpack : PF := ⟨[.t 2, .t 3, .t 4], .r [.box 1 0, .mv 2 (.i 0), .mv 3 (.i 0), .mv 4 .F] (.seq (.r [.f 5 1 0, .l 6 1 5, .c 7 53 [6, (.i 0), (.i 6)], .bnot 8 7, .m 9 8, .n 9 10 (.fa 10 1 1), .n 9 11 (.load 11 false 1 10), .n 9 12 (.call (some 12) 53 [11, (.i 0), (.i 63)]), .n 9 13 (.bnot 13 12), .pick 14 9 .T 13, .m 15 14, .n 15 16 (.fa 16 1 2), .n 15 17 (.load 17 false 1 16), .n 15 18 (.call (some 18) 53 [17, (.i 0), (.i 63)]), .n 15 19 (.bnot 19 18), .pick 20 15 .T 19] (.cond 20 (.r [.mv 2 (.i 0), .mv 3 (.i 0), .mv 4 .F] .ret) .skip)) (.seq (.rgd [] [.f 21 1 1, .l 22 1 21, .f 23 1 0, .l 24 1 23, .bin 25 .shl 22 24, .f 26 1 1, .l 27 1 26, .f 28 1 2, .l 29 1 28, .bin 30 .add 27 29, .f 31 1 0, .l 32 1 31, .bin 33 .shl 30 32, .c 34 195 [33, (.i 4096)], .m 2 25, .m 3 34, .mv 4 .T] (.ts [0, 1, 2, 3, 4, 5, 6, 7, 8, 9, 10, 11, 12] (.one 13 false (.ts [14, 15, 16] .d)))) .ret))⟩
def c_s_Unpack : Fun := ⟨233, [], fun ts K => as1 ts fun t0 => arG pPackedT t0 fun p => K (unpackT (unpack p)) []⟩
theorem run_s_Unpack (p : Packed) : runK [c_s_l1In, c_s_l1Min] (0) [] pf_s_Unpack [tG (p.tc [])] fun r o => r = unpackT (unpack p) ∧ o = [] := by
  conv => whnf
  repeat' (first | ((first | refine sel_i (fun h => ?_) (fun h => ?_) | refine chk_c ?_ ?_) <;> conv => whnf) | refine And.intro ?_ rfl | (refine And.intro ?_ ?_ <;> conv => whnf))
  all_goals first
    | (rw [unpack_no (by simp_all [unpackOk])]; rfl)
    | (refine ⟨?_⟩; simp_all [inR]; done)
    | (have hk : unpackOk p = true := by simp_all [unpackOk]
       rw [(unpack_sh hk).1, (unpack_sh hk).2, unpack_yes hk]; rfl)
    | (have hk : unpackOk p = true := by simp_all [unpackOk]
       rw [(unpack_sh hk).1, (unpack_sh hk).2, unpack_yes hk, Int.min_comm]; rfl)
theorem ok_s_Unpack : FunOk Tryz.prog c_s_Unpack := funOk (eK ok_s_l1In (eK ok_s_l1Min eN)) mixd Tryz.func233 (pf := pf_s_Unpack) (by kernel_rfl) fun ts K h => by
  obtain ⟨t0, rfl, q0⟩ := as1_out h
  obtain ⟨p, rfl, q1⟩ := arG_out rd_packed q0
  exact ⟨_, _, q1, nb 1 Tryz.f233 (by kernel_rfl), _, run_s_Unpack p⟩

def pf_i_Unpack : PF := ⟨[.t 2, .t 3, .t 4], .r [.box 1 0, .mv 2 (.i 0), .mv 3 (.i 0), .mv 4 .F] (.seq (.r [.f 5 1 0, .l 6 1 5, .c 7 112 [6, (.i 0), (.i 6)], .bnot 8 7, .m 9 8, .n 9 10 (.fa 10 1 1), .n 9 11 (.load 11 false 1 10), .n 9 12 (.call (some 12) 112 [11, (.i 0), (.i 63)]), .n 9 13 (.bnot 13 12), .pick 14 9 .T 13, .m 15 14, .n 15 16 (.fa 16 1 2), .n 15 17 (.load 17 false 1 16), .n 15 18 (.call (some 18) 112 [17, (.i 0), (.i 63)]), .n 15 19 (.bnot 19 18), .pick 20 15 .T 19] (.cond 20 (.r [.mv 2 (.i 0), .mv 3 (.i 0), .mv 4 .F] .ret) .skip)) (.seq (.rgd [] [.f 21 1 1, .l 22 1 21, .f 23 1 0, .l 24 1 23, .bin 25 .shl 22 24, .f 26 1 1, .l 27 1 26, .f 28 1 2, .l 29 1 28, .bin 30 .add 27 29, .f 31 1 0, .l 32 1 31, .bin 33 .shl 30 32, .s (.mm 34 false (.i 4096) 33), .m 2 25, .m 3 34, .mv 4 .T] (.ts [0, 1, 2, 3, 4, 5, 6, 7, 8, 9, 10, 11, 12, 13, 14, 15, 16] .d)) .ret))⟩
def c_i_Unpack : Fun := ⟨240, [], fun ts K => as1 ts fun t0 => arG pPackedT t0 fun p => K (unpackT (unpack p)) []⟩
theorem run_i_Unpack (p : Packed) : runK [c_i_in] (0) [] pf_i_Unpack [tG (p.tc [])] fun r o => r = unpackT (unpack p) ∧ o = [] := by
  conv => whnf
  repeat' (first | ((first | refine sel_i (fun h => ?_) (fun h => ?_) | refine chk_c ?_ ?_) <;> conv => whnf) | refine And.intro ?_ rfl | (refine And.intro ?_ ?_ <;> conv => whnf))
  all_goals first
    | (rw [unpack_no (by simp_all [unpackOk])]; rfl)
    | (refine ⟨?_⟩; simp_all [inR]; done)
    | (have hk : unpackOk p = true := by simp_all [unpackOk]
       rw [(unpack_sh hk).1, (unpack_sh hk).2, unpack_yes hk]; rfl)
    | (have hk : unpackOk p = true := by simp_all [unpackOk]
       rw [(unpack_sh hk).1, (unpack_sh hk).2, unpack_yes hk, Int.min_comm]; rfl)
theorem ok_i_Unpack : FunOk Tryz.prog c_i_Unpack := funOk (eK ok_i_in eN) mixd Tryz.func240 (pf := pf_i_Unpack) (by kernel_rfl) fun ts K h => by
  obtain ⟨t0, rfl, q0⟩ := as1_out h
  obtain ⟨p, rfl, q1⟩ := arG_out rd_packed q0
  exact ⟨_, _, q1, nb 1 Tryz.f240 (by kernel_rfl), _, run_i_Unpack p⟩

def pf_s_Wide : PF := ⟨[.t 4, .t 5], .r [.mv 4 (.i 0), .mv 5 (.i 0)] (.r [.m 12 0, .m 13 1, .c 14 232 [12, 13], .m 11 14, .ext 15 11 0, .ext 16 11 1, .alloc 6 [.int .i64 0, .int .i64 0, .int .i64 0], .o 3 6 15, .m 7 16] (.seq (.r [.m 17 7, .bnot 18 17] (.cond 18 (.seq (.r [.m 19 0, .m 20 1, .c 21 190 [19, 20]] (.cond 21 (.r [.mv 4 (.i 0), .mv 5 (.i 4096)] .ret) .skip)) (.r [.mv 4 (.i 0), .mv 5 (.i 0)] .ret)) .skip)) (.r [.L 23 3 6, .c 24 233 [23], .m 22 24, .ext 25 22 0, .ext 26 22 1, .ext 27 22 2, .m 8 25, .m 9 26, .m 10 27] (.r [.m 28 8, .m 29 9, .m 4 28, .m 5 29] .ret))))⟩
def c_s_Wide : Fun := ⟨189, [], fun ts K => as2 ts fun t0 t1 => arC (pI .i64) t0 fun b => arC (pI .i64) t1 fun t => K (wideT (wide b t)) []⟩
theorem run_s_Wide (b : Int) (t : Int) : runK [c_s_BoundsOk, c_s_Pack, c_s_Unpack] (0) [] pf_s_Wide [tI .i64 b, tI .i64 t] fun r o => r = wideT (wide b t) ∧ o = [] := by
  conv => whnf
  repeat' (first | ((first | refine sel_i (fun h => ?_) (fun h => ?_) | refine chk_c ?_ ?_) <;> conv => whnf) | refine And.intro ?_ rfl | (refine And.intro ?_ ?_ <;> conv => whnf))
  all_goals ((try simp only [etaPacked]); first | (simp_all [wide, wideT]; done) | (have hb := pack_isSome (b := b) (t := t) (by simpa using h); simp_all [wide, wideT]; done))
theorem ok_s_Wide : FunOk Tryz.prog c_s_Wide := funOk (eK ok_s_BoundsOk (eK ok_s_Pack (eK ok_s_Unpack eN))) mixd Tryz.func189 (pf := pf_s_Wide) (by kernel_rfl) fun ts K h => by
  obtain ⟨t0, t1, rfl, q0⟩ := as2_out h
  obtain ⟨b, rfl, q1⟩ := arC_out (rd_int .i64) q0
  obtain ⟨t, rfl, q2⟩ := arC_out (rd_int .i64) q1
  exact ⟨_, _, q2, nb 2 Tryz.f189 (by kernel_rfl), _, run_s_Wide b t⟩

def pf_i_Wide : PF := ⟨[.t 4, .t 5], .r [.mv 4 (.i 0), .mv 5 (.i 0)] (.seq (.r [.m 11 0, .m 12 1, .c 13 205 [11, 12], .bnot 14 13] (.cond 14 (.r [.mv 4 (.i 0), .mv 5 (.i 0)] .ret) .skip)) (.r [.m 16 0, .m 17 1, .c 18 239 [16, 17], .m 15 18, .ext 19 15 0, .ext 20 15 1, .alloc 6 [.int .i64 0, .int .i64 0, .int .i64 0], .o 3 6 19, .m 7 20] (.seq (.r [.m 21 7, .bnot 22 21] (.cond 22 (.r [.mv 4 (.i 0), .mv 5 (.i 4096)] .ret) .skip)) (.r [.L 24 3 6, .c 25 240 [24], .m 23 25, .ext 26 23 0, .ext 27 23 1, .ext 28 23 2, .m 8 26, .m 9 27, .m 10 28] (.r [.m 29 8, .m 30 9, .m 4 29, .m 5 30] .ret)))))⟩
def c_i_Wide : Fun := ⟨204, [], fun ts K => as2 ts fun t0 t1 => arC (pI .i64) t0 fun b => arC (pI .i64) t1 fun t => K (wideT (wide b t)) []⟩
theorem run_i_Wide (b : Int) (t : Int) : runK [c_i_BoundsOk, c_i_Pack, c_i_Unpack] (0) [] pf_i_Wide [tI .i64 b, tI .i64 t] fun r o => r = wideT (wide b t) ∧ o = [] := by
  conv => whnf
  repeat' (first | ((first | refine sel_i (fun h => ?_) (fun h => ?_) | refine chk_c ?_ ?_) <;> conv => whnf) | refine And.intro ?_ rfl | (refine And.intro ?_ ?_ <;> conv => whnf))
  all_goals ((try simp only [etaPacked]); first | (simp_all [wide, wideT]; done) | (have hb := pack_isSome (b := b) (t := t) (by simpa using h); simp_all [wide, wideT]; done))
theorem ok_i_Wide : FunOk Tryz.prog c_i_Wide := funOk (eK ok_i_BoundsOk (eK ok_i_Pack (eK ok_i_Unpack eN))) mixd Tryz.func204 (pf := pf_i_Wide) (by kernel_rfl) fun ts K h => by
  obtain ⟨t0, t1, rfl, q0⟩ := as2_out h
  obtain ⟨b, rfl, q1⟩ := arC_out (rd_int .i64) q0
  obtain ⟨t, rfl, q2⟩ := arC_out (rd_int .i64) q1
  exact ⟨_, _, q2, nb 2 Tryz.f204 (by kernel_rfl), _, run_i_Wide b t⟩

def pf_s_Exact : PF := ⟨[.t 4], .r [.mv 4 .F] (.r [.m 8 0, .m 9 1, .c 10 189 [8, 9], .m 7 10, .ext 11 7 0, .ext 12 7 1, .m 5 11, .m 6 12] (.r [.m 13 0, .m 14 1, .c 15 190 [13, 14], .m 16 15, .y 16 17 (.mv 17 5), .y 16 18 (.mv 18 0), .y 16 19 (.bin 19 .eql 17 18), .pick 20 16 19 .F, .m 21 20, .y 21 22 (.mv 22 6), .y 21 23 (.mv 23 1), .y 21 24 (.bin 24 .eql 22 23), .pick 25 21 24 .F, .m 4 25] .ret))⟩
def c_s_Exact : Fun := ⟨141, [], fun ts K => as2 ts fun t0 t1 => arC (pI .i64) t0 fun b => arC (pI .i64) t1 fun t => K (tB (exact_ b t)) []⟩
theorem run_s_Exact (b : Int) (t : Int) : runK [c_s_Wide, c_s_BoundsOk] (0) [] pf_s_Exact [tI .i64 b, tI .i64 t] fun r o => r = tB (exact_ b t) ∧ o = [] := by
  conv => whnf
  repeat' (first | ((first | refine sel_i (fun h => ?_) (fun h => ?_) | refine chk_c ?_ ?_) <;> conv => whnf) | refine And.intro ?_ rfl | (refine And.intro ?_ ?_ <;> conv => whnf))
  all_goals ((try simp only [beqI]); simp_all [exact_]; done)
theorem ok_s_Exact : FunOk Tryz.prog c_s_Exact := funOk (eK ok_s_Wide (eK ok_s_BoundsOk eN)) mixd Tryz.func141 (pf := pf_s_Exact) (by kernel_rfl) fun ts K h => by
  obtain ⟨t0, t1, rfl, q0⟩ := as2_out h
  obtain ⟨b, rfl, q1⟩ := arC_out (rd_int .i64) q0
  obtain ⟨t, rfl, q2⟩ := arC_out (rd_int .i64) q1
  exact ⟨_, _, q2, nb 2 Tryz.f141 (by kernel_rfl), _, run_s_Exact b t⟩

def pf_i_Exact : PF := ⟨[.t 4], .r [.mv 4 .F] (.r [.m 8 0, .m 9 1, .c 10 204 [8, 9], .m 7 10, .ext 11 7 0, .ext 12 7 1, .m 5 11, .m 6 12] (.r [.m 13 0, .m 14 1, .c 15 205 [13, 14], .m 16 15, .y 16 17 (.mv 17 5), .y 16 18 (.mv 18 0), .y 16 19 (.bin 19 .eql 17 18), .pick 20 16 19 .F, .m 21 20, .y 21 22 (.mv 22 6), .y 21 23 (.mv 23 1), .y 21 24 (.bin 24 .eql 22 23), .pick 25 21 24 .F, .m 4 25] .ret))⟩
def c_i_Exact : Fun := ⟨164, [], fun ts K => as2 ts fun t0 t1 => arC (pI .i64) t0 fun b => arC (pI .i64) t1 fun t => K (tB (exact_ b t)) []⟩
theorem run_i_Exact (b : Int) (t : Int) : runK [c_i_Wide, c_i_BoundsOk] (0) [] pf_i_Exact [tI .i64 b, tI .i64 t] fun r o => r = tB (exact_ b t) ∧ o = [] := by
  conv => whnf
  repeat' (first | ((first | refine sel_i (fun h => ?_) (fun h => ?_) | refine chk_c ?_ ?_) <;> conv => whnf) | refine And.intro ?_ rfl | (refine And.intro ?_ ?_ <;> conv => whnf))
  all_goals ((try simp only [beqI]); simp_all [exact_]; done)
theorem ok_i_Exact : FunOk Tryz.prog c_i_Exact := funOk (eK ok_i_Wide (eK ok_i_BoundsOk eN)) mixd Tryz.func164 (pf := pf_i_Exact) (by kernel_rfl) fun ts K h => by
  obtain ⟨t0, t1, rfl, q0⟩ := as2_out h
  obtain ⟨b, rfl, q1⟩ := arC_out (rd_int .i64) q0
  obtain ⟨t, rfl, q2⟩ := arC_out (rd_int .i64) q1
  exact ⟨_, _, q2, nb 2 Tryz.f164 (by kernel_rfl), _, run_i_Exact b t⟩

def pf_s_KeyOk : PF := ⟨[.t 2], .r [.box 1 0, .mv 2 .F] (.r [.f 3 1 0, .l 4 1 3, .f 5 1 1, .l 6 1 5, .c 7 141 [4, 6], .m 8 7, .y 8 9 (.fa 9 1 2), .y 8 10 (.load 10 false 1 9), .y 8 11 (.call (some 11) 53 [10, (.i 0), (.i 63)]), .pick 12 8 11 .F, .m 13 12, .y 13 14 (.fa 14 1 3), .y 13 15 (.load 15 false 1 14), .y 13 16 (.call (some 16) 53 [15, (.i 0), (.i 7)]), .pick 17 13 16 .F, .m 2 17] .ret)⟩
def c_s_KeyOk : Fun := ⟨90, [], fun ts K => as1 ts fun t0 => arG pKeyT t0 fun k => K (tB (keyOk k)) []⟩
theorem run_s_KeyOk (k : Key) : runK [c_s_l1In, c_s_Exact] (0) [] pf_s_KeyOk [tG (k.tc [])] fun r o => r = tB (keyOk k) ∧ o = [] := by
  conv => whnf
  repeat' (first | ((first | refine sel_i (fun h => ?_) (fun h => ?_) | refine chk_c ?_ ?_) <;> conv => whnf) | refine And.intro ?_ rfl | (refine And.intro ?_ ?_ <;> conv => whnf))
  all_goals (simp_all [keyOk]; done)
theorem ok_s_KeyOk : FunOk Tryz.prog c_s_KeyOk := funOk (eK ok_s_l1In (eK ok_s_Exact eN)) mixd Tryz.func90 (pf := pf_s_KeyOk) (by kernel_rfl) fun ts K h => by
  obtain ⟨t0, rfl, q0⟩ := as1_out h
  obtain ⟨k, rfl, q1⟩ := arG_out rd_key q0
  exact ⟨_, _, q1, nb 1 Tryz.f90 (by kernel_rfl), _, run_s_KeyOk k⟩

def pf_i_KeyOk : PF := ⟨[.t 2], .r [.box 1 0, .mv 2 .F] (.r [.f 3 1 0, .l 4 1 3, .f 5 1 1, .l 6 1 5, .c 7 164 [4, 6], .m 8 7, .y 8 9 (.fa 9 1 2), .y 8 10 (.load 10 false 1 9), .y 8 11 (.call (some 11) 112 [10, (.i 0), (.i 63)]), .pick 12 8 11 .F, .m 13 12, .y 13 14 (.fa 14 1 3), .y 13 15 (.load 15 false 1 14), .y 13 16 (.call (some 16) 112 [15, (.i 0), (.i 7)]), .pick 17 13 16 .F, .m 2 17] .ret)⟩
def c_i_KeyOk : Fun := ⟨115, [], fun ts K => as1 ts fun t0 => arG pKeyT t0 fun k => K (tB (keyOk k)) []⟩
theorem run_i_KeyOk (k : Key) : runK [c_i_in, c_i_Exact] (0) [] pf_i_KeyOk [tG (k.tc [])] fun r o => r = tB (keyOk k) ∧ o = [] := by
  conv => whnf
  repeat' (first | ((first | refine sel_i (fun h => ?_) (fun h => ?_) | refine chk_c ?_ ?_) <;> conv => whnf) | refine And.intro ?_ rfl | (refine And.intro ?_ ?_ <;> conv => whnf))
  all_goals (simp_all [keyOk]; done)
theorem ok_i_KeyOk : FunOk Tryz.prog c_i_KeyOk := funOk (eK ok_i_in (eK ok_i_Exact eN)) mixd Tryz.func115 (pf := pf_i_KeyOk) (by kernel_rfl) fun ts K h => by
  obtain ⟨t0, rfl, q0⟩ := as1_out h
  obtain ⟨k, rfl, q1⟩ := arG_out rd_key q0
  exact ⟨_, _, q1, nb 1 Tryz.f115 (by kernel_rfl), _, run_i_KeyOk k⟩

def pf_s_WordOk : PF := ⟨[.t 2], .r [.box 1 0, .mv 2 .F] (.r [.f 3 1 0, .l 4 1 3, .c 5 53 [4, (.i 0), (.i 65535)], .m 6 5, .y 6 7 (.fa 7 1 1), .y 6 8 (.load 8 false 1 7), .y 6 9 (.mv 9 8), .y 9 10 (.fa 10 1 2), .y 9 11 (.load 11 true 4 10), .y 9 12 (.call (some 12) 90 [11]), .y 6 13 (.pick 13 9 12 .F), .y 6 14 (.mv 14 13), .n 14 15 (.fa 15 1 1), .n 14 16 (.load 16 false 1 15), .n 14 17 (.bnot 17 16), .n 14 18 (.mv 18 17), .y 18 19 (.fa 19 1 2), .y 18 20 (.load 20 true 4 19), .y 18 21 (.build 21 zcK []), .y 18 22 (.eqs 22 true [.i, .i, .i, .i] false 20 21), .n 14 23 (.pick 23 18 22 .F), .y 6 24 (.pick 24 14 .T 23), .pick 25 6 24 .F, .m 2 25] .ret)⟩
def c_s_WordOk : Fun := ⟨42, [], fun ts K => as1 ts fun t0 => arG pWordT t0 fun w => K (tB (wordOk w)) []⟩
theorem run_s_WordOk (w : Word) : runK [c_s_l1In, c_s_KeyOk] (0) [] pf_s_WordOk [tG (w.tc [])] fun r o => r = tB (wordOk w) ∧ o = [] := by
  conv => whnf
  repeat' (first | ((first | refine sel_i (fun h => ?_) (fun h => ?_) | refine chk_c ?_ ?_) <;> conv => whnf) | refine And.intro ?_ rfl | (refine And.intro ?_ ?_ <;> conv => whnf))
  all_goals (try simp only [etaKey, keyEq0] at *); first | rfl | (simp_all [wordOk]; done) | trace_state
theorem ok_s_WordOk : FunOk Tryz.prog c_s_WordOk := funOk (eK ok_s_l1In (eK ok_s_KeyOk eN)) mixd Tryz.func42 (pf := pf_s_WordOk) (by kernel_rfl) fun ts K h => by
  obtain ⟨t0, rfl, q0⟩ := as1_out h
  obtain ⟨w, rfl, q1⟩ := arG_out rd_word q0
  exact ⟨_, _, q1, nb 1 Tryz.f42 (by kernel_rfl), _, run_s_WordOk w⟩

def pf_i_WordOk : PF := ⟨[.t 2], .r [.box 1 0, .mv 2 .F] (.seq (.r [.f 3 1 1, .l 4 1 3] (.cond 4 (.r [.f 5 1 0, .l 6 1 5, .c 7 112 [6, (.i 0), (.i 65535)], .m 8 7, .y 8 9 (.fa 9 1 2), .y 8 10 (.load 10 true 4 9), .y 8 11 (.call (some 11) 115 [10]), .pick 12 8 11 .F, .m 2 12] .ret) .skip)) (.r [.f 13 1 0, .l 14 1 13, .c 15 112 [14, (.i 0), (.i 65535)], .m 16 15, .y 16 17 (.fa 17 1 2), .y 16 18 (.load 18 true 4 17), .y 16 19 (.build 19 zcK []), .y 16 20 (.eqs 20 true [.i, .i, .i, .i] false 18 19), .pick 21 16 20 .F, .m 2 21] .ret))⟩
def c_i_WordOk : Fun := ⟨65, [], fun ts K => as1 ts fun t0 => arG pWordT t0 fun w => K (tB (wordOk w)) []⟩
theorem run_i_WordOk (w : Word) : runK [c_i_in, c_i_KeyOk] (0) [] pf_i_WordOk [tG (w.tc [])] fun r o => r = tB (wordOk w) ∧ o = [] := by
  conv => whnf
  repeat' (first | ((first | refine sel_i (fun h => ?_) (fun h => ?_) | refine chk_c ?_ ?_) <;> conv => whnf) | refine And.intro ?_ rfl | (refine And.intro ?_ ?_ <;> conv => whnf))
  all_goals (try simp only [etaKey, keyEq0] at *); first | rfl | (simp_all [wordOk]; done) | trace_state
theorem ok_i_WordOk : FunOk Tryz.prog c_i_WordOk := funOk (eK ok_i_in (eK ok_i_KeyOk eN)) mixd Tryz.func65 (pf := pf_i_WordOk) (by kernel_rfl) fun ts K h => by
  obtain ⟨t0, rfl, q0⟩ := as1_out h
  obtain ⟨w, rfl, q1⟩ := arG_out rd_word q0
  exact ⟨_, _, q1, nb 1 Tryz.f65 (by kernel_rfl), _, run_i_WordOk w⟩
end Go.Pi
