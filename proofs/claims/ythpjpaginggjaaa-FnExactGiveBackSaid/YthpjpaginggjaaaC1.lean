/- Contracts of functions, each out of its run by PI. No conditions. -/
import Derived.Test.YthpjpaginggjaaaPiIns
import Derived.KernelRfl
import Derived.ProofKit
import Derived.Test.YthpjpaginggjaaaRows
namespace Go.Pi
open Go.Proofs
set_option linter.unusedVariables false
set_option linter.unusedSimpArgs false
set_option maxRecDepth 100000
attribute [local irreducible] iterN
theorem mixd : Try.prog.follows .mixedOrders = true := by kernel_rfl
theorem etaKey (x : Key) : (⟨x.base, x.top, x.perms, x.sealed⟩ : Key) = x := rfl
theorem etaWord (x : Word) : (⟨x.n, x.is, x.key⟩ : Word) = x := rfl
theorem etaInst (x : Inst) : (⟨x.op, x.r, x.a, x.b, x.n⟩ : Inst) = x := rfl
theorem etaSpan (x : Span) : (⟨x.at_, x.len⟩ : Span) = x := rfl
theorem etaPacked (x : Packed) : (⟨x.e, x.b, x.l⟩ : Packed) = x := rfl
theorem keyEq (a b : Key) : (a.base == b.base && (a.top == b.top && (a.perms == b.perms && a.sealed == b.sealed))) = decide (a = b) := by
  obtain ⟨a1, a2, a3, a4⟩ := a
  obtain ⟨b1, b2, b3, b4⟩ := b
  rw [Bool.eq_iff_iff]; simp
theorem keyEq0 (a : Key) : (a.base == 0 && (a.top == 0 && (a.perms == 0 && a.sealed == 0))) = decide (a = ⟨0, 0, 0, 0⟩) := keyEq a ⟨0, 0, 0, 0⟩
theorem beqI (a b : Int) : (a == b) = decide (a = b) := rfl


def inR (n lo hi : Int) : Bool := decide (lo ≤ n) && decide (n ≤ hi)

def pf_impl_in : PF := ⟨[.t 6], .seq (.reg [.s (.mv 6 (.k (.v (.c .ff))))]) (.seq (.reg [.s (.mv 7 (.t 0)), .s (.mv 8 (.t 1)), .s (.bin 9 .geq (.t 7) (.t 8)), .s (.mv 10 (.t 9)), .g 10 true (some 11) (.mv 11 (.t 0)), .g 10 true (some 12) (.mv 12 (.t 2)), .g 10 true (some 13) (.bin 13 .leq (.t 11) (.t 12)), .s (.pick 14 (.t 10) (.t 13) (.k (.v (.c .ff)))), .s (.mv 6 (.t 14))]) (.ret))⟩
def c_impl_in : Fun := ⟨98, [], fun ts K => as3 ts fun t0 t1 t2 => arC (pI .i64) t0 fun n => arC (pI .i64) t1 fun lo => arC (pI .i64) t2 fun hi => K (tB (inR n lo hi)) []⟩
theorem run_impl_in (n : Int) (lo : Int) (hi : Int) : runK [] (0) [] pf_impl_in [tI .i64 n, tI .i64 lo, tI .i64 hi] fun r o => r = tB (inR n lo hi) ∧ o = [] := by
  conv => whnf
  refine sel_i (fun h => ?_) (fun h => ?_) <;> conv => whnf
  all_goals (refine ⟨?_, rfl⟩; simp at h; simp [inR] <;> omega)
theorem ok_impl_in : FunOk Try.prog c_impl_in := funOk (E := []) (envOk_nil) mixd Try.func98 (pf := pf_impl_in) (by kernel_rfl) fun ts K h => by
  obtain ⟨t0, t1, t2, e0, h⟩ := as3_out h
  subst e0
  obtain ⟨n, e1, hq⟩ := arC_out (rd_int .i64) h
  clear h
  subst e1
  have h := hq
  clear hq
  obtain ⟨lo, e1, hq⟩ := arC_out (rd_int .i64) h
  clear h
  subst e1
  have h := hq
  clear hq
  obtain ⟨hi, e1, hq⟩ := arC_out (rd_int .i64) h
  clear h
  subst e1
  have h := hq
  clear hq
  exact ⟨_, _, h, Nat.le_of_ble_eq_true (show Nat.ble 3 Try.f98.ntmps = true by kernel_rfl), _, run_impl_in n lo hi⟩

def pf_spec_l1In : PF := ⟨[.t 6], .seq (.reg [.s (.mv 6 (.k (.v (.c .ff))))]) (.seq (.reg [.s (.mv 7 (.t 0)), .s (.mv 8 (.t 1)), .s (.bin 9 .geq (.t 7) (.t 8)), .s (.mv 10 (.t 9)), .g 10 true (some 11) (.mv 11 (.t 0)), .g 10 true (some 12) (.mv 12 (.t 2)), .g 10 true (some 13) (.bin 13 .leq (.t 11) (.t 12)), .s (.pick 14 (.t 10) (.t 13) (.k (.v (.c .ff)))), .s (.mv 6 (.t 14))]) (.ret))⟩
def c_spec_l1In : Fun := ⟨149, [], fun ts K => as3 ts fun t0 t1 t2 => arC (pI .i64) t0 fun n => arC (pI .i64) t1 fun lo => arC (pI .i64) t2 fun hi => K (tB (inR n lo hi)) []⟩
theorem run_spec_l1In (n : Int) (lo : Int) (hi : Int) : runK [] (0) [] pf_spec_l1In [tI .i64 n, tI .i64 lo, tI .i64 hi] fun r o => r = tB (inR n lo hi) ∧ o = [] := by
  conv => whnf
  refine sel_i (fun h => ?_) (fun h => ?_) <;> conv => whnf
  all_goals (refine ⟨?_, rfl⟩; simp at h; simp [inR] <;> omega)
theorem ok_spec_l1In : FunOk Try.prog c_spec_l1In := funOk (E := []) (envOk_nil) mixd Try.func149 (pf := pf_spec_l1In) (by kernel_rfl) fun ts K h => by
  obtain ⟨t0, t1, t2, e0, h⟩ := as3_out h
  subst e0
  obtain ⟨n, e1, hq⟩ := arC_out (rd_int .i64) h
  clear h
  subst e1
  have h := hq
  clear hq
  obtain ⟨lo, e1, hq⟩ := arC_out (rd_int .i64) h
  clear h
  subst e1
  have h := hq
  clear hq
  obtain ⟨hi, e1, hq⟩ := arC_out (rd_int .i64) h
  clear h
  subst e1
  have h := hq
  clear hq
  exact ⟨_, _, h, Nat.le_of_ble_eq_true (show Nat.ble 3 Try.f149.ntmps = true by kernel_rfl), _, run_spec_l1In n lo hi⟩

theorem set_mid {α : Type} {m a : List α} {i : Nat} {x : α} (h : m.length = a.length) (hi : i < a.length) (hx : m[i]? = some x) : (m.take i ++ a.drop i).set i x = m.take (i + 1) ++ a.drop (i + 1) := by
  rw [List.set_append_right _ _ (by simp; omega)]
  have hm : min i m.length = i := by omega
  simp only [List.length_take, hm, Nat.sub_self]
  rw [List.drop_eq_getElem_cons hi, List.set_cons_zero, List.take_add_one, hx]
  simp
def elIns (c : Int) : Inst := ⟨c, c + 1, c + 1 + 1, c + 1 + 1 + 1, c + 1 + 1 + 1 + 1⟩
def mkInsS (n : Nat) (k : Int) : List Inst := (List.range n).map (fun j : Nat => elIns (k + 5 * j))
theorem mkInsS_length (n : Nat) (k : Int) : (mkInsS n k).length = n := by simp [mkInsS]


def pf_laws_eqKey : PF := ⟨[.t 4], .seq (.reg [.s (.box 2 (.t 0)), .s (.box 3 (.t 1)), .s (.mv 4 (.k (.v (.c .ff))))]) (.seq (.seq (.reg [.s (.fa 5 (.t 2) 0), .s (.load 6 false 1 (.t 5)), .s (.fa 7 (.t 3) 0), .s (.load 8 false 1 (.t 7)), .s (.bin 9 .neq (.t 6) (.t 8))]) (.cond (.t 9) (.seq (.reg [.s (.mv 4 (.k (.v (.c .ff))))]) (.ret)) (.skip))) (.seq (.seq (.reg [.s (.fa 10 (.t 2) 1), .s (.load 11 false 1 (.t 10)), .s (.fa 12 (.t 3) 1), .s (.load 13 false 1 (.t 12)), .s (.bin 14 .neq (.t 11) (.t 13))]) (.cond (.t 14) (.seq (.reg [.s (.mv 4 (.k (.v (.c .ff))))]) (.ret)) (.skip))) (.seq (.seq (.reg [.s (.fa 15 (.t 2) 2), .s (.load 16 false 1 (.t 15)), .s (.fa 17 (.t 3) 2), .s (.load 18 false 1 (.t 17)), .s (.bin 19 .neq (.t 16) (.t 18))]) (.cond (.t 19) (.seq (.reg [.s (.mv 4 (.k (.v (.c .ff))))]) (.ret)) (.skip))) (.seq (.seq (.reg [.s (.fa 20 (.t 2) 3), .s (.load 21 false 1 (.t 20)), .s (.fa 22 (.t 3) 3), .s (.load 23 false 1 (.t 22)), .s (.bin 24 .neq (.t 21) (.t 23))]) (.cond (.t 24) (.seq (.reg [.s (.mv 4 (.k (.v (.c .ff))))]) (.ret)) (.skip))) (.seq (.reg [.s (.mv 4 (.k (.v (.c .tt))))]) (.ret))))))⟩
def c_laws_eqKey : Fun := ⟨152, [], fun ts K => as2 ts fun t0 t1 => arG pKeyT t0 fun a => arG pKeyT t1 fun b => K (tB (decide (a = b))) []⟩
theorem run_laws_eqKey (a : Key) (b : Key) : runK [] (0) [] pf_laws_eqKey [tG (a.tc []), tG (b.tc [])] fun r o => r = tB (decide (a = b)) ∧ o = [] := by
  obtain ⟨a1, a2, a3, a4⟩ := a
  obtain ⟨b1, b2, b3, b4⟩ := b
  conv => whnf
  repeat' (refine sel_i (fun h => ?_) (fun h => ?_) <;> conv => whnf)
  all_goals (refine ⟨?_, rfl⟩; simp_all)
theorem ok_laws_eqKey : FunOk Try.prog c_laws_eqKey := funOk (E := []) (envOk_nil) mixd Try.func152 (pf := pf_laws_eqKey) (by kernel_rfl) fun ts K h => by
  obtain ⟨t0, t1, e0, h⟩ := as2_out h
  subst e0
  obtain ⟨a, e1, hq⟩ := arG_out rd_key h
  clear h
  subst e1
  have h := hq
  clear hq
  obtain ⟨b, e1, hq⟩ := arG_out rd_key h
  clear h
  subst e1
  have h := hq
  clear hq
  exact ⟨_, _, h, Nat.le_of_ble_eq_true (show Nat.ble 2 Try.f152.ntmps = true by kernel_rfl), _, run_laws_eqKey a b⟩

def pf_laws_eqWord : PF := ⟨[.t 4], .seq (.reg [.s (.box 2 (.t 0)), .s (.box 3 (.t 1)), .s (.mv 4 (.k (.v (.c .ff))))]) (.seq (.seq (.reg [.s (.fa 5 (.t 2) 0), .s (.load 6 false 1 (.t 5)), .s (.fa 7 (.t 3) 0), .s (.load 8 false 1 (.t 7)), .s (.bin 9 .neq (.t 6) (.t 8))]) (.cond (.t 9) (.seq (.reg [.s (.mv 4 (.k (.v (.c .ff))))]) (.ret)) (.skip))) (.seq (.seq (.reg [.s (.fa 10 (.t 2) 1), .s (.load 11 false 1 (.t 10)), .s (.fa 12 (.t 3) 1), .s (.load 13 false 1 (.t 12)), .s (.eqs 14 false [.b] true (.t 11) (.t 13))]) (.cond (.t 14) (.seq (.reg [.s (.mv 4 (.k (.v (.c .ff))))]) (.ret)) (.skip))) (.seq (.seq (.reg [.s (.fa 15 (.t 2) 2), .s (.load 16 true 4 (.t 15)), .s (.fa 17 (.t 3) 2), .s (.load 18 true 4 (.t 17)), .s (.call (some 19) 152 [(.t 16), (.t 18)]), .s (.bnot 20 (.t 19))]) (.cond (.t 20) (.seq (.reg [.s (.mv 4 (.k (.v (.c .ff))))]) (.ret)) (.skip))) (.seq (.reg [.s (.mv 4 (.k (.v (.c .tt))))]) (.ret)))))⟩
def c_laws_eqWord : Fun := ⟨72, [], fun ts K => as2 ts fun t0 t1 => arG pWordT t0 fun a => arG pWordT t1 fun b => K (tB (decide (a = b))) []⟩
theorem run_laws_eqWord (a : Word) (b : Word) : runK [c_laws_eqKey] (0) [] pf_laws_eqWord [tG (a.tc []), tG (b.tc [])] fun r o => r = tB (decide (a = b)) ∧ o = [] := by
  obtain ⟨a1, a2, a3⟩ := a
  obtain ⟨b1, b2, b3⟩ := b
  conv => whnf
  refine sel_i (fun h => ?_) (fun h => ?_) <;> conv => whnf
  · refine ⟨?_, rfl⟩; simp at h; simp [h]
  refine sel_i (fun h2 => ?_) (fun h2 => ?_) <;> conv => whnf
  · refine ⟨?_, rfl⟩; simp at h2; simp [h2]
  refine sel_i (fun h3 => ?_) (fun h3 => ?_) <;> conv => whnf
  · have h3 : ¬ a3 = b3 := nd_f h3
    refine ⟨?_, rfl⟩; simp [h3]
  · have h3 : a3 = b3 := nd_t h3
    refine ⟨?_, rfl⟩; simp at h h2; simp [h, h2, h3]
theorem ok_laws_eqWord : FunOk Try.prog c_laws_eqWord := funOk (E := [c_laws_eqKey]) (envOk_cons ok_laws_eqKey (envOk_nil)) mixd Try.func72 (pf := pf_laws_eqWord) (by kernel_rfl) fun ts K h => by
  obtain ⟨t0, t1, e0, h⟩ := as2_out h
  subst e0
  obtain ⟨a, e1, hq⟩ := arG_out rd_word h
  clear h
  subst e1
  have h := hq
  clear hq
  obtain ⟨b, e1, hq⟩ := arG_out rd_word h
  clear h
  subst e1
  have h := hq
  clear hq
  exact ⟨_, _, h, Nat.le_of_ble_eq_true (show Nat.ble 2 Try.f72.ntmps = true by kernel_rfl), _, run_laws_eqWord a b⟩

def pf_laws_eqSpan : PF := ⟨[.t 4], .seq (.reg [.s (.box 2 (.t 0)), .s (.box 3 (.t 1)), .s (.mv 4 (.k (.v (.c .ff))))]) (.seq (.seq (.reg [.s (.fa 5 (.t 2) 0), .s (.load 6 false 1 (.t 5)), .s (.fa 7 (.t 3) 0), .s (.load 8 false 1 (.t 7)), .s (.bin 9 .neq (.t 6) (.t 8))]) (.cond (.t 9) (.seq (.reg [.s (.mv 4 (.k (.v (.c .ff))))]) (.ret)) (.skip))) (.seq (.seq (.reg [.s (.fa 10 (.t 2) 1), .s (.load 11 false 1 (.t 10)), .s (.fa 12 (.t 3) 1), .s (.load 13 false 1 (.t 12)), .s (.bin 14 .neq (.t 11) (.t 13))]) (.cond (.t 14) (.seq (.reg [.s (.mv 4 (.k (.v (.c .ff))))]) (.ret)) (.skip))) (.seq (.reg [.s (.mv 4 (.k (.v (.c .tt))))]) (.ret))))⟩
def c_laws_eqSpan : Fun := ⟨189, [], fun ts K => as2 ts fun t0 t1 => arG pSpanT t0 fun a => arG pSpanT t1 fun b => K (tB (decide (a = b))) []⟩
theorem run_laws_eqSpan (a : Span) (b : Span) : runK [] (0) [] pf_laws_eqSpan [tG (a.tc []), tG (b.tc [])] fun r o => r = tB (decide (a = b)) ∧ o = [] := by
  obtain ⟨a1, a2⟩ := a
  obtain ⟨b1, b2⟩ := b
  conv => whnf
  repeat' (refine sel_i (fun h => ?_) (fun h => ?_) <;> conv => whnf)
  all_goals (refine ⟨?_, rfl⟩; simp_all)
theorem ok_laws_eqSpan : FunOk Try.prog c_laws_eqSpan := funOk (E := []) (envOk_nil) mixd Try.func189 (pf := pf_laws_eqSpan) (by kernel_rfl) fun ts K h => by
  obtain ⟨t0, t1, e0, h⟩ := as2_out h
  subst e0
  obtain ⟨a, e1, hq⟩ := arG_out rd_span h
  clear h
  subst e1
  have h := hq
  clear hq
  obtain ⟨b, e1, hq⟩ := arG_out rd_span h
  clear h
  subst e1
  have h := hq
  clear hq
  exact ⟨_, _, h, Nat.le_of_ble_eq_true (show Nat.ble 2 Try.f189.ntmps = true by kernel_rfl), _, run_laws_eqSpan a b⟩

def elWord (c : Int) : Word := ⟨c, (Int.tmod (c + 1) 3 == 0), ⟨c + 1 + 1, c + 1 + 1 + 1, c + 1 + 1 + 1 + 1, c + 1 + 1 + 1 + 1 + 1⟩⟩
def mkWordS (n : Nat) (k : Int) : List Word := (List.range n).map (fun j : Nat => elWord (k + 6 * j))
theorem mkWordS_length (n : Nat) (k : Int) : (mkWordS n k).length = n := by simp [mkWordS]

def lb_laws_eqWordS_0 : PC := .seq (.seq (.reg [.s (.mv 11 (.t 5)), .s (.mv 12 (.t 0)), .s (.len 13 false (.t 12)), .s (.bin 14 .lss (.t 11) (.t 13))]) (.cond (.t 14) (.skip) (.exit 0))) (.seq (.blk 1 (.seq (.rgd [] [.s (.mv 17 (.t 0)), .s (.mv 18 (.t 5)), .s (.ia 19 .word (.t 17) (.t 18)), .s (.load 20 true 6 (.t 19)), .s (.mv 21 (.t 1)), .s (.mv 22 (.t 5)), .s (.ia 23 .word (.t 21) (.t 22)), .s (.load 24 true 6 (.t 23)), .s (.call (some 25) 72 [(.t 20), (.t 24)]), .s (.bnot 26 (.t 25))] (.tk 0 (.tk 1 (.tk 2 (.tk 3 (.tk 4 (.tk 5 (.tk 6 (.tk 7 (.one 8 true (.tk 9 (.done none)))))))))))) (.cond (.t 26) (.seq (.reg [.s (.mv 4 (.k (.v (.c .ff))))]) (.ret)) (.skip)))) (.reg [.s (.mv 15 (.t 5)), .s (.bin 16 .add (.t 15) (.k (.v (.c (.int .i64 1))))), .s (.mv 5 (.t 16))]))
def pf_laws_eqWordS : PF := ⟨[.t 4], .seq (.reg [.s (.mv 4 (.k (.v (.c .ff))))]) (.seq (.seq (.reg [.s (.mv 6 (.t 0)), .s (.len 7 false (.t 6)), .s (.mv 8 (.t 1)), .s (.len 9 false (.t 8)), .s (.bin 10 .neq (.t 7) (.t 9))]) (.cond (.t 10) (.seq (.reg [.s (.mv 4 (.k (.v (.c .ff))))]) (.ret)) (.skip))) (.seq (.seq (.reg [.s (.mv 5 (.k (.v (.c (.int .i64 0)))))]) (.blk 0 (.loop [0, 1, 5] lb_laws_eqWordS_0))) (.seq (.reg [.s (.mv 4 (.k (.v (.c .tt))))]) (.ret))))⟩
def c_laws_eqWordS : Fun := ⟨187, [], fun ts K => as2 ts fun t0 t1 => arC (pL .word) t0 fun a => arC (pL .word) t1 fun b => chk (a.length ≤ 2147483647) (K (tB (decide (a = b))) [])⟩
theorem run_laws_eqWordS (a : List (FT.Ty .word)) (b : List (FT.Ty .word)) (hpre : a.length ≤ 2147483647) : runK [c_laws_eqWord] (a.length + 1) [] pf_laws_eqWordS [tL false .word a, tL false .word b] fun r o => r = tB (decide (a = b)) ∧ o = [] := by
  conv => whnf
  refine sel_i (fun h => ?_) (fun h => ?_)
  · conv => whnf
    refine ⟨?_, rfl⟩
    simp at h
    simp
    intro e; subst e; simp at h
  · conv => whnf
    refine loop (α := Nat) (fun i => ⟨[(0, .v (.c (.sl false .word 0))), (1, .v (.c (.sl false .word 1))), (5, .v (.c (.int .i64 (i : Int))))], [(1, some (.flat false .word none b)), (0, some (.flat false .word none a))], nums.tail.tail, [], false, []⟩)
      (fun i => i ≤ a.length ∧ a.take i = b.take i) (fun i => a.length - i) (fun i R hI hR => ?_) 0 _ ⟨by simp, by simp⟩ (by omega)
    conv => whnf
    repeat' (first | (refine sel_i (fun h2 => ?_) (fun h2 => ?_) <;> conv => whnf) | (refine chk_c ?_ ?_ <;> conv => whnf))
    all_goals (have hl : a.length = b.length := by simp at h; omega)
    · exact ⟨by simp at h2; omega⟩
    · exact ⟨by simp at h2; omega⟩
    · exact ⟨by simp at h2; omega⟩
    · exact ⟨by simp at h2; omega⟩
    · refine ⟨?_, rfl⟩
      have hne : a ≠ b := fun e => by subst e; simp at h2
      simp [hne]
    · rename_i h3
      have hlt : i < a.length := by simpa using h3
      rw [wrap_id (n := (i : Int) + 1) (by omega) (by omega)]
      exact hR (i + 1) ⟨by omega, take_step (z := FT.zero .word) hI.2 hlt (by omega) (nd_t h2)⟩ (by omega)
    · refine ⟨?_, rfl⟩
      have hge : a.length ≤ i := by simpa using h2
      have : a = b := take_all hI.2 hge (by omega)
      simp [this]
theorem ok_laws_eqWordS : FunOk Try.prog c_laws_eqWordS := funOk (E := [c_laws_eqWord]) (envOk_cons ok_laws_eqWord (envOk_nil)) mixd Try.func187 (pf := pf_laws_eqWordS) (by kernel_rfl) fun ts K h => by
  obtain ⟨t0, t1, e0, h⟩ := as2_out h
  subst e0
  obtain ⟨a, e1, hq⟩ := arC_out (rd_l .word) h
  clear h
  subst e1
  have h := hq
  clear hq
  obtain ⟨b, e1, hq⟩ := arC_out (rd_l .word) h
  clear h
  subst e1
  have h := hq
  clear hq
  obtain ⟨hpre, h⟩ := chk_o h
  exact ⟨_, _, h, Nat.le_of_ble_eq_true (show Nat.ble 2 Try.f187.ntmps = true by kernel_rfl), _, run_laws_eqWordS a b hpre⟩

def lb_laws_markWordS_0 : PC := .seq (.seq (.reg [.s (.mv 6 (.t 5)), .s (.mv 7 (.t 0)), .s (.len 8 false (.t 7)), .s (.bin 9 .lss (.t 6) (.t 8))]) (.cond (.t 9) (.skip) (.exit 0))) (.seq (.blk 1 (.seq (.reg [.s (.mv 12 (.t 0)), .s (.mv 13 (.t 5)), .s (.mv 14 (.t 1)), .s (.ia 15 .word (.t 12) (.t 13)), .s (.fa 16 (.t 15) 0), .s (.store 1 (.t 16) (.t 14))]) (.seq (.reg [.s (.mv 17 (.t 1)), .s (.bin 18 .add (.t 17) (.k (.v (.c (.int .i64 1))))), .s (.mv 1 (.t 18))]) (.seq (.reg [.s (.mv 19 (.t 0)), .s (.mv 20 (.t 5)), .s (.mv 21 (.t 1)), .s (.bin 22 .rem (.t 21) (.k (.v (.c (.int .i64 3))))), .s (.bin 23 .eql (.t 22) (.k (.v (.c (.int .i64 0))))), .s (.ia 24 .word (.t 19) (.t 20)), .s (.fa 25 (.t 24) 1), .s (.store 1 (.t 25) (.t 23))]) (.seq (.reg [.s (.mv 26 (.t 1)), .s (.bin 27 .add (.t 26) (.k (.v (.c (.int .i64 1))))), .s (.mv 1 (.t 27))]) (.seq (.reg [.s (.mv 28 (.t 0)), .s (.mv 29 (.t 5)), .s (.mv 30 (.t 1)), .s (.ia 31 .word (.t 28) (.t 29)), .s (.fa 32 (.t 31) 2), .s (.fa 33 (.t 32) 0), .s (.store 1 (.t 33) (.t 30))]) (.seq (.reg [.s (.mv 34 (.t 1)), .s (.bin 35 .add (.t 34) (.k (.v (.c (.int .i64 1))))), .s (.mv 1 (.t 35))]) (.seq (.reg [.s (.mv 36 (.t 0)), .s (.mv 37 (.t 5)), .s (.mv 38 (.t 1)), .s (.ia 39 .word (.t 36) (.t 37)), .s (.fa 40 (.t 39) 2), .s (.fa 41 (.t 40) 1), .s (.store 1 (.t 41) (.t 38))]) (.seq (.reg [.s (.mv 42 (.t 1)), .s (.bin 43 .add (.t 42) (.k (.v (.c (.int .i64 1))))), .s (.mv 1 (.t 43))]) (.seq (.reg [.s (.mv 44 (.t 0)), .s (.mv 45 (.t 5)), .s (.mv 46 (.t 1)), .s (.ia 47 .word (.t 44) (.t 45)), .s (.fa 48 (.t 47) 2), .s (.fa 49 (.t 48) 2), .s (.store 1 (.t 49) (.t 46))]) (.seq (.reg [.s (.mv 50 (.t 1)), .s (.bin 51 .add (.t 50) (.k (.v (.c (.int .i64 1))))), .s (.mv 1 (.t 51))]) (.seq (.reg [.s (.mv 52 (.t 0)), .s (.mv 53 (.t 5)), .s (.mv 54 (.t 1)), .s (.ia 55 .word (.t 52) (.t 53)), .s (.fa 56 (.t 55) 2), .s (.fa 57 (.t 56) 3), .s (.store 1 (.t 57) (.t 54))]) (.reg [.s (.mv 58 (.t 1)), .s (.bin 59 .add (.t 58) (.k (.v (.c (.int .i64 1))))), .s (.mv 1 (.t 59))]))))))))))))) (.reg [.s (.mv 10 (.t 5)), .s (.bin 11 .add (.t 10) (.k (.v (.c (.int .i64 1))))), .s (.mv 5 (.t 11))]))
def pf_laws_markWordS : PF := ⟨[.t 4], .seq (.reg [.s (.mv 4 (.k (.v (.c (.int .i64 0)))))]) (.seq (.seq (.reg [.s (.mv 5 (.k (.v (.c (.int .i64 0)))))]) (.blk 0 (.loop [0, 1, 5] lb_laws_markWordS_0))) (.seq (.reg [.s (.mv 60 (.t 1)), .s (.mv 4 (.t 60))]) (.ret)))⟩
def c_laws_markWordS : Fun := ⟨194, [true, false], fun ts K => as2 ts fun t0 t1 => arC (pO .word) t0 fun a => arC (pI .i64) t1 fun k => chk (0 ≤ k ∧ k ≤ 1125899906842624 ∧ a.length ≤ 2147483647) (K (tN (k + 6 * a.length)) ([tL true .word (mkWordS a.length k)]))⟩
theorem run_laws_markWordS (a : List (FT.Ty .word)) (k : Int) (hpre : 0 ≤ k ∧ k ≤ 1125899906842624 ∧ a.length ≤ 2147483647) : runK [] (a.length + 1) [true, false] pf_laws_markWordS [tL true .word a, tI .i64 k] fun r o => r = tN (k + 6 * a.length) ∧ o = [tL true .word (mkWordS a.length k)] := by
  have hml : (mkWordS a.length k).length = a.length := by simp [mkWordS]
  conv => whnf
  refine loop (α := Nat × Int × List Word) (fun p => ⟨[(0, .v (.c (.sl false .word 0))), (1, .v (.c (.int .i64 p.2.1))), (5, .v (.c (.int .i64 (p.1 : Int))))], [(0, some (.flat true .word none p.2.2))], nums.tail, [.v (.c (.sl false .word 0))], false, []⟩)
      (fun p => p.1 ≤ a.length ∧ p.2.1 = k + 6 * p.1 ∧ p.2.2 = (mkWordS a.length k).take p.1 ++ a.drop p.1) (fun p => a.length - p.1) (fun p R hI hR => ?_) (0, k, a) _ ⟨by simp, by simp, by simp⟩ (by simp)
  obtain ⟨i, c, xs⟩ := p
  obtain ⟨hi, hc, hx⟩ := hI
  dsimp only at hi hc hx
  have hlen : xs.length = a.length := by rw [hx]; simp [hml]; omega
  dsimp only
  conv => whnf
  refine sel_i (fun h2 => ?_) (fun h2 => ?_)
  · have hlt : i < a.length := by simp at h2; omega
    have hget : ∀ x : Word, (xs.set i x).getD i (FT.zero .word) = x := fun x => by simp [List.getD_eq_getElem?_getD, hlen, hlt]
    have hmk : (mkWordS a.length k)[i]? = some (elWord c) := by simp [mkWordS, hlt, hc]
    conv => whnf
    repeat' (refine chk_c ?_ ?_ <;> conv => whnf)
    all_goals first
      | (refine ⟨?_⟩; omega)
      | (refine ⟨?_⟩; simp; done)
      | (refine ⟨?_⟩; simp; omega)
      | skip
    simp (disch := omega) only [wrap_id, Int.toNat_natCast, hget, List.set_set]
    exact hR (i + 1, c + 1 + 1 + 1 + 1 + 1 + 1, xs.set i (elWord c)) ⟨by omega, by simp; omega, by rw [hx]; exact set_mid hml hlt hmk⟩ (by simp; omega)
  · have hge : i = a.length := by simp at h2; omega
    subst hge
    conv => whnf
    refine ⟨by rw [hc], ?_⟩
    rw [hx, List.take_of_length_le (by omega), List.drop_eq_nil_of_le (by omega), List.append_nil]
theorem ok_laws_markWordS : FunOk Try.prog c_laws_markWordS := funOk (E := []) (envOk_nil) mixd Try.func194 (pf := pf_laws_markWordS) (by kernel_rfl) fun ts K h => by
  obtain ⟨t0, t1, e0, h⟩ := as2_out h
  subst e0
  obtain ⟨a, e1, hq⟩ := arC_out (rd_o .word) h
  clear h
  subst e1
  have h := hq
  clear hq
  obtain ⟨k, e1, hq⟩ := arC_out (rd_int .i64) h
  clear h
  subst e1
  have h := hq
  clear hq
  obtain ⟨hpre, h⟩ := chk_o h
  exact ⟨_, _, h, Nat.le_of_ble_eq_true (show Nat.ble 2 Try.f194.ntmps = true by kernel_rfl), _, run_laws_markWordS a k hpre⟩

def lb_laws_heldWordS_0 : PC := .seq (.seq (.reg [.s (.mv 6 (.t 5)), .s (.mv 7 (.t 0)), .s (.len 8 false (.t 7)), .s (.bin 9 .lss (.t 6) (.t 8))]) (.cond (.t 9) (.skip) (.exit 0))) (.seq (.blk 1 (.seq (.seq (.reg [.s (.mv 12 (.t 0)), .s (.mv 13 (.t 5)), .s (.ia 14 .word (.t 12) (.t 13)), .s (.fa 15 (.t 14) 0), .s (.load 16 false 1 (.t 15)), .s (.mv 17 (.t 1)), .s (.bin 18 .neq (.t 16) (.t 17))]) (.cond (.t 18) (.seq (.reg [.s (.mv 4 (.k (.v (.c (.int .i64 (-1))))))]) (.ret)) (.skip))) (.seq (.reg [.s (.mv 19 (.t 1)), .s (.bin 20 .add (.t 19) (.k (.v (.c (.int .i64 1))))), .s (.mv 1 (.t 20))]) (.seq (.seq (.reg [.s (.mv 21 (.t 0)), .s (.mv 22 (.t 5)), .s (.ia 23 .word (.t 21) (.t 22)), .s (.fa 24 (.t 23) 1), .s (.load 25 false 1 (.t 24)), .s (.mv 26 (.t 1)), .s (.bin 27 .rem (.t 26) (.k (.v (.c (.int .i64 3))))), .s (.bin 28 .eql (.t 27) (.k (.v (.c (.int .i64 0))))), .s (.eqs 29 false [.b] true (.t 25) (.t 28))]) (.cond (.t 29) (.seq (.reg [.s (.mv 4 (.k (.v (.c (.int .i64 (-1))))))]) (.ret)) (.skip))) (.seq (.reg [.s (.mv 30 (.t 1)), .s (.bin 31 .add (.t 30) (.k (.v (.c (.int .i64 1))))), .s (.mv 1 (.t 31))]) (.seq (.seq (.reg [.s (.mv 32 (.t 0)), .s (.mv 33 (.t 5)), .s (.ia 34 .word (.t 32) (.t 33)), .s (.fa 35 (.t 34) 2), .s (.fa 36 (.t 35) 0), .s (.load 37 false 1 (.t 36)), .s (.mv 38 (.t 1)), .s (.bin 39 .neq (.t 37) (.t 38))]) (.cond (.t 39) (.seq (.reg [.s (.mv 4 (.k (.v (.c (.int .i64 (-1))))))]) (.ret)) (.skip))) (.seq (.reg [.s (.mv 40 (.t 1)), .s (.bin 41 .add (.t 40) (.k (.v (.c (.int .i64 1))))), .s (.mv 1 (.t 41))]) (.seq (.seq (.reg [.s (.mv 42 (.t 0)), .s (.mv 43 (.t 5)), .s (.ia 44 .word (.t 42) (.t 43)), .s (.fa 45 (.t 44) 2), .s (.fa 46 (.t 45) 1), .s (.load 47 false 1 (.t 46)), .s (.mv 48 (.t 1)), .s (.bin 49 .neq (.t 47) (.t 48))]) (.cond (.t 49) (.seq (.reg [.s (.mv 4 (.k (.v (.c (.int .i64 (-1))))))]) (.ret)) (.skip))) (.seq (.reg [.s (.mv 50 (.t 1)), .s (.bin 51 .add (.t 50) (.k (.v (.c (.int .i64 1))))), .s (.mv 1 (.t 51))]) (.seq (.seq (.reg [.s (.mv 52 (.t 0)), .s (.mv 53 (.t 5)), .s (.ia 54 .word (.t 52) (.t 53)), .s (.fa 55 (.t 54) 2), .s (.fa 56 (.t 55) 2), .s (.load 57 false 1 (.t 56)), .s (.mv 58 (.t 1)), .s (.bin 59 .neq (.t 57) (.t 58))]) (.cond (.t 59) (.seq (.reg [.s (.mv 4 (.k (.v (.c (.int .i64 (-1))))))]) (.ret)) (.skip))) (.seq (.reg [.s (.mv 60 (.t 1)), .s (.bin 61 .add (.t 60) (.k (.v (.c (.int .i64 1))))), .s (.mv 1 (.t 61))]) (.seq (.seq (.reg [.s (.mv 62 (.t 0)), .s (.mv 63 (.t 5)), .s (.ia 64 .word (.t 62) (.t 63)), .s (.fa 65 (.t 64) 2), .s (.fa 66 (.t 65) 3), .s (.load 67 false 1 (.t 66)), .s (.mv 68 (.t 1)), .s (.bin 69 .neq (.t 67) (.t 68))]) (.cond (.t 69) (.seq (.reg [.s (.mv 4 (.k (.v (.c (.int .i64 (-1))))))]) (.ret)) (.skip))) (.reg [.s (.mv 70 (.t 1)), .s (.bin 71 .add (.t 70) (.k (.v (.c (.int .i64 1))))), .s (.mv 1 (.t 71))]))))))))))))) (.reg [.s (.mv 10 (.t 5)), .s (.bin 11 .add (.t 10) (.k (.v (.c (.int .i64 1))))), .s (.mv 5 (.t 11))]))
def pf_laws_heldWordS : PF := ⟨[.t 4], .seq (.reg [.s (.mv 4 (.k (.v (.c (.int .i64 0)))))]) (.seq (.seq (.reg [.s (.mv 5 (.k (.v (.c (.int .i64 0)))))]) (.blk 0 (.loop [0, 1, 5] lb_laws_heldWordS_0))) (.seq (.reg [.s (.mv 72 (.t 1)), .s (.mv 4 (.t 72))]) (.ret)))⟩
def c_laws_heldWordS : Fun := ⟨196, [], fun ts K => as2 ts fun t0 t1 => arC (pL .word) t0 fun a => arC (pI .i64) t1 fun k => chk (0 ≤ k ∧ k ≤ 1125899906842624 ∧ a.length ≤ 2147483647) (K (tN (hres (a = mkWordS a.length k) (k + 6 * a.length))) [])⟩
theorem run_laws_heldWordS (a : List (FT.Ty .word)) (k : Int) (hpre : 0 ≤ k ∧ k ≤ 1125899906842624 ∧ a.length ≤ 2147483647) : runK [] (a.length + 1) [] pf_laws_heldWordS [tL false .word a, tI .i64 k] fun r o => r = tN (hres (a = mkWordS a.length k) (k + 6 * a.length)) ∧ o = [] := by
  have hml : (mkWordS a.length k).length = a.length := by simp [mkWordS]
  conv => whnf
  refine loop (α := Nat × Int) (fun p => ⟨[(0, .v (.c (.sl false .word 0))), (1, .v (.c (.int .i64 p.2))), (5, .v (.c (.int .i64 (p.1 : Int))))], [(0, some (.flat false .word none a))], nums.tail, [], false, []⟩)
      (fun p => p.1 ≤ a.length ∧ p.2 = k + 6 * p.1 ∧ a.take p.1 = (mkWordS a.length k).take p.1) (fun p => a.length - p.1) (fun p R hI hR => ?_) (0, k) _ ⟨by simp, by simp, by simp⟩ (by simp)
  obtain ⟨i, c⟩ := p
  obtain ⟨hi, hc, hx⟩ := hI
  dsimp only at hi hc hx
  dsimp only
  conv => whnf
  refine sel_i (fun h2 => ?_) (fun h2 => ?_)
  · have hlt : i < a.length := by simp at h2; omega
    have hmk : (mkWordS a.length k).getD i (FT.zero .word) = elWord c := by simp [mkWordS, List.getD_eq_getElem?_getD, hlt, hc]
    have hne : a.getD i (FT.zero .word) ≠ elWord c → a ≠ mkWordS a.length k := fun h e => h (by rw [← hmk, ← e])
    conv => whnf
    repeat' (first | (refine sel_i (fun h2 => ?_) (fun h2 => ?_) <;> conv => whnf) | (refine chk_c ?_ ?_ <;> conv => whnf))
    all_goals first
      | (refine ⟨?_⟩; omega)
      | (refine ⟨?_⟩; simp; done)
      | (refine ⟨?_⟩; simp; omega)
      | (refine ⟨?_, rfl⟩
         rw [hres_no (hne (fun e => by
           simp (disch := omega) only [wrap_id, Int.toNat_natCast, e] at h2
           simp [elWord] at h2))])
      | skip
    rename_i e0 e1 e2 e3 e4 e5
    simp (disch := omega) only [wrap_id, Int.toNat_natCast] at e1 e2 e3 e4 e5 h2 ⊢
    have he : a.getD i (FT.zero .word) = elWord c := by
      generalize a.getD i (FT.zero .word) = v at e1 e2 e3 e4 e5 h2
      obtain ⟨v0, v1, ⟨v2, v3, v4, v5⟩⟩ := v
      simp at e1 e2 e3 e4 e5 h2
      simp [elWord, *]
    exact hR (i + 1, c + 1 + 1 + 1 + 1 + 1 + 1) ⟨by omega, by simp; omega, take_step hx hlt (by omega) (he.trans hmk.symm)⟩ (by simp; omega)
  · have hge : i = a.length := by simp at h2; omega
    subst hge
    conv => whnf
    refine ⟨?_, rfl⟩
    rw [List.take_of_length_le (by omega), List.take_of_length_le (by omega)] at hx
    rw [hres_yes hx, hc]
theorem ok_laws_heldWordS : FunOk Try.prog c_laws_heldWordS := funOk (E := []) (envOk_nil) mixd Try.func196 (pf := pf_laws_heldWordS) (by kernel_rfl) fun ts K h => by
  obtain ⟨t0, t1, e0, h⟩ := as2_out h
  subst e0
  obtain ⟨a, e1, hq⟩ := arC_out (rd_l .word) h
  clear h
  subst e1
  have h := hq
  clear hq
  obtain ⟨k, e1, hq⟩ := arC_out (rd_int .i64) h
  clear h
  subst e1
  have h := hq
  clear hq
  obtain ⟨hpre, h⟩ := chk_o h
  exact ⟨_, _, h, Nat.le_of_ble_eq_true (show Nat.ble 2 Try.f196.ntmps = true by kernel_rfl), _, run_laws_heldWordS a k hpre⟩

def elBool (c : Int) : Bool := (Int.tmod (c) 3 == 0)
def mkBoolS (n : Nat) (k : Int) : List Bool := (List.range n).map (fun j : Nat => elBool (k + 1 * j))
theorem mkBoolS_length (n : Nat) (k : Int) : (mkBoolS n k).length = n := by simp [mkBoolS]

def lb_laws_eqBoolS_0 : PC := .seq (.seq (.reg [.s (.mv 11 (.t 5)), .s (.mv 12 (.t 0)), .s (.len 13 false (.t 12)), .s (.bin 14 .lss (.t 11) (.t 13))]) (.cond (.t 14) (.skip) (.exit 0))) (.seq (.blk 1 (.seq (.rgd [] [.s (.mv 17 (.t 0)), .s (.mv 18 (.t 5)), .s (.ia 19 .bool (.t 17) (.t 18)), .s (.load 20 false 1 (.t 19)), .s (.mv 21 (.t 1)), .s (.mv 22 (.t 5)), .s (.ia 23 .bool (.t 21) (.t 22)), .s (.load 24 false 1 (.t 23)), .s (.eqs 25 false [.b] true (.t 20) (.t 24))] (.tk 0 (.tk 1 (.tk 2 (.tk 3 (.tk 4 (.tk 5 (.tk 6 (.tk 7 (.tk 8 (.done none))))))))))) (.cond (.t 25) (.seq (.reg [.s (.mv 4 (.k (.v (.c .ff))))]) (.ret)) (.skip)))) (.reg [.s (.mv 15 (.t 5)), .s (.bin 16 .add (.t 15) (.k (.v (.c (.int .i64 1))))), .s (.mv 5 (.t 16))]))
def pf_laws_eqBoolS : PF := ⟨[.t 4], .seq (.reg [.s (.mv 4 (.k (.v (.c .ff))))]) (.seq (.seq (.reg [.s (.mv 6 (.t 0)), .s (.len 7 false (.t 6)), .s (.mv 8 (.t 1)), .s (.len 9 false (.t 8)), .s (.bin 10 .neq (.t 7) (.t 9))]) (.cond (.t 10) (.seq (.reg [.s (.mv 4 (.k (.v (.c .ff))))]) (.ret)) (.skip))) (.seq (.seq (.reg [.s (.mv 5 (.k (.v (.c (.int .i64 0)))))]) (.blk 0 (.loop [0, 1, 5] lb_laws_eqBoolS_0))) (.seq (.reg [.s (.mv 4 (.k (.v (.c .tt))))]) (.ret))))⟩
def c_laws_eqBoolS : Fun := ⟨188, [], fun ts K => as2 ts fun t0 t1 => arC (pL .bool) t0 fun a => arC (pL .bool) t1 fun b => chk (a.length ≤ 2147483647) (K (tB (decide (a = b))) [])⟩
theorem run_laws_eqBoolS (a : List (FT.Ty .bool)) (b : List (FT.Ty .bool)) (hpre : a.length ≤ 2147483647) : runK [] (a.length + 1) [] pf_laws_eqBoolS [tL false .bool a, tL false .bool b] fun r o => r = tB (decide (a = b)) ∧ o = [] := by
  conv => whnf
  refine sel_i (fun h => ?_) (fun h => ?_)
  · conv => whnf
    refine ⟨?_, rfl⟩
    simp at h
    simp
    intro e; subst e; simp at h
  · conv => whnf
    refine loop (α := Nat) (fun i => ⟨[(0, .v (.c (.sl false .bool 0))), (1, .v (.c (.sl false .bool 1))), (5, .v (.c (.int .i64 (i : Int))))], [(1, some (.flat false .bool none b)), (0, some (.flat false .bool none a))], nums.tail.tail, [], false, []⟩)
      (fun i => i ≤ a.length ∧ a.take i = b.take i) (fun i => a.length - i) (fun i R hI hR => ?_) 0 _ ⟨by simp, by simp⟩ (by omega)
    conv => whnf
    repeat' (first | (refine sel_i (fun h2 => ?_) (fun h2 => ?_) <;> conv => whnf) | (refine chk_c ?_ ?_ <;> conv => whnf))
    all_goals (have hl : a.length = b.length := by simp at h; omega)
    · exact ⟨by simp at h2; omega⟩
    · exact ⟨by simp at h2; omega⟩
    · exact ⟨by simp at h2; omega⟩
    · exact ⟨by simp at h2; omega⟩
    · refine ⟨?_, rfl⟩
      have hne : a ≠ b := fun e => by subst e; simp at h2
      simp [hne]
    · rename_i h3
      have hlt : i < a.length := by simpa using h3
      rw [wrap_id (n := (i : Int) + 1) (by omega) (by omega)]
      exact hR (i + 1) ⟨by omega, take_step (z := FT.zero .bool) hI.2 hlt (by omega) (by simpa using h2)⟩ (by omega)
    · refine ⟨?_, rfl⟩
      have hge : a.length ≤ i := by simpa using h2
      have : a = b := take_all hI.2 hge (by omega)
      simp [this]
theorem ok_laws_eqBoolS : FunOk Try.prog c_laws_eqBoolS := funOk (E := []) (envOk_nil) mixd Try.func188 (pf := pf_laws_eqBoolS) (by kernel_rfl) fun ts K h => by
  obtain ⟨t0, t1, e0, h⟩ := as2_out h
  subst e0
  obtain ⟨a, e1, hq⟩ := arC_out (rd_l .bool) h
  clear h
  subst e1
  have h := hq
  clear hq
  obtain ⟨b, e1, hq⟩ := arC_out (rd_l .bool) h
  clear h
  subst e1
  have h := hq
  clear hq
  obtain ⟨hpre, h⟩ := chk_o h
  exact ⟨_, _, h, Nat.le_of_ble_eq_true (show Nat.ble 2 Try.f188.ntmps = true by kernel_rfl), _, run_laws_eqBoolS a b hpre⟩

def lb_laws_markBoolS_0 : PC := .seq (.seq (.reg [.s (.mv 6 (.t 5)), .s (.mv 7 (.t 0)), .s (.len 8 false (.t 7)), .s (.bin 9 .lss (.t 6) (.t 8))]) (.cond (.t 9) (.skip) (.exit 0))) (.seq (.blk 1 (.seq (.reg [.s (.mv 12 (.t 0)), .s (.mv 13 (.t 5)), .s (.mv 14 (.t 1)), .s (.bin 15 .rem (.t 14) (.k (.v (.c (.int .i64 3))))), .s (.bin 16 .eql (.t 15) (.k (.v (.c (.int .i64 0))))), .s (.ia 17 .bool (.t 12) (.t 13)), .s (.store 1 (.t 17) (.t 16))]) (.reg [.s (.mv 18 (.t 1)), .s (.bin 19 .add (.t 18) (.k (.v (.c (.int .i64 1))))), .s (.mv 1 (.t 19))]))) (.reg [.s (.mv 10 (.t 5)), .s (.bin 11 .add (.t 10) (.k (.v (.c (.int .i64 1))))), .s (.mv 5 (.t 11))]))
def pf_laws_markBoolS : PF := ⟨[.t 4], .seq (.reg [.s (.mv 4 (.k (.v (.c (.int .i64 0)))))]) (.seq (.seq (.reg [.s (.mv 5 (.k (.v (.c (.int .i64 0)))))]) (.blk 0 (.loop [0, 1, 5] lb_laws_markBoolS_0))) (.seq (.reg [.s (.mv 20 (.t 1)), .s (.mv 4 (.t 20))]) (.ret)))⟩
def c_laws_markBoolS : Fun := ⟨195, [true, false], fun ts K => as2 ts fun t0 t1 => arC (pO .bool) t0 fun a => arC (pI .i64) t1 fun k => chk (0 ≤ k ∧ k ≤ 1125899906842624 ∧ a.length ≤ 2147483647) (K (tN (k + 1 * a.length)) ([tL true .bool (mkBoolS a.length k)]))⟩
theorem run_laws_markBoolS (a : List (FT.Ty .bool)) (k : Int) (hpre : 0 ≤ k ∧ k ≤ 1125899906842624 ∧ a.length ≤ 2147483647) : runK [] (a.length + 1) [true, false] pf_laws_markBoolS [tL true .bool a, tI .i64 k] fun r o => r = tN (k + 1 * a.length) ∧ o = [tL true .bool (mkBoolS a.length k)] := by
  have hml : (mkBoolS a.length k).length = a.length := by simp [mkBoolS]
  conv => whnf
  refine loop (α := Nat × Int × List Bool) (fun p => ⟨[(0, .v (.c (.sl false .bool 0))), (1, .v (.c (.int .i64 p.2.1))), (5, .v (.c (.int .i64 (p.1 : Int))))], [(0, some (.flat true .bool none p.2.2))], nums.tail, [.v (.c (.sl false .bool 0))], false, []⟩)
      (fun p => p.1 ≤ a.length ∧ p.2.1 = k + 1 * p.1 ∧ p.2.2 = (mkBoolS a.length k).take p.1 ++ a.drop p.1) (fun p => a.length - p.1) (fun p R hI hR => ?_) (0, k, a) _ ⟨by simp, by simp, by simp⟩ (by simp)
  obtain ⟨i, c, xs⟩ := p
  obtain ⟨hi, hc, hx⟩ := hI
  dsimp only at hi hc hx
  have hlen : xs.length = a.length := by rw [hx]; simp [hml]; omega
  dsimp only
  conv => whnf
  refine sel_i (fun h2 => ?_) (fun h2 => ?_)
  · have hlt : i < a.length := by simp at h2; omega
    have hget : ∀ x : Bool, (xs.set i x).getD i (FT.zero .bool) = x := fun x => by simp [List.getD_eq_getElem?_getD, hlen, hlt]
    have hmk : (mkBoolS a.length k)[i]? = some (elBool c) := by simp [mkBoolS, hlt, hc]
    conv => whnf
    repeat' (refine chk_c ?_ ?_ <;> conv => whnf)
    all_goals first
      | (refine ⟨?_⟩; omega)
      | (refine ⟨?_⟩; simp; done)
      | (refine ⟨?_⟩; simp; omega)
      | skip
    simp (disch := omega) only [wrap_id, Int.toNat_natCast, hget, List.set_set]
    exact hR (i + 1, c + 1, xs.set i (elBool c)) ⟨by omega, by simp; omega, by rw [hx]; exact set_mid hml hlt hmk⟩ (by simp; omega)
  · have hge : i = a.length := by simp at h2; omega
    subst hge
    conv => whnf
    refine ⟨by rw [hc], ?_⟩
    rw [hx, List.take_of_length_le (by omega), List.drop_eq_nil_of_le (by omega), List.append_nil]
theorem ok_laws_markBoolS : FunOk Try.prog c_laws_markBoolS := funOk (E := []) (envOk_nil) mixd Try.func195 (pf := pf_laws_markBoolS) (by kernel_rfl) fun ts K h => by
  obtain ⟨t0, t1, e0, h⟩ := as2_out h
  subst e0
  obtain ⟨a, e1, hq⟩ := arC_out (rd_o .bool) h
  clear h
  subst e1
  have h := hq
  clear hq
  obtain ⟨k, e1, hq⟩ := arC_out (rd_int .i64) h
  clear h
  subst e1
  have h := hq
  clear hq
  obtain ⟨hpre, h⟩ := chk_o h
  exact ⟨_, _, h, Nat.le_of_ble_eq_true (show Nat.ble 2 Try.f195.ntmps = true by kernel_rfl), _, run_laws_markBoolS a k hpre⟩

def lb_laws_heldBoolS_0 : PC := .seq (.seq (.reg [.s (.mv 6 (.t 5)), .s (.mv 7 (.t 0)), .s (.len 8 false (.t 7)), .s (.bin 9 .lss (.t 6) (.t 8))]) (.cond (.t 9) (.skip) (.exit 0))) (.seq (.blk 1 (.seq (.seq (.reg [.s (.mv 12 (.t 0)), .s (.mv 13 (.t 5)), .s (.ia 14 .bool (.t 12) (.t 13)), .s (.load 15 false 1 (.t 14)), .s (.mv 16 (.t 1)), .s (.bin 17 .rem (.t 16) (.k (.v (.c (.int .i64 3))))), .s (.bin 18 .eql (.t 17) (.k (.v (.c (.int .i64 0))))), .s (.eqs 19 false [.b] true (.t 15) (.t 18))]) (.cond (.t 19) (.seq (.reg [.s (.mv 4 (.k (.v (.c (.int .i64 (-1))))))]) (.ret)) (.skip))) (.reg [.s (.mv 20 (.t 1)), .s (.bin 21 .add (.t 20) (.k (.v (.c (.int .i64 1))))), .s (.mv 1 (.t 21))]))) (.reg [.s (.mv 10 (.t 5)), .s (.bin 11 .add (.t 10) (.k (.v (.c (.int .i64 1))))), .s (.mv 5 (.t 11))]))
def pf_laws_heldBoolS : PF := ⟨[.t 4], .seq (.reg [.s (.mv 4 (.k (.v (.c (.int .i64 0)))))]) (.seq (.seq (.reg [.s (.mv 5 (.k (.v (.c (.int .i64 0)))))]) (.blk 0 (.loop [0, 1, 5] lb_laws_heldBoolS_0))) (.seq (.reg [.s (.mv 22 (.t 1)), .s (.mv 4 (.t 22))]) (.ret)))⟩
def c_laws_heldBoolS : Fun := ⟨197, [], fun ts K => as2 ts fun t0 t1 => arC (pL .bool) t0 fun a => arC (pI .i64) t1 fun k => chk (0 ≤ k ∧ k ≤ 1125899906842624 ∧ a.length ≤ 2147483647) (K (tN (hres (a = mkBoolS a.length k) (k + 1 * a.length))) [])⟩
theorem run_laws_heldBoolS (a : List (FT.Ty .bool)) (k : Int) (hpre : 0 ≤ k ∧ k ≤ 1125899906842624 ∧ a.length ≤ 2147483647) : runK [] (a.length + 1) [] pf_laws_heldBoolS [tL false .bool a, tI .i64 k] fun r o => r = tN (hres (a = mkBoolS a.length k) (k + 1 * a.length)) ∧ o = [] := by
  have hml : (mkBoolS a.length k).length = a.length := by simp [mkBoolS]
  conv => whnf
  refine loop (α := Nat × Int) (fun p => ⟨[(0, .v (.c (.sl false .bool 0))), (1, .v (.c (.int .i64 p.2))), (5, .v (.c (.int .i64 (p.1 : Int))))], [(0, some (.flat false .bool none a))], nums.tail, [], false, []⟩)
      (fun p => p.1 ≤ a.length ∧ p.2 = k + 1 * p.1 ∧ a.take p.1 = (mkBoolS a.length k).take p.1) (fun p => a.length - p.1) (fun p R hI hR => ?_) (0, k) _ ⟨by simp, by simp, by simp⟩ (by simp)
  obtain ⟨i, c⟩ := p
  obtain ⟨hi, hc, hx⟩ := hI
  dsimp only at hi hc hx
  dsimp only
  conv => whnf
  refine sel_i (fun h2 => ?_) (fun h2 => ?_)
  · have hlt : i < a.length := by simp at h2; omega
    have hmk : (mkBoolS a.length k).getD i (FT.zero .bool) = elBool c := by simp [mkBoolS, List.getD_eq_getElem?_getD, hlt, hc]
    have hne : a.getD i (FT.zero .bool) ≠ elBool c → a ≠ mkBoolS a.length k := fun h e => h (by rw [← hmk, ← e])
    conv => whnf
    repeat' (first | (refine sel_i (fun h2 => ?_) (fun h2 => ?_) <;> conv => whnf) | (refine chk_c ?_ ?_ <;> conv => whnf))
    all_goals first
      | (refine ⟨?_⟩; omega)
      | (refine ⟨?_⟩; simp; done)
      | (refine ⟨?_⟩; simp; omega)
      | (refine ⟨?_, rfl⟩
         rw [hres_no (hne (fun e => by
           simp (disch := omega) only [wrap_id, Int.toNat_natCast, e] at h2
           simp [elBool] at h2))])
      | skip
    rename_i e0
    simp (disch := omega) only [wrap_id, Int.toNat_natCast] at h2 ⊢
    have he : a.getD i (FT.zero .bool) = elBool c := by
      generalize a.getD i (FT.zero .bool) = v at h2
      simp at h2
      simp [elBool, *]
    exact hR (i + 1, c + 1) ⟨by omega, by simp; omega, take_step hx hlt (by omega) (he.trans hmk.symm)⟩ (by simp; omega)
  · have hge : i = a.length := by simp at h2; omega
    subst hge
    conv => whnf
    refine ⟨?_, rfl⟩
    rw [List.take_of_length_le (by omega), List.take_of_length_le (by omega)] at hx
    rw [hres_yes hx, hc]
theorem ok_laws_heldBoolS : FunOk Try.prog c_laws_heldBoolS := funOk (E := []) (envOk_nil) mixd Try.func197 (pf := pf_laws_heldBoolS) (by kernel_rfl) fun ts K h => by
  obtain ⟨t0, t1, e0, h⟩ := as2_out h
  subst e0
  obtain ⟨a, e1, hq⟩ := arC_out (rd_l .bool) h
  clear h
  subst e1
  have h := hq
  clear hq
  obtain ⟨k, e1, hq⟩ := arC_out (rd_int .i64) h
  clear h
  subst e1
  have h := hq
  clear hq
  obtain ⟨hpre, h⟩ := chk_o h
  exact ⟨_, _, h, Nat.le_of_ble_eq_true (show Nat.ble 2 Try.f197.ntmps = true by kernel_rfl), _, run_laws_heldBoolS a k hpre⟩

def elSpan (c : Int) : Span := ⟨c, c + 1⟩
def mkSpanS (n : Nat) (k : Int) : List Span := (List.range n).map (fun j : Nat => elSpan (k + 2 * j))
theorem mkSpanS_length (n : Nat) (k : Int) : (mkSpanS n k).length = n := by simp [mkSpanS]

def lb_laws_eqSpanS_0 : PC := .seq (.seq (.reg [.s (.mv 11 (.t 5)), .s (.mv 12 (.t 0)), .s (.len 13 false (.t 12)), .s (.bin 14 .lss (.t 11) (.t 13))]) (.cond (.t 14) (.skip) (.exit 0))) (.seq (.blk 1 (.seq (.rgd [] [.s (.mv 17 (.t 0)), .s (.mv 18 (.t 5)), .s (.ia 19 .span (.t 17) (.t 18)), .s (.load 20 true 2 (.t 19)), .s (.mv 21 (.t 1)), .s (.mv 22 (.t 5)), .s (.ia 23 .span (.t 21) (.t 22)), .s (.load 24 true 2 (.t 23)), .s (.call (some 25) 189 [(.t 20), (.t 24)]), .s (.bnot 26 (.t 25))] (.tk 0 (.tk 1 (.tk 2 (.tk 3 (.tk 4 (.tk 5 (.tk 6 (.tk 7 (.one 8 true (.tk 9 (.done none)))))))))))) (.cond (.t 26) (.seq (.reg [.s (.mv 4 (.k (.v (.c .ff))))]) (.ret)) (.skip)))) (.reg [.s (.mv 15 (.t 5)), .s (.bin 16 .add (.t 15) (.k (.v (.c (.int .i64 1))))), .s (.mv 5 (.t 16))]))
def pf_laws_eqSpanS : PF := ⟨[.t 4], .seq (.reg [.s (.mv 4 (.k (.v (.c .ff))))]) (.seq (.seq (.reg [.s (.mv 6 (.t 0)), .s (.len 7 false (.t 6)), .s (.mv 8 (.t 1)), .s (.len 9 false (.t 8)), .s (.bin 10 .neq (.t 7) (.t 9))]) (.cond (.t 10) (.seq (.reg [.s (.mv 4 (.k (.v (.c .ff))))]) (.ret)) (.skip))) (.seq (.seq (.reg [.s (.mv 5 (.k (.v (.c (.int .i64 0)))))]) (.blk 0 (.loop [0, 1, 5] lb_laws_eqSpanS_0))) (.seq (.reg [.s (.mv 4 (.k (.v (.c .tt))))]) (.ret))))⟩
def c_laws_eqSpanS : Fun := ⟨137, [], fun ts K => as2 ts fun t0 t1 => arC (pL .span) t0 fun a => arC (pL .span) t1 fun b => chk (a.length ≤ 2147483647) (K (tB (decide (a = b))) [])⟩
theorem run_laws_eqSpanS (a : List (FT.Ty .span)) (b : List (FT.Ty .span)) (hpre : a.length ≤ 2147483647) : runK [c_laws_eqSpan] (a.length + 1) [] pf_laws_eqSpanS [tL false .span a, tL false .span b] fun r o => r = tB (decide (a = b)) ∧ o = [] := by
  conv => whnf
  refine sel_i (fun h => ?_) (fun h => ?_)
  · conv => whnf
    refine ⟨?_, rfl⟩
    simp at h
    simp
    intro e; subst e; simp at h
  · conv => whnf
    refine loop (α := Nat) (fun i => ⟨[(0, .v (.c (.sl false .span 0))), (1, .v (.c (.sl false .span 1))), (5, .v (.c (.int .i64 (i : Int))))], [(1, some (.flat false .span none b)), (0, some (.flat false .span none a))], nums.tail.tail, [], false, []⟩)
      (fun i => i ≤ a.length ∧ a.take i = b.take i) (fun i => a.length - i) (fun i R hI hR => ?_) 0 _ ⟨by simp, by simp⟩ (by omega)
    conv => whnf
    repeat' (first | (refine sel_i (fun h2 => ?_) (fun h2 => ?_) <;> conv => whnf) | (refine chk_c ?_ ?_ <;> conv => whnf))
    all_goals (have hl : a.length = b.length := by simp at h; omega)
    · exact ⟨by simp at h2; omega⟩
    · exact ⟨by simp at h2; omega⟩
    · exact ⟨by simp at h2; omega⟩
    · exact ⟨by simp at h2; omega⟩
    · refine ⟨?_, rfl⟩
      have hne : a ≠ b := fun e => by subst e; simp at h2
      simp [hne]
    · rename_i h3
      have hlt : i < a.length := by simpa using h3
      rw [wrap_id (n := (i : Int) + 1) (by omega) (by omega)]
      exact hR (i + 1) ⟨by omega, take_step (z := FT.zero .span) hI.2 hlt (by omega) (nd_t h2)⟩ (by omega)
    · refine ⟨?_, rfl⟩
      have hge : a.length ≤ i := by simpa using h2
      have : a = b := take_all hI.2 hge (by omega)
      simp [this]
theorem ok_laws_eqSpanS : FunOk Try.prog c_laws_eqSpanS := funOk (E := [c_laws_eqSpan]) (envOk_cons ok_laws_eqSpan (envOk_nil)) mixd Try.func137 (pf := pf_laws_eqSpanS) (by kernel_rfl) fun ts K h => by
  obtain ⟨t0, t1, e0, h⟩ := as2_out h
  subst e0
  obtain ⟨a, e1, hq⟩ := arC_out (rd_l .span) h
  clear h
  subst e1
  have h := hq
  clear hq
  obtain ⟨b, e1, hq⟩ := arC_out (rd_l .span) h
  clear h
  subst e1
  have h := hq
  clear hq
  obtain ⟨hpre, h⟩ := chk_o h
  exact ⟨_, _, h, Nat.le_of_ble_eq_true (show Nat.ble 2 Try.f137.ntmps = true by kernel_rfl), _, run_laws_eqSpanS a b hpre⟩

def lb_laws_markSpanS_0 : PC := .seq (.seq (.reg [.s (.mv 6 (.t 5)), .s (.mv 7 (.t 0)), .s (.len 8 false (.t 7)), .s (.bin 9 .lss (.t 6) (.t 8))]) (.cond (.t 9) (.skip) (.exit 0))) (.seq (.blk 1 (.seq (.reg [.s (.mv 12 (.t 0)), .s (.mv 13 (.t 5)), .s (.mv 14 (.t 1)), .s (.ia 15 .span (.t 12) (.t 13)), .s (.fa 16 (.t 15) 0), .s (.store 1 (.t 16) (.t 14))]) (.seq (.reg [.s (.mv 17 (.t 1)), .s (.bin 18 .add (.t 17) (.k (.v (.c (.int .i64 1))))), .s (.mv 1 (.t 18))]) (.seq (.reg [.s (.mv 19 (.t 0)), .s (.mv 20 (.t 5)), .s (.mv 21 (.t 1)), .s (.ia 22 .span (.t 19) (.t 20)), .s (.fa 23 (.t 22) 1), .s (.store 1 (.t 23) (.t 21))]) (.reg [.s (.mv 24 (.t 1)), .s (.bin 25 .add (.t 24) (.k (.v (.c (.int .i64 1))))), .s (.mv 1 (.t 25))]))))) (.reg [.s (.mv 10 (.t 5)), .s (.bin 11 .add (.t 10) (.k (.v (.c (.int .i64 1))))), .s (.mv 5 (.t 11))]))
def pf_laws_markSpanS : PF := ⟨[.t 4], .seq (.reg [.s (.mv 4 (.k (.v (.c (.int .i64 0)))))]) (.seq (.seq (.reg [.s (.mv 5 (.k (.v (.c (.int .i64 0)))))]) (.blk 0 (.loop [0, 1, 5] lb_laws_markSpanS_0))) (.seq (.reg [.s (.mv 26 (.t 1)), .s (.mv 4 (.t 26))]) (.ret)))⟩
def c_laws_markSpanS : Fun := ⟨146, [true, false], fun ts K => as2 ts fun t0 t1 => arC (pO .span) t0 fun a => arC (pI .i64) t1 fun k => chk (0 ≤ k ∧ k ≤ 1125899906842624 ∧ a.length ≤ 2147483647) (K (tN (k + 2 * a.length)) ([tL true .span (mkSpanS a.length k)]))⟩
theorem run_laws_markSpanS (a : List (FT.Ty .span)) (k : Int) (hpre : 0 ≤ k ∧ k ≤ 1125899906842624 ∧ a.length ≤ 2147483647) : runK [] (a.length + 1) [true, false] pf_laws_markSpanS [tL true .span a, tI .i64 k] fun r o => r = tN (k + 2 * a.length) ∧ o = [tL true .span (mkSpanS a.length k)] := by
  have hml : (mkSpanS a.length k).length = a.length := by simp [mkSpanS]
  conv => whnf
  refine loop (α := Nat × Int × List Span) (fun p => ⟨[(0, .v (.c (.sl false .span 0))), (1, .v (.c (.int .i64 p.2.1))), (5, .v (.c (.int .i64 (p.1 : Int))))], [(0, some (.flat true .span none p.2.2))], nums.tail, [.v (.c (.sl false .span 0))], false, []⟩)
      (fun p => p.1 ≤ a.length ∧ p.2.1 = k + 2 * p.1 ∧ p.2.2 = (mkSpanS a.length k).take p.1 ++ a.drop p.1) (fun p => a.length - p.1) (fun p R hI hR => ?_) (0, k, a) _ ⟨by simp, by simp, by simp⟩ (by simp)
  obtain ⟨i, c, xs⟩ := p
  obtain ⟨hi, hc, hx⟩ := hI
  dsimp only at hi hc hx
  have hlen : xs.length = a.length := by rw [hx]; simp [hml]; omega
  dsimp only
  conv => whnf
  refine sel_i (fun h2 => ?_) (fun h2 => ?_)
  · have hlt : i < a.length := by simp at h2; omega
    have hget : ∀ x : Span, (xs.set i x).getD i (FT.zero .span) = x := fun x => by simp [List.getD_eq_getElem?_getD, hlen, hlt]
    have hmk : (mkSpanS a.length k)[i]? = some (elSpan c) := by simp [mkSpanS, hlt, hc]
    conv => whnf
    repeat' (refine chk_c ?_ ?_ <;> conv => whnf)
    all_goals first
      | (refine ⟨?_⟩; omega)
      | (refine ⟨?_⟩; simp; done)
      | (refine ⟨?_⟩; simp; omega)
      | skip
    simp (disch := omega) only [wrap_id, Int.toNat_natCast, hget, List.set_set]
    exact hR (i + 1, c + 1 + 1, xs.set i (elSpan c)) ⟨by omega, by simp; omega, by rw [hx]; exact set_mid hml hlt hmk⟩ (by simp; omega)
  · have hge : i = a.length := by simp at h2; omega
    subst hge
    conv => whnf
    refine ⟨by rw [hc], ?_⟩
    rw [hx, List.take_of_length_le (by omega), List.drop_eq_nil_of_le (by omega), List.append_nil]
theorem ok_laws_markSpanS : FunOk Try.prog c_laws_markSpanS := funOk (E := []) (envOk_nil) mixd Try.func146 (pf := pf_laws_markSpanS) (by kernel_rfl) fun ts K h => by
  obtain ⟨t0, t1, e0, h⟩ := as2_out h
  subst e0
  obtain ⟨a, e1, hq⟩ := arC_out (rd_o .span) h
  clear h
  subst e1
  have h := hq
  clear hq
  obtain ⟨k, e1, hq⟩ := arC_out (rd_int .i64) h
  clear h
  subst e1
  have h := hq
  clear hq
  obtain ⟨hpre, h⟩ := chk_o h
  exact ⟨_, _, h, Nat.le_of_ble_eq_true (show Nat.ble 2 Try.f146.ntmps = true by kernel_rfl), _, run_laws_markSpanS a k hpre⟩

def lb_laws_heldSpanS_0 : PC := .seq (.seq (.reg [.s (.mv 6 (.t 5)), .s (.mv 7 (.t 0)), .s (.len 8 false (.t 7)), .s (.bin 9 .lss (.t 6) (.t 8))]) (.cond (.t 9) (.skip) (.exit 0))) (.seq (.blk 1 (.seq (.seq (.reg [.s (.mv 12 (.t 0)), .s (.mv 13 (.t 5)), .s (.ia 14 .span (.t 12) (.t 13)), .s (.fa 15 (.t 14) 0), .s (.load 16 false 1 (.t 15)), .s (.mv 17 (.t 1)), .s (.bin 18 .neq (.t 16) (.t 17))]) (.cond (.t 18) (.seq (.reg [.s (.mv 4 (.k (.v (.c (.int .i64 (-1))))))]) (.ret)) (.skip))) (.seq (.reg [.s (.mv 19 (.t 1)), .s (.bin 20 .add (.t 19) (.k (.v (.c (.int .i64 1))))), .s (.mv 1 (.t 20))]) (.seq (.seq (.reg [.s (.mv 21 (.t 0)), .s (.mv 22 (.t 5)), .s (.ia 23 .span (.t 21) (.t 22)), .s (.fa 24 (.t 23) 1), .s (.load 25 false 1 (.t 24)), .s (.mv 26 (.t 1)), .s (.bin 27 .neq (.t 25) (.t 26))]) (.cond (.t 27) (.seq (.reg [.s (.mv 4 (.k (.v (.c (.int .i64 (-1))))))]) (.ret)) (.skip))) (.reg [.s (.mv 28 (.t 1)), .s (.bin 29 .add (.t 28) (.k (.v (.c (.int .i64 1))))), .s (.mv 1 (.t 29))]))))) (.reg [.s (.mv 10 (.t 5)), .s (.bin 11 .add (.t 10) (.k (.v (.c (.int .i64 1))))), .s (.mv 5 (.t 11))]))
def pf_laws_heldSpanS : PF := ⟨[.t 4], .seq (.reg [.s (.mv 4 (.k (.v (.c (.int .i64 0)))))]) (.seq (.seq (.reg [.s (.mv 5 (.k (.v (.c (.int .i64 0)))))]) (.blk 0 (.loop [0, 1, 5] lb_laws_heldSpanS_0))) (.seq (.reg [.s (.mv 30 (.t 1)), .s (.mv 4 (.t 30))]) (.ret)))⟩
def c_laws_heldSpanS : Fun := ⟨148, [], fun ts K => as2 ts fun t0 t1 => arC (pL .span) t0 fun a => arC (pI .i64) t1 fun k => chk (0 ≤ k ∧ k ≤ 1125899906842624 ∧ a.length ≤ 2147483647) (K (tN (hres (a = mkSpanS a.length k) (k + 2 * a.length))) [])⟩
theorem run_laws_heldSpanS (a : List (FT.Ty .span)) (k : Int) (hpre : 0 ≤ k ∧ k ≤ 1125899906842624 ∧ a.length ≤ 2147483647) : runK [] (a.length + 1) [] pf_laws_heldSpanS [tL false .span a, tI .i64 k] fun r o => r = tN (hres (a = mkSpanS a.length k) (k + 2 * a.length)) ∧ o = [] := by
  have hml : (mkSpanS a.length k).length = a.length := by simp [mkSpanS]
  conv => whnf
  refine loop (α := Nat × Int) (fun p => ⟨[(0, .v (.c (.sl false .span 0))), (1, .v (.c (.int .i64 p.2))), (5, .v (.c (.int .i64 (p.1 : Int))))], [(0, some (.flat false .span none a))], nums.tail, [], false, []⟩)
      (fun p => p.1 ≤ a.length ∧ p.2 = k + 2 * p.1 ∧ a.take p.1 = (mkSpanS a.length k).take p.1) (fun p => a.length - p.1) (fun p R hI hR => ?_) (0, k) _ ⟨by simp, by simp, by simp⟩ (by simp)
  obtain ⟨i, c⟩ := p
  obtain ⟨hi, hc, hx⟩ := hI
  dsimp only at hi hc hx
  dsimp only
  conv => whnf
  refine sel_i (fun h2 => ?_) (fun h2 => ?_)
  · have hlt : i < a.length := by simp at h2; omega
    have hmk : (mkSpanS a.length k).getD i (FT.zero .span) = elSpan c := by simp [mkSpanS, List.getD_eq_getElem?_getD, hlt, hc]
    have hne : a.getD i (FT.zero .span) ≠ elSpan c → a ≠ mkSpanS a.length k := fun h e => h (by rw [← hmk, ← e])
    conv => whnf
    repeat' (first | (refine sel_i (fun h2 => ?_) (fun h2 => ?_) <;> conv => whnf) | (refine chk_c ?_ ?_ <;> conv => whnf))
    all_goals first
      | (refine ⟨?_⟩; omega)
      | (refine ⟨?_⟩; simp; done)
      | (refine ⟨?_⟩; simp; omega)
      | (refine ⟨?_, rfl⟩
         rw [hres_no (hne (fun e => by
           simp (disch := omega) only [wrap_id, Int.toNat_natCast, e] at h2
           simp [elSpan] at h2))])
      | skip
    rename_i e0 e1
    simp (disch := omega) only [wrap_id, Int.toNat_natCast] at e1 h2 ⊢
    have he : a.getD i (FT.zero .span) = elSpan c := by
      generalize a.getD i (FT.zero .span) = v at e1 h2
      obtain ⟨v0, v1⟩ := v
      simp at e1 h2
      simp [elSpan, *]
    exact hR (i + 1, c + 1 + 1) ⟨by omega, by simp; omega, take_step hx hlt (by omega) (he.trans hmk.symm)⟩ (by simp; omega)
  · have hge : i = a.length := by simp at h2; omega
    subst hge
    conv => whnf
    refine ⟨?_, rfl⟩
    rw [List.take_of_length_le (by omega), List.take_of_length_le (by omega)] at hx
    rw [hres_yes hx, hc]
theorem ok_laws_heldSpanS : FunOk Try.prog c_laws_heldSpanS := funOk (E := []) (envOk_nil) mixd Try.func148 (pf := pf_laws_heldSpanS) (by kernel_rfl) fun ts K h => by
  obtain ⟨t0, t1, e0, h⟩ := as2_out h
  subst e0
  obtain ⟨a, e1, hq⟩ := arC_out (rd_l .span) h
  clear h
  subst e1
  have h := hq
  clear hq
  obtain ⟨k, e1, hq⟩ := arC_out (rd_int .i64) h
  clear h
  subst e1
  have h := hq
  clear hq
  obtain ⟨hpre, h⟩ := chk_o h
  exact ⟨_, _, h, Nat.le_of_ble_eq_true (show Nat.ble 2 Try.f148.ntmps = true by kernel_rfl), _, run_laws_heldSpanS a k hpre⟩

def elInt (c : Int) : Int := c
def mkIntS (n : Nat) (k : Int) : List Int := (List.range n).map (fun j : Nat => elInt (k + 1 * j))
theorem mkIntS_length (n : Nat) (k : Int) : (mkIntS n k).length = n := by simp [mkIntS]

def pf_laws_eqMemory : PF := ⟨[.t 4], .seq (.reg [.s (.box 2 (.t 0)), .s (.box 3 (.t 1)), .s (.mv 4 (.k (.v (.c .ff))))]) (.seq (.seq (.reg [.s (.fa 5 (.t 2) 0), .s (.load 6 false 1 (.t 5)), .s (.fa 7 (.t 3) 0), .s (.load 8 false 1 (.t 7)), .s (.call (some 9) 187 [(.t 6), (.t 8)]), .s (.bnot 10 (.t 9))]) (.cond (.t 10) (.seq (.reg [.s (.mv 4 (.k (.v (.c .ff))))]) (.ret)) (.skip))) (.seq (.seq (.reg [.s (.fa 11 (.t 2) 1), .s (.load 12 false 1 (.t 11)), .s (.fa 13 (.t 3) 1), .s (.load 14 false 1 (.t 13)), .s (.call (some 15) 188 [(.t 12), (.t 14)]), .s (.bnot 16 (.t 15))]) (.cond (.t 16) (.seq (.reg [.s (.mv 4 (.k (.v (.c .ff))))]) (.ret)) (.skip))) (.seq (.reg [.s (.mv 4 (.k (.v (.c .tt))))]) (.ret))))⟩
def c_laws_eqMemory : Fun := ⟨136, [], fun ts K => as2 ts fun t0 t1 => arG pMemT t0 fun a => arG pMemT t1 fun b => chk (a.words.length ≤ 2147483647 ∧ a.gone.length ≤ 2147483647) (K (tB (decide (a = b))) [])⟩
theorem run_laws_eqMemory (a : Mem) (b : Mem) (hpre : a.words.length ≤ 2147483647 ∧ a.gone.length ≤ 2147483647) : runK [c_laws_eqWordS, c_laws_eqBoolS] (0) [] pf_laws_eqMemory [tG (a.tc false []), tG (b.tc false [])] fun r o => r = tB (decide (a = b)) ∧ o = [] := by
  obtain ⟨a1, a2⟩ := a
  obtain ⟨b1, b2⟩ := b
  dsimp only at hpre
  conv => whnf
  refine chk_i hpre.1 ?_
  conv => whnf
  refine sel_i (fun h => ?_) (fun h => ?_) <;> conv => whnf
  · refine ⟨?_, rfl⟩; simp at h; simp [h]
  refine chk_i hpre.2 ?_
  conv => whnf
  refine sel_i (fun h2 => ?_) (fun h2 => ?_) <;> conv => whnf
  all_goals (refine ⟨?_, rfl⟩; simp at h h2; simp [h, h2])
theorem ok_laws_eqMemory : FunOk Try.prog c_laws_eqMemory := funOk (E := [c_laws_eqWordS, c_laws_eqBoolS]) (envOk_cons ok_laws_eqWordS (envOk_cons ok_laws_eqBoolS (envOk_nil))) mixd Try.func136 (pf := pf_laws_eqMemory) (by kernel_rfl) fun ts K h => by
  obtain ⟨t0, t1, e0, h⟩ := as2_out h
  subst e0
  obtain ⟨a, e1, hq⟩ := arG_out rd_mem h
  clear h
  subst e1
  have h := hq
  clear hq
  obtain ⟨b, e1, hq⟩ := arG_out rd_mem h
  clear h
  subst e1
  have h := hq
  clear hq
  obtain ⟨hpre, h⟩ := chk_o h
  exact ⟨_, _, h, Nat.le_of_ble_eq_true (show Nat.ble 2 Try.f136.ntmps = true by kernel_rfl), _, run_laws_eqMemory a b hpre⟩

def endMemory (m : Mem) (k : Int) : Int := k + 6 * m.words.length + 1 * m.gone.length
def markMemory (m : Mem) (k : Int) : Mem := { m with words := mkWordS m.words.length (k), gone := mkBoolS m.gone.length (k + 6 * m.words.length) }
def SzMemory (m : Mem) : Prop := m.words.length ≤ 2147483647 ∧ m.gone.length ≤ 2147483647
theorem mark_markMemory (m : Mem) (k : Int) : markMemory (markMemory m k) k = markMemory m k := by
  simp [SzMemory, endMemory, markMemory, mkWordS_length, mkBoolS_length]
theorem end_markMemory (m : Mem) (k : Int) : endMemory (markMemory m k) k = endMemory m k := by
  simp [SzMemory, endMemory, markMemory, mkWordS_length, mkBoolS_length]
theorem etaMemory (m : Mem) : (⟨m.words, m.gone⟩ : Mem) = m := rfl

def pf_laws_markMemory : PF := ⟨[.t 4], .seq (.reg [.s (.box 2 (.t 0)), .s (.mv 4 (.k (.v (.c (.int .i64 0)))))]) (.seq (.reg [.s (.fa 5 (.t 2) 0), .s (.load 6 false 1 (.t 5)), .s (.mv 7 (.t 1)), .s (.call (some 8) 194 [(.t 6), (.t 7)]), .s (.mv 1 (.t 8))]) (.seq (.reg [.s (.fa 9 (.t 2) 1), .s (.load 10 false 1 (.t 9)), .s (.mv 11 (.t 1)), .s (.call (some 12) 195 [(.t 10), (.t 11)]), .s (.mv 1 (.t 12))]) (.seq (.reg [.s (.mv 13 (.t 1)), .s (.mv 4 (.t 13))]) (.ret))))⟩
def c_laws_markMemory : Fun := ⟨145, [true, false], fun ts K => as2 ts fun t0 t1 => arG pMemO t0 fun m => arC (pI .i64) t1 fun k => chk (0 ≤ k ∧ k ≤ 562949953421312 ∧ SzMemory m) (K (tN (endMemory m k)) ([tG ((markMemory m k).tc true [])]))⟩
theorem run_laws_markMemory (m : Mem) (k : Int) (hpre : 0 ≤ k ∧ k ≤ 562949953421312 ∧ SzMemory m) : runK [c_laws_markWordS, c_laws_markBoolS] (0) [true, false] pf_laws_markMemory [tG (m.tc true []), tI .i64 k] fun r o => r = tN (endMemory m k) ∧ o = [tG ((markMemory m k).tc true [])] := by
  conv => whnf
  repeat' (refine chk_c ?_ ?_ <;> conv => whnf)
  all_goals first
    | (refine ⟨?_⟩; (try dsimp only); simp only [SzMemory, endMemory, markMemory] at *; omega)
    | (refine ⟨?_⟩; (try dsimp only); simp only [SzMemory, endMemory, markMemory, mkWordS_length, mkBoolS_length] at *; omega)
    | (refine ⟨?_⟩; (try dsimp only); simp [SzMemory, endMemory, markMemory, mkWordS_length, mkBoolS_length]; done)
    | exact ⟨rfl, rfl⟩
theorem ok_laws_markMemory : FunOk Try.prog c_laws_markMemory := funOk (E := [c_laws_markWordS, c_laws_markBoolS]) (envOk_cons ok_laws_markWordS (envOk_cons ok_laws_markBoolS (envOk_nil))) mixd Try.func145 (pf := pf_laws_markMemory) (by kernel_rfl) fun ts K h => by
  obtain ⟨t0, t1, e0, h⟩ := as2_out h
  subst e0
  obtain ⟨m, e1, hq⟩ := arG_out rd_memO h
  clear h
  subst e1
  have h := hq
  clear hq
  obtain ⟨k, e1, hq⟩ := arC_out (rd_int .i64) h
  clear h
  subst e1
  have h := hq
  clear hq
  obtain ⟨hpre, h⟩ := chk_o h
  exact ⟨_, _, h, Nat.le_of_ble_eq_true (show Nat.ble 2 Try.f145.ntmps = true by kernel_rfl), _, run_laws_markMemory m k hpre⟩

def pf_laws_heldMemory : PF := ⟨[.t 4], .seq (.reg [.s (.box 2 (.t 0)), .s (.mv 4 (.k (.v (.c (.int .i64 0)))))]) (.seq (.reg [.s (.fa 5 (.t 2) 0), .s (.load 6 false 1 (.t 5)), .s (.mv 7 (.t 1)), .s (.call (some 8) 196 [(.t 6), (.t 7)]), .s (.mv 1 (.t 8))]) (.seq (.seq (.reg [.s (.mv 9 (.t 1)), .s (.bin 10 .lss (.t 9) (.k (.v (.c (.int .i64 0)))))]) (.cond (.t 10) (.seq (.reg [.s (.mv 4 (.k (.v (.c (.int .i64 (-1))))))]) (.ret)) (.skip))) (.seq (.reg [.s (.fa 11 (.t 2) 1), .s (.load 12 false 1 (.t 11)), .s (.mv 13 (.t 1)), .s (.call (some 14) 197 [(.t 12), (.t 13)]), .s (.mv 1 (.t 14))]) (.seq (.seq (.reg [.s (.mv 15 (.t 1)), .s (.bin 16 .lss (.t 15) (.k (.v (.c (.int .i64 0)))))]) (.cond (.t 16) (.seq (.reg [.s (.mv 4 (.k (.v (.c (.int .i64 (-1))))))]) (.ret)) (.skip))) (.seq (.reg [.s (.mv 17 (.t 1)), .s (.mv 4 (.t 17))]) (.ret))))))⟩
def c_laws_heldMemory : Fun := ⟨147, [], fun ts K => as2 ts fun t0 t1 => arG pMemT t0 fun m => arC (pI .i64) t1 fun k => chk (0 ≤ k ∧ k ≤ 562949953421312 ∧ SzMemory m) (K (tN (hres (m = markMemory m k) (endMemory m k))) [])⟩
theorem run_laws_heldMemory (m : Mem) (k : Int) (hpre : 0 ≤ k ∧ k ≤ 562949953421312 ∧ SzMemory m) : runK [c_laws_heldWordS, c_laws_heldBoolS] (0) [] pf_laws_heldMemory [tG (m.tc false []), tI .i64 k] fun r o => r = tN (hres (m = markMemory m k) (endMemory m k)) ∧ o = [] := by
  have hsz := hpre.2.2
  conv => whnf
  refine chk_i (by (try dsimp only); simp only [SzMemory, endMemory, markMemory] at *; omega) ?_
  conv => whnf
  refine sel_i (fun h => ?_) (fun h => ?_)
  · have hn := hres_t (by (try dsimp only); simp only [SzMemory, endMemory, markMemory] at *; omega) h
    conv => whnf
    refine ⟨?_, rfl⟩
    rw [hres_no (fun e => hn (congrArg Mem.words e))]
  obtain ⟨p0, e0⟩ := hres_f h
  conv => whnf
  simp only [e0]
  refine chk_i (by (try dsimp only); simp only [SzMemory, endMemory, markMemory] at *; omega) ?_
  conv => whnf
  refine sel_i (fun h => ?_) (fun h => ?_)
  · have hn := hres_t (by (try dsimp only); simp only [SzMemory, endMemory, markMemory] at *; omega) h
    conv => whnf
    refine ⟨?_, rfl⟩
    rw [hres_no (fun e => hn (congrArg Mem.gone e))]
  obtain ⟨p1, e1⟩ := hres_f h
  conv => whnf
  refine ⟨?_, rfl⟩
  rw [hres_yes (show m = markMemory m k from ?_)]
  · exact congrArg (fun x => tN x) e1
  · obtain ⟨m0, m1⟩ := m
    simp only [markMemory, Mem.mk.injEq, eq_self, and_true, true_and]
    exact ⟨p0, p1⟩
theorem ok_laws_heldMemory : FunOk Try.prog c_laws_heldMemory := funOk (E := [c_laws_heldWordS, c_laws_heldBoolS]) (envOk_cons ok_laws_heldWordS (envOk_cons ok_laws_heldBoolS (envOk_nil))) mixd Try.func147 (pf := pf_laws_heldMemory) (by kernel_rfl) fun ts K h => by
  obtain ⟨t0, t1, e0, h⟩ := as2_out h
  subst e0
  obtain ⟨m, e1, hq⟩ := arG_out rd_mem h
  clear h
  subst e1
  have h := hq
  clear hq
  obtain ⟨k, e1, hq⟩ := arC_out (rd_int .i64) h
  clear h
  subst e1
  have h := hq
  clear hq
  obtain ⟨hpre, h⟩ := chk_o h
  exact ⟨_, _, h, Nat.le_of_ble_eq_true (show Nat.ble 2 Try.f147.ntmps = true by kernel_rfl), _, run_laws_heldMemory m k hpre⟩

def pf_laws_eqHeap : PF := ⟨[.t 4], .seq (.reg [.s (.box 2 (.t 0)), .s (.box 3 (.t 1)), .s (.mv 4 (.k (.v (.c .ff))))]) (.seq (.seq (.reg [.s (.fa 5 (.t 2) 0), .s (.load 6 true 2 (.t 5)), .s (.fa 7 (.t 3) 0), .s (.load 8 true 2 (.t 7)), .s (.call (some 9) 136 [(.t 6), (.t 8)]), .s (.bnot 10 (.t 9))]) (.cond (.t 10) (.seq (.reg [.s (.mv 4 (.k (.v (.c .ff))))]) (.ret)) (.skip))) (.seq (.seq (.reg [.s (.fa 11 (.t 2) 2), .s (.load 12 false 1 (.t 11)), .s (.fa 13 (.t 3) 2), .s (.load 14 false 1 (.t 13)), .s (.call (some 15) 137 [(.t 12), (.t 14)]), .s (.bnot 16 (.t 15))]) (.cond (.t 16) (.seq (.reg [.s (.mv 4 (.k (.v (.c .ff))))]) (.ret)) (.skip))) (.seq (.seq (.reg [.s (.fa 17 (.t 2) 3), .s (.load 18 false 1 (.t 17)), .s (.fa 19 (.t 3) 3), .s (.load 20 false 1 (.t 19)), .s (.call (some 21) 137 [(.t 18), (.t 20)]), .s (.bnot 22 (.t 21))]) (.cond (.t 22) (.seq (.reg [.s (.mv 4 (.k (.v (.c .ff))))]) (.ret)) (.skip))) (.seq (.reg [.s (.mv 4 (.k (.v (.c .tt))))]) (.ret)))))⟩
def c_laws_eqHeap : Fun := ⟨65, [], fun ts K => as2 ts fun t0 t1 => arG pHeapT t0 fun a => arG pHeapT t1 fun b => chk (a.mem.words.length ≤ 2147483647 ∧ a.mem.gone.length ≤ 2147483647 ∧ a.live.length ≤ 2147483647 ∧ a.waits.length ≤ 2147483647) (K (tB (decide (a = b))) [])⟩
theorem run_laws_eqHeap (a : Heap) (b : Heap) (hpre : a.mem.words.length ≤ 2147483647 ∧ a.mem.gone.length ≤ 2147483647 ∧ a.live.length ≤ 2147483647 ∧ a.waits.length ≤ 2147483647) : runK [c_laws_eqMemory, c_laws_eqSpanS] (0) [] pf_laws_eqHeap [tG (a.tc false []), tG (b.tc false [])] fun r o => r = tB (decide (a = b)) ∧ o = [] := by
  obtain ⟨⟨a1, a4⟩, a2, a3⟩ := a
  obtain ⟨⟨b1, b4⟩, b2, b3⟩ := b
  dsimp only at hpre
  conv => whnf
  refine chk_i ⟨hpre.1, hpre.2.1⟩ ?_
  conv => whnf
  refine sel_i (fun h => ?_) (fun h => ?_) <;> conv => whnf
  · refine ⟨?_, rfl⟩
    simp at h; simp; intro e1 e2; simp [e1, e2] at h
  refine chk_i hpre.2.2.1 ?_
  conv => whnf
  refine sel_i (fun h2 => ?_) (fun h2 => ?_) <;> conv => whnf
  · refine ⟨?_, rfl⟩; simp at h h2; simp [h, h2]
  refine chk_i hpre.2.2.2 ?_
  conv => whnf
  refine sel_i (fun h3 => ?_) (fun h3 => ?_) <;> conv => whnf
  all_goals (refine ⟨?_, rfl⟩; simp at h h2 h3; simp [h, h2, h3])
theorem ok_laws_eqHeap : FunOk Try.prog c_laws_eqHeap := funOk (E := [c_laws_eqMemory, c_laws_eqSpanS]) (envOk_cons ok_laws_eqMemory (envOk_cons ok_laws_eqSpanS (envOk_nil))) mixd Try.func65 (pf := pf_laws_eqHeap) (by kernel_rfl) fun ts K h => by
  obtain ⟨t0, t1, e0, h⟩ := as2_out h
  subst e0
  obtain ⟨a, e1, hq⟩ := arG_out rd_heap h
  clear h
  subst e1
  have h := hq
  clear hq
  obtain ⟨b, e1, hq⟩ := arG_out rd_heap h
  clear h
  subst e1
  have h := hq
  clear hq
  obtain ⟨hpre, h⟩ := chk_o h
  exact ⟨_, _, h, Nat.le_of_ble_eq_true (show Nat.ble 2 Try.f65.ntmps = true by kernel_rfl), _, run_laws_eqHeap a b hpre⟩

def endHeap (m : Heap) (k : Int) : Int := endMemory m.mem (k) + 2 * m.live.length + 2 * m.waits.length
def markHeap (m : Heap) (k : Int) : Heap := { m with mem := markMemory m.mem (k), live := mkSpanS m.live.length (endMemory m.mem (k)), waits := mkSpanS m.waits.length (endMemory m.mem (k) + 2 * m.live.length) }
def SzHeap (m : Heap) : Prop := SzMemory m.mem ∧ m.live.length ≤ 2147483647 ∧ m.waits.length ≤ 2147483647
theorem sz_markHeap (m : Heap) (k : Int) (h : SzHeap m) : SzHeap (markHeap m k) := by
  simp only [SzHeap, endHeap, markHeap, SzMemory, endMemory, markMemory, mkSpanS_length, mkWordS_length, mkBoolS_length] at h ⊢; omega
theorem endHeap_le (m : Heap) (k : Int) (h : SzHeap m) : k ≤ endHeap m k ∧ endHeap m k ≤ k + 1099511627776 := by
  simp only [SzHeap, endHeap, markHeap, SzMemory, endMemory, markMemory] at h ⊢; omega
theorem mark_markHeap (m : Heap) (k : Int) : markHeap (markHeap m k) k = markHeap m k := by
  simp [SzHeap, endHeap, markHeap, SzMemory, endMemory, markMemory, mkSpanS_length, mkWordS_length, mkBoolS_length]
theorem end_markHeap (m : Heap) (k : Int) : endHeap (markHeap m k) k = endHeap m k := by
  simp [SzHeap, endHeap, markHeap, SzMemory, endMemory, markMemory, mkSpanS_length, mkWordS_length, mkBoolS_length]
theorem etaHeap (m : Heap) : (⟨m.mem, m.live, m.waits⟩ : Heap) = m := rfl

def pf_laws_markHeap : PF := ⟨[.t 4], .seq (.reg [.s (.box 2 (.t 0)), .s (.mv 4 (.k (.v (.c (.int .i64 0)))))]) (.seq (.reg [.s (.fa 5 (.t 2) 0), .s (.load 6 true 2 (.t 5)), .s (.mv 7 (.t 1)), .s (.call (some 8) 145 [(.t 6), (.t 7)]), .s (.mv 1 (.t 8))]) (.seq (.reg [.s (.fa 9 (.t 2) 2), .s (.load 10 false 1 (.t 9)), .s (.mv 11 (.t 1)), .s (.call (some 12) 146 [(.t 10), (.t 11)]), .s (.mv 1 (.t 12))]) (.seq (.reg [.s (.fa 13 (.t 2) 3), .s (.load 14 false 1 (.t 13)), .s (.mv 15 (.t 1)), .s (.call (some 16) 146 [(.t 14), (.t 15)]), .s (.mv 1 (.t 16))]) (.seq (.reg [.s (.mv 17 (.t 1)), .s (.mv 4 (.t 17))]) (.ret)))))⟩
def c_laws_markHeap : Fun := ⟨68, [true, false], fun ts K => as2 ts fun t0 t1 => arG pHeapO t0 fun m => arC (pI .i64) t1 fun k => chk (0 ≤ k ∧ k ≤ 281474976710656 ∧ SzHeap m) (K (tN (endHeap m k)) ([tG ((markHeap m k).tc true [])]))⟩
theorem run_laws_markHeap (m : Heap) (k : Int) (hpre : 0 ≤ k ∧ k ≤ 281474976710656 ∧ SzHeap m) : runK [c_laws_markMemory, c_laws_markSpanS] (0) [true, false] pf_laws_markHeap [tG (m.tc true []), tI .i64 k] fun r o => r = tN (endHeap m k) ∧ o = [tG ((markHeap m k).tc true [])] := by
  conv => whnf
  repeat' (refine chk_c ?_ ?_ <;> conv => whnf)
  all_goals first
    | (refine ⟨?_⟩; (try dsimp only); simp only [SzHeap, endHeap, markHeap, SzMemory, endMemory, markMemory] at *; omega)
    | (refine ⟨?_⟩; (try dsimp only); simp only [SzHeap, endHeap, markHeap, SzMemory, endMemory, markMemory, mkSpanS_length, mkWordS_length, mkBoolS_length] at *; omega)
    | (refine ⟨?_⟩; (try dsimp only); simp [SzHeap, endHeap, markHeap, SzMemory, endMemory, markMemory, mkSpanS_length, mkWordS_length, mkBoolS_length]; done)
    | exact ⟨rfl, rfl⟩
theorem ok_laws_markHeap : FunOk Try.prog c_laws_markHeap := funOk (E := [c_laws_markMemory, c_laws_markSpanS]) (envOk_cons ok_laws_markMemory (envOk_cons ok_laws_markSpanS (envOk_nil))) mixd Try.func68 (pf := pf_laws_markHeap) (by kernel_rfl) fun ts K h => by
  obtain ⟨t0, t1, e0, h⟩ := as2_out h
  subst e0
  obtain ⟨m, e1, hq⟩ := arG_out rd_heapO h
  clear h
  subst e1
  have h := hq
  clear hq
  obtain ⟨k, e1, hq⟩ := arC_out (rd_int .i64) h
  clear h
  subst e1
  have h := hq
  clear hq
  obtain ⟨hpre, h⟩ := chk_o h
  exact ⟨_, _, h, Nat.le_of_ble_eq_true (show Nat.ble 2 Try.f68.ntmps = true by kernel_rfl), _, run_laws_markHeap m k hpre⟩

def pf_laws_heldHeap : PF := ⟨[.t 4], .seq (.reg [.s (.box 2 (.t 0)), .s (.mv 4 (.k (.v (.c (.int .i64 0)))))]) (.seq (.reg [.s (.fa 5 (.t 2) 0), .s (.load 6 true 2 (.t 5)), .s (.mv 7 (.t 1)), .s (.call (some 8) 147 [(.t 6), (.t 7)]), .s (.mv 1 (.t 8))]) (.seq (.seq (.reg [.s (.mv 9 (.t 1)), .s (.bin 10 .lss (.t 9) (.k (.v (.c (.int .i64 0)))))]) (.cond (.t 10) (.seq (.reg [.s (.mv 4 (.k (.v (.c (.int .i64 (-1))))))]) (.ret)) (.skip))) (.seq (.reg [.s (.fa 11 (.t 2) 2), .s (.load 12 false 1 (.t 11)), .s (.mv 13 (.t 1)), .s (.call (some 14) 148 [(.t 12), (.t 13)]), .s (.mv 1 (.t 14))]) (.seq (.seq (.reg [.s (.mv 15 (.t 1)), .s (.bin 16 .lss (.t 15) (.k (.v (.c (.int .i64 0)))))]) (.cond (.t 16) (.seq (.reg [.s (.mv 4 (.k (.v (.c (.int .i64 (-1))))))]) (.ret)) (.skip))) (.seq (.reg [.s (.fa 17 (.t 2) 3), .s (.load 18 false 1 (.t 17)), .s (.mv 19 (.t 1)), .s (.call (some 20) 148 [(.t 18), (.t 19)]), .s (.mv 1 (.t 20))]) (.seq (.seq (.reg [.s (.mv 21 (.t 1)), .s (.bin 22 .lss (.t 21) (.k (.v (.c (.int .i64 0)))))]) (.cond (.t 22) (.seq (.reg [.s (.mv 4 (.k (.v (.c (.int .i64 (-1))))))]) (.ret)) (.skip))) (.seq (.reg [.s (.mv 23 (.t 1)), .s (.mv 4 (.t 23))]) (.ret))))))))⟩
def c_laws_heldHeap : Fun := ⟨69, [], fun ts K => as2 ts fun t0 t1 => arG pHeapT t0 fun m => arC (pI .i64) t1 fun k => chk (0 ≤ k ∧ k ≤ 281474976710656 ∧ SzHeap m) (K (tN (hres (m = markHeap m k) (endHeap m k))) [])⟩
theorem run_laws_heldHeap (m : Heap) (k : Int) (hpre : 0 ≤ k ∧ k ≤ 281474976710656 ∧ SzHeap m) : runK [c_laws_heldMemory, c_laws_heldSpanS] (0) [] pf_laws_heldHeap [tG (m.tc false []), tI .i64 k] fun r o => r = tN (hres (m = markHeap m k) (endHeap m k)) ∧ o = [] := by
  have hsz := hpre.2.2
  conv => whnf
  refine chk_i (by (try dsimp only); simp only [SzHeap, endHeap, markHeap, SzMemory, endMemory, markMemory] at *; omega) ?_
  conv => whnf
  refine sel_i (fun h => ?_) (fun h => ?_)
  · have hn := hres_t (by (try dsimp only); simp only [SzHeap, endHeap, markHeap, SzMemory, endMemory, markMemory] at *; omega) h
    conv => whnf
    refine ⟨?_, rfl⟩
    rw [hres_no (fun e => hn (congrArg Heap.mem e))]
  obtain ⟨p0, e0⟩ := hres_f h
  conv => whnf
  simp only [e0]
  refine chk_i (by (try dsimp only); simp only [SzHeap, endHeap, markHeap, SzMemory, endMemory, markMemory] at *; omega) ?_
  conv => whnf
  refine sel_i (fun h => ?_) (fun h => ?_)
  · have hn := hres_t (by (try dsimp only); simp only [SzHeap, endHeap, markHeap, SzMemory, endMemory, markMemory] at *; omega) h
    conv => whnf
    refine ⟨?_, rfl⟩
    rw [hres_no (fun e => hn (congrArg Heap.live e))]
  obtain ⟨p1, e1⟩ := hres_f h
  conv => whnf
  simp only [e1]
  refine chk_i (by (try dsimp only); simp only [SzHeap, endHeap, markHeap, SzMemory, endMemory, markMemory] at *; omega) ?_
  conv => whnf
  refine sel_i (fun h => ?_) (fun h => ?_)
  · have hn := hres_t (by (try dsimp only); simp only [SzHeap, endHeap, markHeap, SzMemory, endMemory, markMemory] at *; omega) h
    conv => whnf
    refine ⟨?_, rfl⟩
    rw [hres_no (fun e => hn (congrArg Heap.waits e))]
  obtain ⟨p2, e2⟩ := hres_f h
  conv => whnf
  refine ⟨?_, rfl⟩
  rw [hres_yes (show m = markHeap m k from ?_)]
  · exact congrArg (fun x => tN x) e2
  · obtain ⟨m0, m1, m2⟩ := m
    simp only [markHeap, Heap.mk.injEq, eq_self, and_true, true_and]
    exact ⟨p0, p1, p2⟩
theorem ok_laws_heldHeap : FunOk Try.prog c_laws_heldHeap := funOk (E := [c_laws_heldMemory, c_laws_heldSpanS]) (envOk_cons ok_laws_heldMemory (envOk_cons ok_laws_heldSpanS (envOk_nil))) mixd Try.func69 (pf := pf_laws_heldHeap) (by kernel_rfl) fun ts K h => by
  obtain ⟨t0, t1, e0, h⟩ := as2_out h
  subst e0
  obtain ⟨m, e1, hq⟩ := arG_out rd_heap h
  clear h
  subst e1
  have h := hq
  clear hq
  obtain ⟨k, e1, hq⟩ := arC_out (rd_int .i64) h
  clear h
  subst e1
  have h := hq
  clear hq
  obtain ⟨hpre, h⟩ := chk_o h
  exact ⟨_, _, h, Nat.le_of_ble_eq_true (show Nat.ble 2 Try.f69.ntmps = true by kernel_rfl), _, run_laws_heldHeap m k hpre⟩


def szr (k : Int) (n : Nat) : Int := if k - n < 0 then -1 else k - n
theorem szr_t {k : Int} {n : Nat} (h : k - n < 0) : szr k n = -1 := if_pos h
theorem szr_f {k : Int} {n : Nat} (h : ¬ k - n < 0) : szr k n = k - n := if_neg h

def pf_laws_toKey : PF := ⟨[.c 2 true 4], .seq (.reg [.s (.box 1 (.t 0)), .s (.alloc 2 [.int .i64 0, .int .i64 0, .int .i64 0, .int .i64 0])]) (.seq (.reg [.s (.alloc 3 [.int .i64 0, .int .i64 0, .int .i64 0, .int .i64 0])]) (.seq (.reg [.s (.fa 4 (.t 1) 0), .s (.load 5 false 1 (.t 4)), .s (.fa 6 (.t 3) 0), .s (.store 1 (.t 6) (.t 5))]) (.seq (.reg [.s (.fa 7 (.t 1) 1), .s (.load 8 false 1 (.t 7)), .s (.fa 9 (.t 3) 1), .s (.store 1 (.t 9) (.t 8))]) (.seq (.reg [.s (.fa 10 (.t 1) 2), .s (.load 11 false 1 (.t 10)), .s (.fa 12 (.t 3) 2), .s (.store 1 (.t 12) (.t 11))]) (.seq (.reg [.s (.fa 13 (.t 1) 3), .s (.load 14 false 1 (.t 13)), .s (.fa 15 (.t 3) 3), .s (.store 1 (.t 15) (.t 14))]) (.seq (.reg [.s (.load 16 true 4 (.t 3)), .s (.store 4 (.t 2) (.t 16))]) (.ret)))))))⟩
def c_laws_toKey : Fun := ⟨245, [], fun ts K => as1 ts fun t0 => arG pKeyT t0 fun a => K (tG (a.tc [])) []⟩
theorem run_laws_toKey (a : Key) : runK [] (0) [] pf_laws_toKey [tG (a.tc [])] fun r o => r = tG (a.tc []) ∧ o = [] := by
  conv => whnf
  repeat' (first
    | exact rfl
    | exact trivial
    | (refine sel_i (fun h => ?_) (fun h => ?_) <;> conv => whnf)
    | (refine chk_c ?_ ?_ <;> conv => whnf)
    | (refine And.intro ?_ ?_ <;> conv => whnf))
theorem ok_laws_toKey : FunOk Try.prog c_laws_toKey := funOk (E := []) (envOk_nil) mixd Try.func245 (pf := pf_laws_toKey) (by kernel_rfl) fun ts K h => by
  obtain ⟨t0, e0, h⟩ := as1_out h
  subst e0
  obtain ⟨a, e1, hq⟩ := arG_out rd_key h
  clear h
  subst e1
  have h := hq
  clear hq
  exact ⟨_, _, h, Nat.le_of_ble_eq_true (show Nat.ble 1 Try.f245.ntmps = true by kernel_rfl), _, run_laws_toKey a⟩

def pf_laws_toWord : PF := ⟨[.c 2 true 6], .seq (.reg [.s (.box 1 (.t 0)), .s (.alloc 2 [.int .i64 0, .ff, .int .i64 0, .int .i64 0, .int .i64 0, .int .i64 0])]) (.seq (.reg [.s (.alloc 3 [.int .i64 0, .ff, .int .i64 0, .int .i64 0, .int .i64 0, .int .i64 0])]) (.seq (.reg [.s (.fa 4 (.t 1) 0), .s (.load 5 false 1 (.t 4)), .s (.fa 6 (.t 3) 0), .s (.store 1 (.t 6) (.t 5))]) (.seq (.reg [.s (.fa 7 (.t 1) 1), .s (.load 8 false 1 (.t 7)), .s (.fa 9 (.t 3) 1), .s (.store 1 (.t 9) (.t 8))]) (.seq (.reg [.s (.fa 10 (.t 1) 2), .s (.load 11 true 4 (.t 10)), .s (.call (some 12) 245 [(.t 11)]), .s (.fa 13 (.t 3) 2), .s (.store 4 (.t 13) (.t 12))]) (.seq (.reg [.s (.load 14 true 6 (.t 3)), .s (.store 6 (.t 2) (.t 14))]) (.ret))))))⟩
def c_laws_toWord : Fun := ⟨220, [], fun ts K => as1 ts fun t0 => arG pWordT t0 fun a => K (tG (a.tc [])) []⟩
theorem run_laws_toWord (a : Word) : runK [c_laws_toKey] (0) [] pf_laws_toWord [tG (a.tc [])] fun r o => r = tG (a.tc []) ∧ o = [] := by
  conv => whnf
  repeat' (first
    | exact rfl
    | exact trivial
    | (refine sel_i (fun h => ?_) (fun h => ?_) <;> conv => whnf)
    | (refine chk_c ?_ ?_ <;> conv => whnf)
    | (refine And.intro ?_ ?_ <;> conv => whnf))
theorem ok_laws_toWord : FunOk Try.prog c_laws_toWord := funOk (E := [c_laws_toKey]) (envOk_cons ok_laws_toKey (envOk_nil)) mixd Try.func220 (pf := pf_laws_toWord) (by kernel_rfl) fun ts K h => by
  obtain ⟨t0, e0, h⟩ := as1_out h
  subst e0
  obtain ⟨a, e1, hq⟩ := arG_out rd_word h
  clear h
  subst e1
  have h := hq
  clear hq
  exact ⟨_, _, h, Nat.le_of_ble_eq_true (show Nat.ble 1 Try.f220.ntmps = true by kernel_rfl), _, run_laws_toWord a⟩

def pf_laws_szWordS : PF := ⟨[.t 4], .seq (.reg [.s (.mv 4 (.k (.v (.c (.int .i64 0)))))]) (.seq (.reg [.s (.mv 5 (.t 1)), .s (.mv 6 (.t 0)), .s (.len 7 false (.t 6)), .s (.bin 8 .sub (.t 5) (.t 7)), .s (.mv 1 (.t 8))]) (.seq (.seq (.reg [.s (.mv 9 (.t 1)), .s (.bin 10 .lss (.t 9) (.k (.v (.c (.int .i64 0)))))]) (.cond (.t 10) (.seq (.reg [.s (.mv 4 (.k (.v (.c (.int .i64 (-1))))))]) (.ret)) (.skip))) (.seq (.reg [.s (.mv 11 (.t 1)), .s (.mv 4 (.t 11))]) (.ret))))⟩
def c_laws_szWordS : Fun := ⟨178, [], fun ts K => as2 ts fun t0 t1 => arC (pL .word) t0 fun a => arC (pI .i64) t1 fun k => chk (a.length ≤ 9223372036854775807 ∧ 0 ≤ k ∧ k ≤ 1048576) (K (tN (szr k a.length)) [])⟩
theorem run_laws_szWordS (a : List (FT.Ty .word)) (k : Int) (hpre : a.length ≤ 9223372036854775807 ∧ 0 ≤ k ∧ k ≤ 1048576) : runK [] (0) [] pf_laws_szWordS [tL false .word a, tI .i64 k] fun r o => r = tN (szr k a.length) ∧ o = [] := by
  conv => whnf
  rw [wrap_id (by omega) (by omega)]
  refine sel_i (fun h => ?_) (fun h => ?_) <;> conv => whnf
  · refine ⟨?_, rfl⟩; rw [szr_t (by simpa using h)]
  · refine ⟨?_, rfl⟩; rw [szr_f (by simpa using h)]
theorem ok_laws_szWordS : FunOk Try.prog c_laws_szWordS := funOk (E := []) (envOk_nil) mixd Try.func178 (pf := pf_laws_szWordS) (by kernel_rfl) fun ts K h => by
  obtain ⟨t0, t1, e0, h⟩ := as2_out h
  subst e0
  obtain ⟨a, e1, hq⟩ := arC_out (rd_l .word) h
  clear h
  subst e1
  have h := hq
  clear hq
  obtain ⟨k, e1, hq⟩ := arC_out (rd_int .i64) h
  clear h
  subst e1
  have h := hq
  clear hq
  obtain ⟨hpre, h⟩ := chk_o h
  exact ⟨_, _, h, Nat.le_of_ble_eq_true (show Nat.ble 2 Try.f178.ntmps = true by kernel_rfl), _, run_laws_szWordS a k hpre⟩

def lb_laws_toWordS_0 : PC := .seq (.seq (.reg [.s (.mv 8 (.t 4)), .s (.mv 9 (.t 0)), .s (.len 10 false (.t 9)), .s (.bin 11 .lss (.t 8) (.t 10))]) (.cond (.t 11) (.skip) (.exit 0))) (.seq (.blk 1 (.reg [.s (.mv 14 (.t 3)), .s (.mv 15 (.t 4)), .s (.mv 16 (.t 0)), .s (.mv 17 (.t 4)), .s (.ia 18 .word (.t 16) (.t 17)), .s (.load 19 true 6 (.t 18)), .s (.call (some 20) 220 [(.t 19)]), .s (.ia 21 .word (.t 14) (.t 15)), .s (.store 6 (.t 21) (.t 20))])) (.reg [.s (.mv 12 (.t 4)), .s (.bin 13 .add (.t 12) (.k (.v (.c (.int .i64 1))))), .s (.mv 4 (.t 13))]))
def pf_laws_toWordS : PF := ⟨[.t 2], .seq (.reg [.s (.mv 2 (.k (.v (.c (.nils .word)))))]) (.seq (.reg [.s (.mv 5 (.t 0)), .s (.len 6 false (.t 5)), .s (.mkS 7 .word (.t 6)), .s (.mv 3 (.t 7))]) (.seq (.seq (.reg [.s (.mv 4 (.k (.v (.c (.int .i64 0)))))]) (.blk 0 (.loop [0, 3, 4] lb_laws_toWordS_0))) (.seq (.reg [.s (.mv 22 (.t 3)), .s (.mv 2 (.t 22))]) (.ret))))⟩
def c_laws_toWordS : Fun := ⟨183, [], fun ts K => as1 ts fun t0 => arC (pL .word) t0 fun a => chk (a.length ≤ 2147483647) (K (tL true .word a) [])⟩
theorem run_laws_toWordS (a : List (FT.Ty .word)) (hpre : a.length ≤ 2147483647) : runK [c_laws_toWord] (a.length + 1) [] pf_laws_toWordS [tL false .word a] fun r o => r = tL true .word a ∧ o = [] := by
  conv => whnf
  refine chk_i ⟨by omega, by omega⟩ ?_
  conv => whnf
  refine loop (α := Nat × List (FT.Ty .word)) (fun p => ⟨[(0, .v (.c (.sl false .word 0))), (3, .v (.c (.sl true .word 1))), (4, .v (.c (.int .i64 (p.1 : Int))))], [(1, some (.flat true .word none p.2)), (0, some (.flat false .word none a))], nums.tail.tail, [], false, []⟩)
      (fun p => p.1 ≤ a.length ∧ p.2 = a.take p.1 ++ (List.replicate a.length (FT.zero .word)).drop p.1) (fun p => a.length - p.1) (fun p R hI hR => ?_) (0, List.replicate a.length (FT.zero .word)) _ ⟨by simp, by simp⟩ (by simp)
  obtain ⟨i, xs⟩ := p
  obtain ⟨hi, hx⟩ := hI
  dsimp only at hi hx
  have hlen : xs.length = a.length := by rw [hx]; simp; omega
  dsimp only
  conv => whnf
  refine sel_i (fun h2 => ?_) (fun h2 => ?_)
  · have hlt : i < a.length := by simp at h2; omega
    have hge : a[i]? = some (a.getD i (FT.zero .word)) := by simp [List.getD_eq_getElem?_getD, hlt]
    conv => whnf
    repeat' (refine chk_c ?_ ?_ <;> conv => whnf)
    all_goals first
      | (refine ⟨?_⟩; omega)
      | (refine ⟨?_⟩; simp; done)
      | (refine ⟨?_⟩; simp; omega)
      | skip
    simp (disch := omega) only [wrap_id, Int.toNat_natCast]
    exact hR (i + 1, xs.set i (a.getD i (FT.zero .word))) ⟨by omega, by rw [hx]; exact set_mid (by simp) (by simpa using hlt) hge⟩ (by simp; omega)
  · have hge : i = a.length := by simp at h2; omega
    subst hge
    conv => whnf
    refine ⟨?_, rfl⟩
    rw [hx, List.take_of_length_le (by omega), List.drop_eq_nil_of_le (by simp), List.append_nil]
theorem ok_laws_toWordS : FunOk Try.prog c_laws_toWordS := funOk (E := [c_laws_toWord]) (envOk_cons ok_laws_toWord (envOk_nil)) mixd Try.func183 (pf := pf_laws_toWordS) (by kernel_rfl) fun ts K h => by
  obtain ⟨t0, e0, h⟩ := as1_out h
  subst e0
  obtain ⟨a, e1, hq⟩ := arC_out (rd_l .word) h
  clear h
  subst e1
  have h := hq
  clear hq
  obtain ⟨hpre, h⟩ := chk_o h
  exact ⟨_, _, h, Nat.le_of_ble_eq_true (show Nat.ble 1 Try.f183.ntmps = true by kernel_rfl), _, run_laws_toWordS a hpre⟩

def pf_laws_szBoolS : PF := ⟨[.t 4], .seq (.reg [.s (.mv 4 (.k (.v (.c (.int .i64 0)))))]) (.seq (.reg [.s (.mv 5 (.t 1)), .s (.mv 6 (.t 0)), .s (.len 7 false (.t 6)), .s (.bin 8 .sub (.t 5) (.t 7)), .s (.mv 1 (.t 8))]) (.seq (.seq (.reg [.s (.mv 9 (.t 1)), .s (.bin 10 .lss (.t 9) (.k (.v (.c (.int .i64 0)))))]) (.cond (.t 10) (.seq (.reg [.s (.mv 4 (.k (.v (.c (.int .i64 (-1))))))]) (.ret)) (.skip))) (.seq (.reg [.s (.mv 11 (.t 1)), .s (.mv 4 (.t 11))]) (.ret))))⟩
def c_laws_szBoolS : Fun := ⟨179, [], fun ts K => as2 ts fun t0 t1 => arC (pL .bool) t0 fun a => arC (pI .i64) t1 fun k => chk (a.length ≤ 9223372036854775807 ∧ 0 ≤ k ∧ k ≤ 1048576) (K (tN (szr k a.length)) [])⟩
theorem run_laws_szBoolS (a : List (FT.Ty .bool)) (k : Int) (hpre : a.length ≤ 9223372036854775807 ∧ 0 ≤ k ∧ k ≤ 1048576) : runK [] (0) [] pf_laws_szBoolS [tL false .bool a, tI .i64 k] fun r o => r = tN (szr k a.length) ∧ o = [] := by
  conv => whnf
  rw [wrap_id (by omega) (by omega)]
  refine sel_i (fun h => ?_) (fun h => ?_) <;> conv => whnf
  · refine ⟨?_, rfl⟩; rw [szr_t (by simpa using h)]
  · refine ⟨?_, rfl⟩; rw [szr_f (by simpa using h)]
theorem ok_laws_szBoolS : FunOk Try.prog c_laws_szBoolS := funOk (E := []) (envOk_nil) mixd Try.func179 (pf := pf_laws_szBoolS) (by kernel_rfl) fun ts K h => by
  obtain ⟨t0, t1, e0, h⟩ := as2_out h
  subst e0
  obtain ⟨a, e1, hq⟩ := arC_out (rd_l .bool) h
  clear h
  subst e1
  have h := hq
  clear hq
  obtain ⟨k, e1, hq⟩ := arC_out (rd_int .i64) h
  clear h
  subst e1
  have h := hq
  clear hq
  obtain ⟨hpre, h⟩ := chk_o h
  exact ⟨_, _, h, Nat.le_of_ble_eq_true (show Nat.ble 2 Try.f179.ntmps = true by kernel_rfl), _, run_laws_szBoolS a k hpre⟩

def lb_laws_toBoolS_0 : PC := .seq (.seq (.reg [.s (.mv 8 (.t 4)), .s (.mv 9 (.t 0)), .s (.len 10 false (.t 9)), .s (.bin 11 .lss (.t 8) (.t 10))]) (.cond (.t 11) (.skip) (.exit 0))) (.seq (.blk 1 (.reg [.s (.mv 14 (.t 3)), .s (.mv 15 (.t 4)), .s (.mv 16 (.t 0)), .s (.mv 17 (.t 4)), .s (.ia 18 .bool (.t 16) (.t 17)), .s (.load 19 false 1 (.t 18)), .s (.ia 20 .bool (.t 14) (.t 15)), .s (.store 1 (.t 20) (.t 19))])) (.reg [.s (.mv 12 (.t 4)), .s (.bin 13 .add (.t 12) (.k (.v (.c (.int .i64 1))))), .s (.mv 4 (.t 13))]))
def pf_laws_toBoolS : PF := ⟨[.t 2], .seq (.reg [.s (.mv 2 (.k (.v (.c (.nils .bool)))))]) (.seq (.reg [.s (.mv 5 (.t 0)), .s (.len 6 false (.t 5)), .s (.mkS 7 .bool (.t 6)), .s (.mv 3 (.t 7))]) (.seq (.seq (.reg [.s (.mv 4 (.k (.v (.c (.int .i64 0)))))]) (.blk 0 (.loop [0, 3, 4] lb_laws_toBoolS_0))) (.seq (.reg [.s (.mv 21 (.t 3)), .s (.mv 2 (.t 21))]) (.ret))))⟩
def c_laws_toBoolS : Fun := ⟨184, [], fun ts K => as1 ts fun t0 => arC (pL .bool) t0 fun a => chk (a.length ≤ 2147483647) (K (tL true .bool a) [])⟩
theorem run_laws_toBoolS (a : List (FT.Ty .bool)) (hpre : a.length ≤ 2147483647) : runK [] (a.length + 1) [] pf_laws_toBoolS [tL false .bool a] fun r o => r = tL true .bool a ∧ o = [] := by
  conv => whnf
  refine chk_i ⟨by omega, by omega⟩ ?_
  conv => whnf
  refine loop (α := Nat × List (FT.Ty .bool)) (fun p => ⟨[(0, .v (.c (.sl false .bool 0))), (3, .v (.c (.sl true .bool 1))), (4, .v (.c (.int .i64 (p.1 : Int))))], [(1, some (.flat true .bool none p.2)), (0, some (.flat false .bool none a))], nums.tail.tail, [], false, []⟩)
      (fun p => p.1 ≤ a.length ∧ p.2 = a.take p.1 ++ (List.replicate a.length (FT.zero .bool)).drop p.1) (fun p => a.length - p.1) (fun p R hI hR => ?_) (0, List.replicate a.length (FT.zero .bool)) _ ⟨by simp, by simp⟩ (by simp)
  obtain ⟨i, xs⟩ := p
  obtain ⟨hi, hx⟩ := hI
  dsimp only at hi hx
  have hlen : xs.length = a.length := by rw [hx]; simp; omega
  dsimp only
  conv => whnf
  refine sel_i (fun h2 => ?_) (fun h2 => ?_)
  · have hlt : i < a.length := by simp at h2; omega
    have hge : a[i]? = some (a.getD i (FT.zero .bool)) := by simp [List.getD_eq_getElem?_getD, hlt]
    conv => whnf
    repeat' (refine chk_c ?_ ?_ <;> conv => whnf)
    all_goals first
      | (refine ⟨?_⟩; omega)
      | (refine ⟨?_⟩; simp; done)
      | (refine ⟨?_⟩; simp; omega)
      | skip
    simp (disch := omega) only [wrap_id, Int.toNat_natCast]
    exact hR (i + 1, xs.set i (a.getD i (FT.zero .bool))) ⟨by omega, by rw [hx]; exact set_mid (by simp) (by simpa using hlt) hge⟩ (by simp; omega)
  · have hge : i = a.length := by simp at h2; omega
    subst hge
    conv => whnf
    refine ⟨?_, rfl⟩
    rw [hx, List.take_of_length_le (by omega), List.drop_eq_nil_of_le (by simp), List.append_nil]
theorem ok_laws_toBoolS : FunOk Try.prog c_laws_toBoolS := funOk (E := []) (envOk_nil) mixd Try.func184 (pf := pf_laws_toBoolS) (by kernel_rfl) fun ts K h => by
  obtain ⟨t0, e0, h⟩ := as1_out h
  subst e0
  obtain ⟨a, e1, hq⟩ := arC_out (rd_l .bool) h
  clear h
  subst e1
  have h := hq
  clear hq
  obtain ⟨hpre, h⟩ := chk_o h
  exact ⟨_, _, h, Nat.le_of_ble_eq_true (show Nat.ble 1 Try.f184.ntmps = true by kernel_rfl), _, run_laws_toBoolS a hpre⟩

def pf_slices_Clone_Word : PF := ⟨[.t 2], .seq (.reg [.s (.mv 2 (.k (.v (.c (.nils .word)))))]) (.seq (.seq (.reg [.s (.mv 3 (.t 0)), .s (.isnil 4 (.t 3))]) (.cond (.t 4) (.seq (.reg [.s (.mv 2 (.k (.v (.c (.nils .word)))))]) (.ret)) (.skip))) (.seq (.reg [.s (.bs 5 .word []), .s (.mv 6 (.t 0)), .s (.app 7 .word (.t 5) (.t 6)), .s (.mv 2 (.t 7))]) (.ret)))⟩
def c_slices_Clone_Word : Fun := ⟨155, [], fun ts K => as1 ts fun t0 => arC (pL .word) t0 fun a => chk (a.length ≤ 2147483647) (K (tL true .word a) [])⟩
theorem ok_slices_Clone_Word : FunOk Try.prog c_slices_Clone_Word := funOkN (E := []) envOk_nil mixd Try.func155 (pf := pf_slices_Clone_Word) (by kernel_rfl) rfl (Nat.le_of_ble_eq_true (show Nat.ble 1 Try.f155.ntmps = true by kernel_rfl)) fun ts K h => by
  obtain ⟨t0, e0, h⟩ := as1_out h
  subst e0
  obtain ⟨a, e1, h⟩ := arC_out (rd_l .word) h
  subst e1
  obtain ⟨hpre, h⟩ := chk_o h
  refine ⟨.word, a, _, rfl, h, 0, fun e => ?_, ?_⟩
  · subst e
    conv => whnf
    exact ⟨rfl, rfl⟩
  · conv => whnf
    repeat' (refine chk_c ?_ ?_ <;> conv => whnf)
    all_goals first
      | (refine ⟨?_⟩; simp; omega)
      | exact ⟨rfl, rfl⟩

def pf_slices_Clone_bool : PF := ⟨[.t 2], .seq (.reg [.s (.mv 2 (.k (.v (.c (.nils .bool)))))]) (.seq (.seq (.reg [.s (.mv 3 (.t 0)), .s (.isnil 4 (.t 3))]) (.cond (.t 4) (.seq (.reg [.s (.mv 2 (.k (.v (.c (.nils .bool)))))]) (.ret)) (.skip))) (.seq (.reg [.s (.bs 5 .bool []), .s (.mv 6 (.t 0)), .s (.app 7 .bool (.t 5) (.t 6)), .s (.mv 2 (.t 7))]) (.ret)))⟩
def c_slices_Clone_bool : Fun := ⟨214, [], fun ts K => as1 ts fun t0 => arC (pL .bool) t0 fun a => chk (a.length ≤ 2147483647) (K (tL true .bool a) [])⟩
theorem ok_slices_Clone_bool : FunOk Try.prog c_slices_Clone_bool := funOkN (E := []) envOk_nil mixd Try.func214 (pf := pf_slices_Clone_bool) (by kernel_rfl) rfl (Nat.le_of_ble_eq_true (show Nat.ble 1 Try.f214.ntmps = true by kernel_rfl)) fun ts K h => by
  obtain ⟨t0, e0, h⟩ := as1_out h
  subst e0
  obtain ⟨a, e1, h⟩ := arC_out (rd_l .bool) h
  subst e1
  obtain ⟨hpre, h⟩ := chk_o h
  refine ⟨.bool, a, _, rfl, h, 0, fun e => ?_, ?_⟩
  · subst e
    conv => whnf
    exact ⟨rfl, rfl⟩
  · conv => whnf
    repeat' (refine chk_c ?_ ?_ <;> conv => whnf)
    all_goals first
      | (refine ⟨?_⟩; simp; omega)
      | exact ⟨rfl, rfl⟩

def szB (x : Int) (f : Int → Int) : Int := if x < 0 then -1 else f x
theorem szr_le {k : Int} {n : Nat} (h : 0 ≤ k) : szr k n ≤ k := by unfold szr; split <;> omega
theorem szr_ge {k : Int} {n : Nat} : -1 ≤ szr k n := by unfold szr; split <;> omega
theorem szr_n {k : Int} {n : Nat} (h : 0 ≤ szr k n) : (n : Int) ≤ k ∧ szr k n = k - n := by unfold szr at *; split at h <;> omega
def szMem (m : Mem) (k : Int) : Int := szB (szr k m.words.length) fun k => szr k m.gone.length
theorem szB_pos {x : Int} {f : Int → Int} (h : 0 ≤ szB x f) : 0 ≤ x ∧ 0 ≤ f x ∧ szB x f = f x := by
  unfold szB at h ⊢; split at h
  · omega
  · rename_i hx; rw [if_neg hx]; exact ⟨by omega, h, rfl⟩
theorem szMem_pos {m : Mem} {k : Int} (h : 0 ≤ szMem m k) : 0 ≤ szr k m.words.length ∧ 0 ≤ szr (szr k m.words.length) m.gone.length ∧ szMem m k = szr (szr k m.words.length) m.gone.length := szB_pos h
theorem szMem_le {m : Mem} {k : Int} (h : 0 ≤ k) : szMem m k ≤ k := by
  by_cases hp : 0 ≤ szMem m k
  · obtain ⟨h1, h2, h3⟩ := szMem_pos hp
    have := szr_le (n := m.words.length) h; have := szr_le (n := m.gone.length) h1; omega
  · omega
def LMem (m : Mem) (n : Nat) : Prop := m.words.length ≤ n ∧ m.gone.length ≤ n
def LTwo (t : Two) (n : Nat) : Prop := LMem t.mem n ∧ t.a.regs.length ≤ n ∧ t.b.regs.length ≤ n
theorem szMem_n {m : Mem} {k : Int} (h0 : k ≤ 1048576) (h : 0 ≤ szMem m k) : LMem m 1048576 ∧ szMem m k ≤ k := by
  obtain ⟨h1, h2, h3⟩ := szMem_pos h
  have h4 := szr_n h1; have h5 := szr_n h2
  exact ⟨⟨by omega, by omega⟩, by omega⟩
def pf_laws_szMemory : PF := ⟨[.t 4], .seq (.reg [.s (.box 2 (.t 0)), .s (.mv 4 (.k (.v (.c (.int .i64 0)))))]) (.seq (.reg [.s (.fa 5 (.t 2) 0), .s (.load 6 false 1 (.t 5)), .s (.mv 7 (.t 1)), .s (.call (some 8) 178 [(.t 6), (.t 7)]), .s (.mv 1 (.t 8))]) (.seq (.seq (.reg [.s (.mv 9 (.t 1)), .s (.bin 10 .lss (.t 9) (.k (.v (.c (.int .i64 0)))))]) (.cond (.t 10) (.seq (.reg [.s (.mv 4 (.k (.v (.c (.int .i64 (-1))))))]) (.ret)) (.skip))) (.seq (.reg [.s (.fa 11 (.t 2) 1), .s (.load 12 false 1 (.t 11)), .s (.mv 13 (.t 1)), .s (.call (some 14) 179 [(.t 12), (.t 13)]), .s (.mv 1 (.t 14))]) (.seq (.seq (.reg [.s (.mv 15 (.t 1)), .s (.bin 16 .lss (.t 15) (.k (.v (.c (.int .i64 0)))))]) (.cond (.t 16) (.seq (.reg [.s (.mv 4 (.k (.v (.c (.int .i64 (-1))))))]) (.ret)) (.skip))) (.seq (.reg [.s (.mv 17 (.t 1)), .s (.mv 4 (.t 17))]) (.ret))))))⟩
def c_laws_szMemory : Fun := ⟨129, [], fun ts K => as2 ts fun t0 t1 => arG pMemT t0 fun m => arC (pI .i64) t1 fun k => chk (LMem m 9223372036854775807 ∧ 0 ≤ k ∧ k ≤ 1048576) (K (tN (szMem m k)) [])⟩
theorem run_laws_szMemory (m : Mem) (k : Int) (hpre : LMem m 9223372036854775807 ∧ 0 ≤ k ∧ k ≤ 1048576) : runK [c_laws_szWordS, c_laws_szBoolS] (0) [] pf_laws_szMemory [tG (m.tc false []), tI .i64 k] fun r o => r = tN (szMem m k) ∧ o = [] := by
  obtain ⟨⟨l1, l2⟩, hk, hk2⟩ := hpre
  have h0 := szr_le (n := m.words.length) hk
  conv => whnf
  refine chk_i ⟨l1, hk, hk2⟩ ?_
  conv => whnf
  refine sel_i (fun h => ?_) (fun h => ?_)
  · conv => whnf
    refine ⟨?_, rfl⟩; simp at h; simp [szMem, szB, h]
  · simp at h
    conv => whnf
    refine chk_i ⟨l2, h, by omega⟩ ?_
    conv => whnf
    refine sel_i (fun h2 => ?_) (fun h2 => ?_) <;> conv => whnf
    · refine ⟨?_, rfl⟩; simp at h2; have := szr_ge (k := szr k m.words.length) (n := m.gone.length); simp [szMem, szB, show ¬ szr k m.words.length < 0 by omega]; omega
    · refine ⟨?_, rfl⟩; simp [szMem, szB, show ¬ szr k m.words.length < 0 by omega]
theorem ok_laws_szMemory : FunOk Try.prog c_laws_szMemory := funOk (E := [c_laws_szWordS, c_laws_szBoolS]) (envOk_cons ok_laws_szWordS (envOk_cons ok_laws_szBoolS (envOk_nil))) mixd Try.func129 (pf := pf_laws_szMemory) (by kernel_rfl) fun ts K h => by
  obtain ⟨t0, t1, e0, h⟩ := as2_out h
  subst e0
  obtain ⟨m, e1, hq⟩ := arG_out rd_mem h
  clear h
  subst e1
  have h := hq
  clear hq
  obtain ⟨k, e1, hq⟩ := arC_out (rd_int .i64) h
  clear h
  subst e1
  have h := hq
  clear hq
  obtain ⟨hpre, h⟩ := chk_o h
  exact ⟨_, _, h, Nat.le_of_ble_eq_true (show Nat.ble 2 Try.f129.ntmps = true by kernel_rfl), _, run_laws_szMemory m k hpre⟩

def pf_laws_toMemory : PF := ⟨[.c 2 true 2], .seq (.reg [.s (.box 1 (.t 0)), .s (.alloc 2 [.nils .word, .nils .bool])]) (.seq (.reg [.s (.alloc 3 [.nils .word, .nils .bool])]) (.seq (.reg [.s (.fa 4 (.t 1) 0), .s (.load 5 false 1 (.t 4)), .s (.call (some 6) 183 [(.t 5)]), .s (.fa 7 (.t 3) 0), .s (.store 1 (.t 7) (.t 6))]) (.seq (.reg [.s (.fa 8 (.t 1) 1), .s (.load 9 false 1 (.t 8)), .s (.call (some 10) 184 [(.t 9)]), .s (.fa 11 (.t 3) 1), .s (.store 1 (.t 11) (.t 10))]) (.seq (.reg [.s (.load 12 true 2 (.t 3)), .s (.store 2 (.t 2) (.t 12))]) (.ret)))))⟩
def c_laws_toMemory : Fun := ⟨133, [], fun ts K => as1 ts fun t0 => arG pMemT t0 fun m => chk (LMem m 2147483647) (K (tG (m.tc true [])) [])⟩
theorem run_laws_toMemory (m : Mem) (hpre : LMem m 2147483647) : runK [c_laws_toWordS, c_laws_toBoolS] (0) [] pf_laws_toMemory [tG (m.tc false [])] fun r o => r = tG (m.tc true []) ∧ o = [] := by
  obtain ⟨l1, l2⟩ := hpre
  conv => whnf
  repeat' (first | (refine chk_c ?_ ?_ <;> conv => whnf) | (refine And.intro ?_ ?_ <;> conv => whnf))
  all_goals first
    | (refine ⟨?_⟩; omega)
    | (refine ⟨?_⟩; simp; done)
    | (refine ⟨?_⟩; simp [LMem, LTwo] at *; omega)
    | rfl
    | exact True.intro
    | exact ⟨rfl, rfl⟩
theorem ok_laws_toMemory : FunOk Try.prog c_laws_toMemory := funOk (E := [c_laws_toWordS, c_laws_toBoolS]) (envOk_cons ok_laws_toWordS (envOk_cons ok_laws_toBoolS (envOk_nil))) mixd Try.func133 (pf := pf_laws_toMemory) (by kernel_rfl) fun ts K h => by
  obtain ⟨t0, e0, h⟩ := as1_out h
  subst e0
  obtain ⟨m, e1, hq⟩ := arG_out rd_mem h
  clear h
  subst e1
  have h := hq
  clear hq
  obtain ⟨hpre, h⟩ := chk_o h
  exact ⟨_, _, h, Nat.le_of_ble_eq_true (show Nat.ble 1 Try.f133.ntmps = true by kernel_rfl), _, run_laws_toMemory m hpre⟩

def pf_spec_l8Copy : PF := ⟨[.c 2 true 2], .seq (.reg [.s (.box 1 (.t 0)), .s (.alloc 2 [.nils .word, .nils .bool])]) (.seq (.rgd [] [.s (.bs 3 .word []), .s (.fa 4 (.t 1) 0), .s (.load 5 false 1 (.t 4)), .s (.app 6 .word (.t 3) (.t 5)), .s (.bs 7 .bool []), .s (.fa 8 (.t 1) 1), .s (.load 9 false 1 (.t 8)), .s (.app 10 .bool (.t 7) (.t 9)), .s (.build 11 [.nils .word, .nils .bool] [(0, 1, (.t 6)), (1, 1, (.t 10))]), .s (.store 2 (.t 2) (.t 11))] (.tk 1 (.tk 2 (.tk 5 (.tk 6 (.alt 0 false (.alt 3 false (.one 4 false (.one 7 true (.tk 8 (.one 9 true (.done (some [2])))))) (.alt 4 false (.one 3 false (.one 7 true (.tk 8 (.one 9 true (.done (some [2])))))) (.nil))) (.alt 4 false (.one 0 false (.one 3 false (.one 7 true (.tk 8 (.one 9 true (.done (some [2]))))))) (.nil)))))))) (.ret))⟩
def c_spec_l8Copy : Fun := ⟨190, [], fun ts K => as1 ts fun t0 => arG pMemT t0 fun m => chk (LMem m 2147483647) (K (tG (m.tc true [])) [])⟩
theorem run_spec_l8Copy (m : Mem) (hpre : LMem m 2147483647) : runK [] (0) [] pf_spec_l8Copy [tG (m.tc false [])] fun r o => r = tG (m.tc true []) ∧ o = [] := by
  obtain ⟨l1, l2⟩ := hpre
  conv => whnf
  repeat' (first | (refine chk_c ?_ ?_ <;> conv => whnf) | (refine And.intro ?_ ?_ <;> conv => whnf))
  all_goals first
    | (refine ⟨?_⟩; omega)
    | (refine ⟨?_⟩; simp; done)
    | (refine ⟨?_⟩; simp [LMem, LTwo] at *; omega)
    | rfl
    | exact True.intro
    | exact ⟨rfl, rfl⟩
theorem ok_spec_l8Copy : FunOk Try.prog c_spec_l8Copy := funOk (E := []) (envOk_nil) mixd Try.func190 (pf := pf_spec_l8Copy) (by kernel_rfl) fun ts K h => by
  obtain ⟨t0, e0, h⟩ := as1_out h
  subst e0
  obtain ⟨m, e1, hq⟩ := arG_out rd_mem h
  clear h
  subst e1
  have h := hq
  clear hq
  obtain ⟨hpre, h⟩ := chk_o h
  exact ⟨_, _, h, Nat.le_of_ble_eq_true (show Nat.ble 1 Try.f190.ntmps = true by kernel_rfl), _, run_spec_l8Copy m hpre⟩

def pf_impl_cloneMemory : PF := ⟨[.c 2 true 2], .seq (.reg [.s (.box 1 (.t 0)), .s (.alloc 2 [.nils .word, .nils .bool])]) (.seq (.rgd [] [.s (.fa 3 (.t 1) 0), .s (.load 4 false 1 (.t 3)), .s (.call (some 5) 155 [(.t 4)]), .s (.fa 6 (.t 1) 1), .s (.load 7 false 1 (.t 6)), .s (.call (some 8) 214 [(.t 7)]), .s (.build 9 [.nils .word, .nils .bool] [(0, 1, (.t 5)), (1, 1, (.t 8))]), .s (.store 2 (.t 2) (.t 9))] (.tk 0 (.tk 1 (.tk 3 (.tk 4 (.one 2 false (.one 5 true (.tk 6 (.one 7 true (.done none)))))))))) (.ret))⟩
def c_impl_cloneMemory : Fun := ⟨175, [], fun ts K => as1 ts fun t0 => arG pMemT t0 fun m => chk (LMem m 2147483647) (K (tG (m.tc true [])) [])⟩
theorem run_impl_cloneMemory (m : Mem) (hpre : LMem m 2147483647) : runK [c_slices_Clone_Word, c_slices_Clone_bool] (0) [] pf_impl_cloneMemory [tG (m.tc false [])] fun r o => r = tG (m.tc true []) ∧ o = [] := by
  obtain ⟨l1, l2⟩ := hpre
  conv => whnf
  repeat' (first | (refine chk_c ?_ ?_ <;> conv => whnf) | (refine And.intro ?_ ?_ <;> conv => whnf))
  all_goals first
    | (refine ⟨?_⟩; omega)
    | (refine ⟨?_⟩; simp; done)
    | (refine ⟨?_⟩; simp [LMem, LTwo] at *; omega)
    | rfl
    | exact True.intro
    | exact ⟨rfl, rfl⟩
theorem ok_impl_cloneMemory : FunOk Try.prog c_impl_cloneMemory := funOk (E := [c_slices_Clone_Word, c_slices_Clone_bool]) (envOk_cons ok_slices_Clone_Word (envOk_cons ok_slices_Clone_bool (envOk_nil))) mixd Try.func175 (pf := pf_impl_cloneMemory) (by kernel_rfl) fun ts K h => by
  obtain ⟨t0, e0, h⟩ := as1_out h
  subst e0
  obtain ⟨m, e1, hq⟩ := arG_out rd_mem h
  clear h
  subst e1
  have h := hq
  clear hq
  obtain ⟨hpre, h⟩ := chk_o h
  exact ⟨_, _, h, Nat.le_of_ble_eq_true (show Nat.ble 1 Try.f175.ntmps = true by kernel_rfl), _, run_impl_cloneMemory m hpre⟩

def sideState (t : Two) (who : Int) : State :=
  if who = 0 then ⟨t.a.regs, t.a.pc, t.mem, t.a.trap⟩ else if who = 1 then ⟨t.b.regs, t.b.pc, t.mem, t.b.trap⟩ else ⟨[], ⟨0, false, ⟨0, 0, 0, 0⟩⟩, ⟨[], []⟩, 0⟩

def LState (s : State) (n : Nat) : Prop := s.regs.length ≤ n ∧ LMem s.mem n

def endSide (m : Side) (k : Int) : Int := k + 6 * m.regs.length
def markSide (m : Side) (k : Int) : Side := { m with regs := mkWordS m.regs.length (k) }
def SzSide (m : Side) : Prop := m.regs.length ≤ 2147483647
theorem etaSide (m : Side) : (⟨m.regs, m.pc, m.trap⟩ : Side) = m := rfl

def endState (m : State) (k : Int) : Int := endMemory m.mem (k + 6 * m.regs.length)
def markState (m : State) (k : Int) : State := { m with regs := mkWordS m.regs.length (k), mem := markMemory m.mem (k + 6 * m.regs.length) }
def SzState (m : State) : Prop := m.regs.length ≤ 2147483647 ∧ SzMemory m.mem
theorem mark_markState (m : State) (k : Int) : markState (markState m k) k = markState m k := by
  simp [SzState, endState, markState, SzMemory, endMemory, markMemory, mkWordS_length, mkBoolS_length]
theorem end_markState (m : State) (k : Int) : endState (markState m k) k = endState m k := by
  simp [SzState, endState, markState, SzMemory, endMemory, markMemory, mkWordS_length, mkBoolS_length]
theorem etaState (m : State) : (⟨m.regs, m.pc, m.mem, m.trap⟩ : State) = m := rfl

def endTwo (m : Two) (k : Int) : Int := endSide m.b (endSide m.a (endMemory m.mem (k)))
def markTwo (m : Two) (k : Int) : Two := { m with mem := markMemory m.mem (k), a := markSide m.a (endMemory m.mem (k)), b := markSide m.b (endSide m.a (endMemory m.mem (k))) }
def SzTwo (m : Two) : Prop := SzMemory m.mem ∧ SzSide m.a ∧ SzSide m.b
theorem mark_markTwo (m : Two) (k : Int) : markTwo (markTwo m k) k = markTwo m k := by
  simp [SzTwo, endTwo, markTwo, SzMemory, endMemory, markMemory, SzSide, endSide, markSide, mkWordS_length, mkBoolS_length]
theorem end_markTwo (m : Two) (k : Int) : endTwo (markTwo m k) k = endTwo m k := by
  simp [SzTwo, endTwo, markTwo, SzMemory, endMemory, markMemory, SzSide, endSide, markSide, mkWordS_length, mkBoolS_length]
theorem etaTwo (m : Two) : (⟨m.mem, m.a, m.b⟩ : Two) = m := rfl

theorem LTwo.mono {t : Two} {n m : Nat} (h : LTwo t n) (k : n ≤ m) : LTwo t m := ⟨⟨Nat.le_trans h.1.1 k, Nat.le_trans h.1.2 k⟩, Nat.le_trans h.2.1 k, Nat.le_trans h.2.2 k⟩
theorem etaMState (m : State) (k : Int) : (⟨(markState m k).regs, m.pc, (markState m k).mem, m.trap⟩ : State) = markState m k := rfl

def boundsOk (b t : Int) : Bool := decide (0 ≤ b) && decide (b ≤ t) && decide (t ≤ 4096)

def pf_impl_BoundsOk : PF := ⟨[.t 4], .seq (.reg [.s (.mv 4 (.k (.v (.c .ff))))]) (.seq (.reg [.s (.mv 5 (.t 0)), .s (.mv 6 (.t 1)), .s (.call (some 7) 98 [(.t 5), (.k (.v (.c (.int .i64 0)))), (.t 6)]), .s (.mv 8 (.t 7)), .g 8 true (some 9) (.mv 9 (.t 1)), .g 8 true (some 10) (.bin 10 .leq (.t 9) (.k (.v (.c (.int .i64 4096))))), .s (.pick 11 (.t 8) (.t 10) (.k (.v (.c .ff)))), .s (.mv 4 (.t 11))]) (.ret))⟩
def c_impl_BoundsOk : Fun := ⟨205, [], fun ts K => as2 ts fun t0 t1 => arC (pI .i64) t0 fun b => arC (pI .i64) t1 fun t => K (tB (boundsOk b t)) []⟩
theorem run_impl_BoundsOk (b : Int) (t : Int) : runK [c_impl_in] (0) [] pf_impl_BoundsOk [tI .i64 b, tI .i64 t] fun r o => r = tB (boundsOk b t) ∧ o = [] := by
  conv => whnf
  refine sel_i (fun h => ?_) (fun h => ?_) <;> conv => whnf
  all_goals (refine ⟨?_, rfl⟩; simp [inR] at h; simp [boundsOk] <;> omega)
theorem ok_impl_BoundsOk : FunOk Try.prog c_impl_BoundsOk := funOk (E := [c_impl_in]) (envOk_cons ok_impl_in (envOk_nil)) mixd Try.func205 (pf := pf_impl_BoundsOk) (by kernel_rfl) fun ts K h => by
  obtain ⟨t0, t1, e0, h⟩ := as2_out h
  subst e0
  obtain ⟨b, e1, hq⟩ := arC_out (rd_int .i64) h
  clear h
  subst e1
  have h := hq
  clear hq
  obtain ⟨t, e1, hq⟩ := arC_out (rd_int .i64) h
  clear h
  subst e1
  have h := hq
  clear hq
  exact ⟨_, _, h, Nat.le_of_ble_eq_true (show Nat.ble 2 Try.f205.ntmps = true by kernel_rfl), _, run_impl_BoundsOk b t⟩

def pf_spec_BoundsOk : PF := ⟨[.t 4], .seq (.reg [.s (.mv 4 (.k (.v (.c .ff))))]) (.seq (.reg [.s (.mv 5 (.t 0)), .s (.call (some 6) 149 [(.t 5), (.k (.v (.c (.int .i64 0)))), (.k (.v (.c (.int .i64 4096))))]), .s (.mv 7 (.t 6)), .g 7 true (some 8) (.mv 8 (.t 1)), .g 7 true (some 9) (.call (some 9) 149 [(.t 8), (.k (.v (.c (.int .i64 0)))), (.k (.v (.c (.int .i64 4096))))]), .s (.pick 10 (.t 7) (.t 9) (.k (.v (.c .ff)))), .s (.mv 11 (.t 10)), .g 11 true (some 12) (.mv 12 (.t 0)), .g 11 true (some 13) (.mv 13 (.t 1)), .g 11 true (some 14) (.bin 14 .leq (.t 12) (.t 13)), .s (.pick 15 (.t 11) (.t 14) (.k (.v (.c .ff)))), .s (.mv 4 (.t 15))]) (.ret))⟩
def c_spec_BoundsOk : Fun := ⟨225, [], fun ts K => as2 ts fun t0 t1 => arC (pI .i64) t0 fun b => arC (pI .i64) t1 fun t => K (tB (boundsOk b t)) []⟩
theorem run_spec_BoundsOk (b : Int) (t : Int) : runK [c_spec_l1In] (0) [] pf_spec_BoundsOk [tI .i64 b, tI .i64 t] fun r o => r = tB (boundsOk b t) ∧ o = [] := by
  conv => whnf
  repeat' (refine sel_i (fun h => ?_) (fun h => ?_) <;> conv => whnf)
  all_goals (refine ⟨?_, rfl⟩; simp_all [inR, boundsOk] <;> omega)
theorem ok_spec_BoundsOk : FunOk Try.prog c_spec_BoundsOk := funOk (E := [c_spec_l1In]) (envOk_cons ok_spec_l1In (envOk_nil)) mixd Try.func225 (pf := pf_spec_BoundsOk) (by kernel_rfl) fun ts K h => by
  obtain ⟨t0, t1, e0, h⟩ := as2_out h
  subst e0
  obtain ⟨b, e1, hq⟩ := arC_out (rd_int .i64) h
  clear h
  subst e1
  have h := hq
  clear hq
  obtain ⟨t, e1, hq⟩ := arC_out (rd_int .i64) h
  clear h
  subst e1
  have h := hq
  clear hq
  exact ⟨_, _, h, Nat.le_of_ble_eq_true (show Nat.ble 2 Try.f225.ntmps = true by kernel_rfl), _, run_spec_BoundsOk b t⟩

def packB (b : Int) (e : Nat) : Int := b / 2 ^ e
def packL (b t : Int) (e : Nat) : Int := (t - b / 2 ^ e * 2 ^ e + 2 ^ e - 1) / 2 ^ e
theorem e_cases {e : Nat} (he : e ≤ 6) : e = 0 ∨ e = 1 ∨ e = 2 ∨ e = 3 ∨ e = 4 ∨ e = 5 ∨ e = 6 := by omega
theorem e_min {e : Nat} (he : e ≤ 6) : min (e : Int).toNat IntKind.i64.bits = e := by rcases e_cases he with rfl | rfl | rfl | rfl | rfl | rfl | rfl <;> decide
theorem p_pos (e : Nat) : (0 : Int) ≤ 2 ^ e := Int.le_of_lt (Int.pow_pos (by decide))
theorem shr_b {b : Int} {e : Nat} (he : e ≤ 6) : b.fdiv (2 ^ min (e : Int).toNat IntKind.i64.bits) = packB b e := by
  rw [e_min he, Int.fdiv_eq_ediv_of_nonneg _ (p_pos e)]; rfl
theorem shr_l {b t : Int} {e : Nat} (he : e ≤ 6) (h : 0 ≤ b) (h1 : b ≤ t) (h2 : t ≤ 4096) :
    (IntKind.i64.wrap (IntKind.i64.wrap (IntKind.i64.wrap (t - IntKind.i64.wrap (packB b e * 2 ^ min (e : Int).toNat IntKind.i64.bits)) + IntKind.i64.wrap (1 * 2 ^ min (e : Int).toNat IntKind.i64.bits)) - 1)).fdiv (2 ^ min (e : Int).toNat IntKind.i64.bits) = packL b t e := by
  rw [e_min he, Int.fdiv_eq_ediv_of_nonneg _ (p_pos e)]
  unfold packB packL
  rcases e_cases he with rfl | rfl | rfl | rfl | rfl | rfl | rfl <;> simp only [Int.reducePow, Int.pow_zero] <;>
    rw [wrap_id (n := _ * _) (by omega) (by omega), wrap_id (n := t - _) (by omega) (by omega), wrap_id (n := 1 * _) (by omega) (by omega), wrap_id (n := _ + _) (by omega) (by omega), wrap_id (by omega) (by omega)] <;> simp
theorem shr_m {b t : Int} {e : Nat} (he : e ≤ 6) (h : 0 ≤ b) (h1 : b ≤ t) (h2 : t ≤ 4096) :
    packB (IntKind.i64.wrap (IntKind.i64.wrap (IntKind.i64.wrap (t - IntKind.i64.wrap (packB b e * 2 ^ min (e : Int).toNat IntKind.i64.bits)) + IntKind.i64.wrap (1 * 2 ^ min (e : Int).toNat IntKind.i64.bits)) - 1)) e = packL b t e := by
  rw [← shr_l he h h1 h2, shr_b he]
def packOk (b t : Int) (e : Nat) : Bool := decide (packB b e ≤ 63) && decide (packL b t e ≤ 63)
def packGo (b t : Int) : Nat → Nat → Option Packed
  | 0, _ => none
  | n + 1, e => if packOk b t e then some ⟨e, packB b e, packL b t e⟩ else packGo b t n (e + 1)
def pack (b t : Int) : Option Packed := if boundsOk b t then packGo b t 7 0 else none
def packT (o : Option Packed) : Tree := .tup [.g ((o.getD ⟨0, 0, 0⟩).tc []), .c (.bool o.isSome)]
theorem pack_no {b t : Int} (h : boundsOk b t = false) : pack b t = none := by simp [pack, h]
theorem pack_yes {b t : Int} (h : boundsOk b t = true) : pack b t = packGo b t 7 0 := by simp [pack, h]
theorem packGo_t {b t : Int} {n e : Nat} (h : packOk b t e = true) : packGo b t (n + 1) e = some ⟨e, packB b e, packL b t e⟩ := by simp [packGo, h]
theorem packGo_f {b t : Int} {n e : Nat} (h : packOk b t e = false) : packGo b t (n + 1) e = packGo b t n (e + 1) := by simp [packGo, h]
theorem bounds_n {b t : Int} (h : boundsOk b t = true) : 0 ≤ b ∧ b ≤ t ∧ t ≤ 4096 := by simp [boundsOk] at h; omega

def lb_spec_Pack_0 : PC := .seq (.seq (.reg [.s (.mv 14 (.t 6)), .s (.bin 15 .leq (.t 14) (.k (.v (.c (.int .i64 6)))))]) (.cond (.t 15) (.skip) (.exit 0))) (.seq (.blk 1 (.seq (.reg [.s (.mv 18 (.t 0)), .s (.mv 19 (.t 6)), .s (.bin 20 .shr (.t 18) (.t 19)), .s (.mv 7 (.t 20))]) (.seq (.rgd [] [.s (.mv 21 (.t 1)), .s (.mv 22 (.t 7)), .s (.mv 23 (.t 6)), .s (.bin 24 .shl (.t 22) (.t 23)), .s (.bin 25 .sub (.t 21) (.t 24)), .s (.mv 26 (.t 6)), .s (.bin 27 .shl (.k (.v (.c (.int .i64 1)))) (.t 26)), .s (.bin 28 .add (.t 25) (.t 27)), .s (.bin 29 .sub (.t 28) (.k (.v (.c (.int .i64 1))))), .s (.mv 30 (.t 6)), .s (.bin 31 .shr (.t 29) (.t 30)), .s (.mv 8 (.t 31))] (.tk 0 (.tk 1 (.tk 2 (.tk 3 (.tk 4 (.tk 5 (.tk 6 (.tk 7 (.tk 8 (.tk 9 (.tk 10 (.tk 11 (.done none)))))))))))))) (.seq (.reg [.s (.mv 32 (.t 7)), .s (.bin 33 .leq (.t 32) (.k (.v (.c (.int .i64 63))))), .s (.mv 34 (.t 33)), .g 34 true (some 35) (.mv 35 (.t 8)), .g 34 true (some 36) (.bin 36 .leq (.t 35) (.k (.v (.c (.int .i64 63))))), .s (.pick 37 (.t 34) (.t 36) (.k (.v (.c .ff))))]) (.cond (.t 37) (.seq (.reg [.s (.mv 38 (.t 6)), .s (.mv 39 (.t 7)), .s (.mv 40 (.t 8)), .s (.build 41 [.int .i64 0, .int .i64 0, .int .i64 0] [(0, 1, (.t 38)), (1, 1, (.t 39)), (2, 1, (.t 40))]), .s (.store 3 (.t 4) (.t 41)), .s (.mv 5 (.k (.v (.c .tt))))]) (.ret)) (.skip)))))) (.reg [.s (.mv 16 (.t 6)), .s (.bin 17 .add (.t 16) (.k (.v (.c (.int .i64 1))))), .s (.mv 6 (.t 17))]))
def pf_spec_Pack : PF := ⟨[.c 4 true 3, .t 5], .seq (.reg [.s (.alloc 4 [.int .i64 0, .int .i64 0, .int .i64 0]), .s (.mv 5 (.k (.v (.c .ff))))]) (.seq (.seq (.reg [.s (.mv 9 (.t 0)), .s (.mv 10 (.t 1)), .s (.call (some 11) 225 [(.t 9), (.t 10)]), .s (.bnot 12 (.t 11))]) (.cond (.t 12) (.seq (.reg [.s (.build 13 [.int .i64 0, .int .i64 0, .int .i64 0] []), .s (.store 3 (.t 4) (.t 13)), .s (.mv 5 (.k (.v (.c .ff))))]) (.ret)) (.skip))) (.seq (.seq (.reg [.s (.mv 6 (.k (.v (.c (.int .i64 0)))))]) (.blk 0 (.loop [0, 1, 4, 6] lb_spec_Pack_0))) (.seq (.reg [.s (.build 42 [.int .i64 0, .int .i64 0, .int .i64 0] []), .s (.store 3 (.t 4) (.t 42)), .s (.mv 5 (.k (.v (.c .ff))))]) (.ret))))⟩
def c_spec_Pack : Fun := ⟨247, [], fun ts K => as2 ts fun t0 t1 => arC (pI .i64) t0 fun b => arC (pI .i64) t1 fun t => K (packT (pack b t)) []⟩
theorem run_spec_Pack (b : Int) (t : Int) : runK [c_spec_BoundsOk] (8) [] pf_spec_Pack [tI .i64 b, tI .i64 t] fun r o => r = packT (pack b t) ∧ o = [] := by
  conv => whnf
  refine sel_i (fun h => ?_) (fun h => ?_)
  · rw [pack_no (by simpa using h)]
    conv => whnf
    exact ⟨rfl, rfl⟩
  have hb : boundsOk b t = true := by simpa using h
  obtain ⟨b1, b2, b3⟩ := bounds_n hb
  rw [pack_yes hb]
  conv => whnf
  refine loop (α := Nat) (fun e => ⟨[(0, .v (.c (.int .i64 b))), (1, .v (.c (.int .i64 t))), (4, .v (.c (.ptr 0 0))), (6, .v (.c (.int .i64 (e : Int))))], [(0, some (.box true [.int .i64 0, .int .i64 0, .int .i64 0]))], nums.tail, [], false, []⟩)
      (fun e => e ≤ 7 ∧ packGo b t 7 0 = packGo b t (7 - e) e) (fun e => 7 - e) (fun e R hI hR => ?_) 0 _ ⟨by omega, rfl⟩ (by omega)
  obtain ⟨hI, hG⟩ := hI
  conv => whnf
  refine sel_i (fun h2 => ?_) (fun h2 => ?_)
  · have he : e ≤ 6 := by simp at h2; omega
    rw [show 7 - e = (6 - e) + 1 by omega] at hG
    conv => whnf
    repeat' (refine chk_c ?_ ?_ <;> conv => whnf)
    any_goals (refine ⟨?_⟩; omega)
    simp only [shr_b he, shr_m he b1 b2 b3]
    refine sel_i (fun h3 => ?_) (fun h3 => ?_)
    · conv => whnf
      refine sel_i (fun h4 => ?_) (fun h4 => ?_)
      · rw [hG, packGo_t (by simp only [packOk, h3, h4, Bool.and_self])]
        conv => whnf
        exact ⟨rfl, rfl⟩
      · conv => whnf
        rw [wrap_id (by omega) (by omega)]
        exact hR (e + 1) ⟨by omega, by rw [hG, packGo_f (by simp only [packOk, h3, h4, Bool.and_false])]; rw [show 7 - (e + 1) = 6 - e by omega]⟩ (by omega)
    · conv => whnf
      rw [wrap_id (by omega) (by omega)]
      exact hR (e + 1) ⟨by omega, by rw [hG, packGo_f (by simp only [packOk, h3, Bool.false_and])]; rw [show 7 - (e + 1) = 6 - e by omega]⟩ (by omega)
  · have he : e = 7 := by simp at h2; omega
    subst he
    rw [hG]
    conv => whnf
    exact ⟨rfl, rfl⟩
theorem ok_spec_Pack : FunOk Try.prog c_spec_Pack := funOk (E := [c_spec_BoundsOk]) (envOk_cons ok_spec_BoundsOk (envOk_nil)) mixd Try.func247 (pf := pf_spec_Pack) (by kernel_rfl) fun ts K h => by
  obtain ⟨t0, t1, e0, h⟩ := as2_out h
  subst e0
  obtain ⟨b, e1, hq⟩ := arC_out (rd_int .i64) h
  clear h
  subst e1
  have h := hq
  clear hq
  obtain ⟨t, e1, hq⟩ := arC_out (rd_int .i64) h
  clear h
  subst e1
  have h := hq
  clear hq
  exact ⟨_, _, h, Nat.le_of_ble_eq_true (show Nat.ble 2 Try.f247.ntmps = true by kernel_rfl), _, run_spec_Pack b t⟩
end Go.Pi
