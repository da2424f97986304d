/- Contracts of functions, each out of its run by PI. No conditions. -/
import Derived.Test.YtepkbkojgbcahaaCD
namespace Go.Pi
open Go.Proofs
set_option linter.unusedVariables false
set_option linter.unusedSimpArgs false
set_option maxRecDepth 100000
attribute [local irreducible] iterN
def boundsOk (b t : Int) : Bool := decide (0 ≤ b) && decide (b ≤ t) && decide (t ≤ 4096)

def pf_impl_BoundsOk : PF := ⟨[.t 4], .seq (.reg [.s (.mv 4 (.k (.v (.c .ff))))]) (.seq (.reg [.s (.mv 5 (.t 0)), .s (.mv 6 (.t 1)), .s (.call (some 7) 103 [(.t 5), (.k (.v (.c (.int .i64 0)))), (.t 6)]), .s (.mv 8 (.t 7)), .g 8 true (some 9) (.mv 9 (.t 1)), .g 8 true (some 10) (.bin 10 .leq (.t 9) (.k (.v (.c (.int .i64 4096))))), .s (.pick 11 (.t 8) (.t 10) (.k (.v (.c .ff)))), .s (.mv 4 (.t 11))]) (.ret))⟩
def c_impl_BoundsOk : Fun := ⟨147, [], fun ts K => as2 ts fun t0 t1 => arC (pI .i64) t0 fun b => arC (pI .i64) t1 fun t => K (tB (boundsOk b t)) []⟩
theorem run_impl_BoundsOk (b : Int) (t : Int) : runK [c_impl_in] (0) [] pf_impl_BoundsOk [tI .i64 b, tI .i64 t] fun r o => r = tB (boundsOk b t) ∧ o = [] := by
  conv => whnf
  refine sel_i (fun h => ?_) (fun h => ?_) <;> conv => whnf
  all_goals (refine ⟨?_, rfl⟩; simp [inR] at h; simp [boundsOk] <;> omega)
theorem ok_impl_BoundsOk : FunOk Try.prog c_impl_BoundsOk := funOk (E := [c_impl_in]) (envOk_cons ok_impl_in (envOk_nil)) mixd Try.func147 (pf := pf_impl_BoundsOk) (by kernel_rfl) fun ts K h => by
  obtain ⟨t0, t1, e0, h⟩ := as2_out h
  subst e0
  obtain ⟨b, e1, hq⟩ := arC_out (rd_int .i64) h
  clear h
  subst e1
  have h := hq
  clear hq
  obtain ⟨t, e1, hq⟩ := arC_out (rd_int .i64) h
  clear h
  subst e1
  have h := hq
  clear hq
  exact ⟨_, _, h, Nat.le_of_ble_eq_true (show Nat.ble 2 Try.f147.ntmps = true by kernel_rfl), _, run_impl_BoundsOk b t⟩

def pf_spec_BoundsOk : PF := ⟨[.t 4], .seq (.reg [.s (.mv 4 (.k (.v (.c .ff))))]) (.seq (.reg [.s (.mv 5 (.t 0)), .s (.call (some 6) 101 [(.t 5), (.k (.v (.c (.int .i64 0)))), (.k (.v (.c (.int .i64 4096))))]), .s (.mv 7 (.t 6)), .g 7 true (some 8) (.mv 8 (.t 1)), .g 7 true (some 9) (.call (some 9) 101 [(.t 8), (.k (.v (.c (.int .i64 0)))), (.k (.v (.c (.int .i64 4096))))]), .s (.pick 10 (.t 7) (.t 9) (.k (.v (.c .ff)))), .s (.mv 11 (.t 10)), .g 11 true (some 12) (.mv 12 (.t 0)), .g 11 true (some 13) (.mv 13 (.t 1)), .g 11 true (some 14) (.bin 14 .leq (.t 12) (.t 13)), .s (.pick 15 (.t 11) (.t 14) (.k (.v (.c .ff)))), .s (.mv 4 (.t 15))]) (.ret))⟩
def c_spec_BoundsOk : Fun := ⟨145, [], fun ts K => as2 ts fun t0 t1 => arC (pI .i64) t0 fun b => arC (pI .i64) t1 fun t => K (tB (boundsOk b t)) []⟩
theorem run_spec_BoundsOk (b : Int) (t : Int) : runK [c_spec_l1In] (0) [] pf_spec_BoundsOk [tI .i64 b, tI .i64 t] fun r o => r = tB (boundsOk b t) ∧ o = [] := by
  conv => whnf
  repeat' (refine sel_i (fun h => ?_) (fun h => ?_) <;> conv => whnf)
  all_goals (refine ⟨?_, rfl⟩; simp_all [inR, boundsOk] <;> omega)
theorem ok_spec_BoundsOk : FunOk Try.prog c_spec_BoundsOk := funOk (E := [c_spec_l1In]) (envOk_cons ok_spec_l1In (envOk_nil)) mixd Try.func145 (pf := pf_spec_BoundsOk) (by kernel_rfl) fun ts K h => by
  obtain ⟨t0, t1, e0, h⟩ := as2_out h
  subst e0
  obtain ⟨b, e1, hq⟩ := arC_out (rd_int .i64) h
  clear h
  subst e1
  have h := hq
  clear hq
  obtain ⟨t, e1, hq⟩ := arC_out (rd_int .i64) h
  clear h
  subst e1
  have h := hq
  clear hq
  exact ⟨_, _, h, Nat.le_of_ble_eq_true (show Nat.ble 2 Try.f145.ntmps = true by kernel_rfl), _, run_spec_BoundsOk b t⟩

def packB (b : Int) (e : Nat) : Int := b / 2 ^ e
def packL (b t : Int) (e : Nat) : Int := (t - b / 2 ^ e * 2 ^ e + 2 ^ e - 1) / 2 ^ e
theorem e_cases {e : Nat} (he : e ≤ 6) : e = 0 ∨ e = 1 ∨ e = 2 ∨ e = 3 ∨ e = 4 ∨ e = 5 ∨ e = 6 := by omega
theorem e_min {e : Nat} (he : e ≤ 6) : min (e : Int).toNat IntKind.i64.bits = e := by rcases e_cases he with rfl | rfl | rfl | rfl | rfl | rfl | rfl <;> decide
theorem p_pos (e : Nat) : (0 : Int) ≤ 2 ^ e := Int.le_of_lt (Int.pow_pos (by decide))
theorem shr_b {b : Int} {e : Nat} (he : e ≤ 6) : b.fdiv (2 ^ min (e : Int).toNat IntKind.i64.bits) = packB b e := by
  rw [e_min he, Int.fdiv_eq_ediv_of_nonneg _ (p_pos e)]; rfl
theorem shr_l {b t : Int} {e : Nat} (he : e ≤ 6) (h : 0 ≤ b) (h1 : b ≤ t) (h2 : t ≤ 4096) :
    (IntKind.i64.wrap (IntKind.i64.wrap (IntKind.i64.wrap (t - IntKind.i64.wrap (packB b e * 2 ^ min (e : Int).toNat IntKind.i64.bits)) + IntKind.i64.wrap (1 * 2 ^ min (e : Int).toNat IntKind.i64.bits)) - 1)).fdiv (2 ^ min (e : Int).toNat IntKind.i64.bits) = packL b t e := by
  rw [e_min he, Int.fdiv_eq_ediv_of_nonneg _ (p_pos e)]
  unfold packB packL
  rcases e_cases he with rfl | rfl | rfl | rfl | rfl | rfl | rfl <;> simp only [Int.reducePow, Int.pow_zero] <;>
    rw [wrap_id (n := _ * _) (by omega) (by omega), wrap_id (n := t - _) (by omega) (by omega), wrap_id (n := 1 * _) (by omega) (by omega), wrap_id (n := _ + _) (by omega) (by omega), wrap_id (by omega) (by omega)] <;> simp
theorem shr_m {b t : Int} {e : Nat} (he : e ≤ 6) (h : 0 ≤ b) (h1 : b ≤ t) (h2 : t ≤ 4096) :
    packB (IntKind.i64.wrap (IntKind.i64.wrap (IntKind.i64.wrap (t - IntKind.i64.wrap (packB b e * 2 ^ min (e : Int).toNat IntKind.i64.bits)) + IntKind.i64.wrap (1 * 2 ^ min (e : Int).toNat IntKind.i64.bits)) - 1)) e = packL b t e := by
  rw [← shr_l he h h1 h2, shr_b he]
def packOk (b t : Int) (e : Nat) : Bool := decide (packB b e ≤ 63) && decide (packL b t e ≤ 63)
def packGo (b t : Int) : Nat → Nat → Option Packed
  | 0, _ => none
  | n + 1, e => if packOk b t e then some ⟨e, packB b e, packL b t e⟩ else packGo b t n (e + 1)
def pack (b t : Int) : Option Packed := if boundsOk b t then packGo b t 7 0 else none
def packT (o : Option Packed) : Tree := .tup [.g ((o.getD ⟨0, 0, 0⟩).tc []), .c (.bool o.isSome)]
theorem pack_no {b t : Int} (h : boundsOk b t = false) : pack b t = none := by simp [pack, h]
theorem pack_yes {b t : Int} (h : boundsOk b t = true) : pack b t = packGo b t 7 0 := by simp [pack, h]
theorem packGo_t {b t : Int} {n e : Nat} (h : packOk b t e = true) : packGo b t (n + 1) e = some ⟨e, packB b e, packL b t e⟩ := by simp [packGo, h]
theorem packGo_f {b t : Int} {n e : Nat} (h : packOk b t e = false) : packGo b t (n + 1) e = packGo b t n (e + 1) := by simp [packGo, h]
theorem bounds_n {b t : Int} (h : boundsOk b t = true) : 0 ≤ b ∧ b ≤ t ∧ t ≤ 4096 := by simp [boundsOk] at h; omega

def lb_spec_Pack_0 : PC := .seq (.seq (.reg [.s (.mv 14 (.t 6)), .s (.bin 15 .leq (.t 14) (.k (.v (.c (.int .i64 6)))))]) (.cond (.t 15) (.skip) (.exit 0))) (.seq (.blk 1 (.seq (.reg [.s (.mv 18 (.t 0)), .s (.mv 19 (.t 6)), .s (.bin 20 .shr (.t 18) (.t 19)), .s (.mv 7 (.t 20))]) (.seq (.rgd [.s (.mv 21 (.t 1)), .s (.mv 22 (.t 7)), .s (.mv 23 (.t 6)), .s (.bin 24 .shl (.t 22) (.t 23)), .s (.bin 25 .sub (.t 21) (.t 24)), .s (.mv 26 (.t 6)), .s (.bin 27 .shl (.k (.v (.c (.int .i64 1)))) (.t 26)), .s (.bin 28 .add (.t 25) (.t 27)), .s (.bin 29 .sub (.t 28) (.k (.v (.c (.int .i64 1))))), .s (.mv 30 (.t 6)), .s (.bin 31 .shr (.t 29) (.t 30)), .s (.mv 8 (.t 31))] (.tk 0 (.tk 1 (.tk 2 (.tk 3 (.tk 4 (.tk 5 (.tk 6 (.tk 7 (.tk 8 (.tk 9 (.tk 10 (.tk 11 (.done none)))))))))))))) (.seq (.reg [.s (.mv 32 (.t 7)), .s (.bin 33 .leq (.t 32) (.k (.v (.c (.int .i64 63))))), .s (.mv 34 (.t 33)), .g 34 true (some 35) (.mv 35 (.t 8)), .g 34 true (some 36) (.bin 36 .leq (.t 35) (.k (.v (.c (.int .i64 63))))), .s (.pick 37 (.t 34) (.t 36) (.k (.v (.c .ff))))]) (.cond (.t 37) (.seq (.reg [.s (.mv 38 (.t 6)), .s (.mv 39 (.t 7)), .s (.mv 40 (.t 8)), .s (.build 41 [.int .i64 0, .int .i64 0, .int .i64 0] [(0, 1, (.t 38)), (1, 1, (.t 39)), (2, 1, (.t 40))]), .s (.store 3 (.t 4) (.t 41)), .s (.mv 5 (.k (.v (.c .tt))))]) (.ret)) (.skip)))))) (.reg [.s (.mv 16 (.t 6)), .s (.bin 17 .add (.t 16) (.k (.v (.c (.int .i64 1))))), .s (.mv 6 (.t 17))]))
def pf_spec_Pack : PF := ⟨[.c 4 true 3, .t 5], .seq (.reg [.s (.alloc 4 [.int .i64 0, .int .i64 0, .int .i64 0]), .s (.mv 5 (.k (.v (.c .ff))))]) (.seq (.seq (.reg [.s (.mv 9 (.t 0)), .s (.mv 10 (.t 1)), .s (.call (some 11) 145 [(.t 9), (.t 10)]), .s (.bnot 12 (.t 11))]) (.cond (.t 12) (.seq (.reg [.s (.build 13 [.int .i64 0, .int .i64 0, .int .i64 0] []), .s (.store 3 (.t 4) (.t 13)), .s (.mv 5 (.k (.v (.c .ff))))]) (.ret)) (.skip))) (.seq (.seq (.reg [.s (.mv 6 (.k (.v (.c (.int .i64 0)))))]) (.blk 0 (.loop [0, 1, 4, 6] lb_spec_Pack_0))) (.seq (.reg [.s (.build 42 [.int .i64 0, .int .i64 0, .int .i64 0] []), .s (.store 3 (.t 4) (.t 42)), .s (.mv 5 (.k (.v (.c .ff))))]) (.ret))))⟩
def c_spec_Pack : Fun := ⟨150, [], fun ts K => as2 ts fun t0 t1 => arC (pI .i64) t0 fun b => arC (pI .i64) t1 fun t => K (packT (pack b t)) []⟩
theorem run_spec_Pack (b : Int) (t : Int) : runK [c_spec_BoundsOk] (8) [] pf_spec_Pack [tI .i64 b, tI .i64 t] fun r o => r = packT (pack b t) ∧ o = [] := by
  conv => whnf
  refine sel_i (fun h => ?_) (fun h => ?_)
  · rw [pack_no (by simpa using h)]
    conv => whnf
    exact ⟨rfl, rfl⟩
  have hb : boundsOk b t = true := by simpa using h
  obtain ⟨b1, b2, b3⟩ := bounds_n hb
  rw [pack_yes hb]
  conv => whnf
  refine loop (α := Nat) (fun e => ⟨[(0, .v (.c (.int .i64 b))), (1, .v (.c (.int .i64 t))), (4, .v (.c (.ptr 0 0))), (6, .v (.c (.int .i64 (e : Int))))], [(0, some (.box true [.int .i64 0, .int .i64 0, .int .i64 0]))], nums.tail, [], false, []⟩)
      (fun e => e ≤ 7 ∧ packGo b t 7 0 = packGo b t (7 - e) e) (fun e => 7 - e) (fun e R hI hR => ?_) 0 _ ⟨by omega, rfl⟩ (by omega)
  obtain ⟨hI, hG⟩ := hI
  conv => whnf
  refine sel_i (fun h2 => ?_) (fun h2 => ?_)
  · have he : e ≤ 6 := by simp at h2; omega
    rw [show 7 - e = (6 - e) + 1 by omega] at hG
    conv => whnf
    repeat' (refine chk_c ?_ ?_ <;> conv => whnf)
    any_goals (refine ⟨?_⟩; omega)
    simp only [shr_b he, shr_m he b1 b2 b3]
    refine sel_i (fun h3 => ?_) (fun h3 => ?_)
    · conv => whnf
      refine sel_i (fun h4 => ?_) (fun h4 => ?_)
      · rw [hG, packGo_t (by simp only [packOk, h3, h4, Bool.and_self])]
        conv => whnf
        exact ⟨rfl, rfl⟩
      · conv => whnf
        rw [wrap_id (by omega) (by omega)]
        exact hR (e + 1) ⟨by omega, by rw [hG, packGo_f (by simp only [packOk, h3, h4, Bool.and_false])]; rw [show 7 - (e + 1) = 6 - e by omega]⟩ (by omega)
    · conv => whnf
      rw [wrap_id (by omega) (by omega)]
      exact hR (e + 1) ⟨by omega, by rw [hG, packGo_f (by simp only [packOk, h3, Bool.false_and])]; rw [show 7 - (e + 1) = 6 - e by omega]⟩ (by omega)
  · have he : e = 7 := by simp at h2; omega
    subst he
    rw [hG]
    conv => whnf
    exact ⟨rfl, rfl⟩
theorem ok_spec_Pack : FunOk Try.prog c_spec_Pack := funOk (E := [c_spec_BoundsOk]) (envOk_cons ok_spec_BoundsOk (envOk_nil)) mixd Try.func150 (pf := pf_spec_Pack) (by kernel_rfl) fun ts K h => by
  obtain ⟨t0, t1, e0, h⟩ := as2_out h
  subst e0
  obtain ⟨b, e1, hq⟩ := arC_out (rd_int .i64) h
  clear h
  subst e1
  have h := hq
  clear hq
  obtain ⟨t, e1, hq⟩ := arC_out (rd_int .i64) h
  clear h
  subst e1
  have h := hq
  clear hq
  exact ⟨_, _, h, Nat.le_of_ble_eq_true (show Nat.ble 2 Try.f150.ntmps = true by kernel_rfl), _, run_spec_Pack b t⟩
end Go.Pi
