/- Contracts of functions, each out of its run by PI. No conditions. -/
import Derived.Test.YtepkbkojgbcahaaCE
namespace Go.Pi
open Go.Proofs
set_option linter.unusedVariables false
set_option linter.unusedSimpArgs false
set_option maxRecDepth 100000
attribute [local irreducible] iterN
theorem p_wrap {e : Nat} (he : e ≤ 6) : IntKind.i64.wrap (1 * 2 ^ min (e : Int).toNat IntKind.i64.bits) = 2 ^ e := by
  rw [e_min he]
  rcases e_cases he with rfl | rfl | rfl | rfl | rfl | rfl | rfl <;> decide
theorem quo_b {b : Int} {e : Nat} (he : e ≤ 6) (h : 0 ≤ b) (h1 : b ≤ 4096) : IntKind.i64.wrap (b.tdiv (2 ^ e)) = packB b e := by
  rw [Int.tdiv_eq_ediv_of_nonneg h]
  unfold packB
  rcases e_cases he with rfl | rfl | rfl | rfl | rfl | rfl | rfl <;> simp only [Int.reducePow, Int.pow_zero] <;> exact wrap_id (by omega) (by omega)
theorem quo_l {b t : Int} {e : Nat} (he : e ≤ 6) (h : 0 ≤ b) (h1 : b ≤ t) (h2 : t ≤ 4096) :
    IntKind.i64.wrap ((IntKind.i64.wrap (IntKind.i64.wrap (IntKind.i64.wrap (t - IntKind.i64.wrap (packB b e * 2 ^ e)) + 2 ^ e) - 1)).tdiv (2 ^ e)) = packL b t e := by
  unfold packB packL
  rcases e_cases he with rfl | rfl | rfl | rfl | rfl | rfl | rfl <;> simp only [Int.reducePow, Int.pow_zero] <;>
    rw [wrap_id (n := _ * _) (by omega) (by omega), wrap_id (n := t - _) (by omega) (by omega), wrap_id (n := _ + _) (by omega) (by omega), wrap_id (n := _ - 1) (by omega) (by omega), Int.tdiv_eq_ediv_of_nonneg (by omega)] <;> exact wrap_id (by omega) (by omega)

def lb_impl_Pack_0 : PC := .seq (.reg [.s (.bin 16 .lss (.t 15) (.k (.v (.c (.int .i64 7)))))]) (.seq (.cond (.t 16) (.skip) (.exit 0)) (.seq (.blk 1 (.seq (.reg [.s (.mv 17 (.t 15)), .s (.mv 6 (.t 17))]) (.seq (.reg [.s (.mv 18 (.t 6)), .s (.bin 19 .shl (.k (.v (.c (.int .i64 1)))) (.t 18)), .s (.mv 7 (.t 19))]) (.seq (.reg [.s (.mv 20 (.t 0)), .s (.mv 21 (.t 7)), .s (.bin 22 .quo (.t 20) (.t 21)), .s (.mv 8 (.t 22))]) (.seq (.reg [.s (.mv 23 (.t 1)), .s (.mv 24 (.t 8)), .s (.mv 25 (.t 7)), .s (.bin 26 .mul (.t 24) (.t 25)), .s (.bin 27 .sub (.t 23) (.t 26)), .s (.mv 28 (.t 7)), .s (.bin 29 .add (.t 27) (.t 28)), .s (.bin 30 .sub (.t 29) (.k (.v (.c (.int .i64 1))))), .s (.mv 31 (.t 7)), .s (.bin 32 .quo (.t 30) (.t 31)), .s (.mv 9 (.t 32))]) (.seq (.reg [.s (.mv 33 (.t 8)), .s (.bin 34 .leq (.t 33) (.k (.v (.c (.int .i64 63))))), .s (.mv 35 (.t 34)), .g 35 true (some 36) (.mv 36 (.t 9)), .g 35 true (some 37) (.bin 37 .leq (.t 36) (.k (.v (.c (.int .i64 63))))), .s (.pick 38 (.t 35) (.t 37) (.k (.v (.c .ff))))]) (.cond (.t 38) (.seq (.reg [.s (.mv 39 (.t 6)), .s (.mv 40 (.t 8)), .s (.mv 41 (.t 9)), .s (.build 42 [.int .i64 0, .int .i64 0, .int .i64 0] [(0, 1, (.t 39)), (1, 1, (.t 40)), (2, 1, (.t 41))]), .s (.store 3 (.t 4) (.t 42)), .s (.mv 5 (.k (.v (.c .tt))))]) (.ret)) (.skip)))))))) (.reg [.s (.bin 43 .add (.t 15) (.k (.v (.c (.int .i64 1))))), .s (.mv 15 (.t 43))])))
def pf_impl_Pack : PF := ⟨[.c 4 true 3, .t 5], .seq (.reg [.s (.alloc 4 [.int .i64 0, .int .i64 0, .int .i64 0]), .s (.mv 5 (.k (.v (.c .ff))))]) (.seq (.seq (.reg [.s (.mv 10 (.t 0)), .s (.mv 11 (.t 1)), .s (.call (some 12) 147 [(.t 10), (.t 11)]), .s (.bnot 13 (.t 12))]) (.cond (.t 13) (.seq (.reg [.s (.build 14 [.int .i64 0, .int .i64 0, .int .i64 0] []), .s (.store 3 (.t 4) (.t 14)), .s (.mv 5 (.k (.v (.c .ff))))]) (.ret)) (.skip))) (.seq (.seq (.reg [.s (.mv 15 (.k (.v (.c (.int .i64 0)))))]) (.blk 0 (.loop [0, 1, 4, 15] lb_impl_Pack_0))) (.seq (.reg [.s (.build 44 [.int .i64 0, .int .i64 0, .int .i64 0] []), .s (.store 3 (.t 4) (.t 44)), .s (.mv 5 (.k (.v (.c .ff))))]) (.ret))))⟩
def c_impl_Pack : Fun := ⟨152, [], fun ts K => as2 ts fun t0 t1 => arC (pI .i64) t0 fun b => arC (pI .i64) t1 fun t => K (packT (pack b t)) []⟩
theorem run_impl_Pack (b : Int) (t : Int) : runK [c_impl_BoundsOk] (8) [] pf_impl_Pack [tI .i64 b, tI .i64 t] fun r o => r = packT (pack b t) ∧ o = [] := by
  conv => whnf
  refine sel_i (fun h => ?_) (fun h => ?_)
  · rw [pack_no (by simpa using h)]
    conv => whnf
    exact ⟨rfl, rfl⟩
  have hb : boundsOk b t = true := by simpa using h
  obtain ⟨b1, b2, b3⟩ := bounds_n hb
  rw [pack_yes hb]
  conv => whnf
  refine loop (α := Nat) (fun e => ⟨[(0, .v (.c (.int .i64 b))), (1, .v (.c (.int .i64 t))), (4, .v (.c (.ptr 0 0))), (15, .v (.c (.int .i64 (e : Int))))], [(0, some (.box true [.int .i64 0, .int .i64 0, .int .i64 0]))], nums.tail, [], false, []⟩)
      (fun e => e ≤ 7 ∧ packGo b t 7 0 = packGo b t (7 - e) e) (fun e => 7 - e) (fun e R hI hR => ?_) 0 _ ⟨by omega, rfl⟩ (by omega)
  obtain ⟨hI, hG⟩ := hI
  conv => whnf
  refine sel_i (fun h2 => ?_) (fun h2 => ?_)
  · have he : e ≤ 6 := by simp at h2; omega
    rw [show 7 - e = (6 - e) + 1 by omega] at hG
    conv => whnf
    repeat' (refine chk_c ?_ ?_ <;> conv => whnf)
    any_goals (refine ⟨?_⟩; first | omega | (rw [p_wrap he]; exact Int.ne_of_gt (Int.pow_pos (by decide))))
    simp only [p_wrap he, quo_b he b1 (Int.le_trans b2 b3), quo_l he b1 b2 b3]
    refine sel_i (fun h3 => ?_) (fun h3 => ?_)
    · conv => whnf
      refine sel_i (fun h4 => ?_) (fun h4 => ?_)
      · rw [hG, packGo_t (by simp only [packOk, h3, h4, Bool.and_self])]
        conv => whnf
        exact ⟨rfl, rfl⟩
      · conv => whnf
        rw [wrap_id (by omega) (by omega)]
        exact hR (e + 1) ⟨by omega, by rw [hG, packGo_f (by simp only [packOk, h3, h4, Bool.and_false])]; rw [show 7 - (e + 1) = 6 - e by omega]⟩ (by omega)
    · conv => whnf
      rw [wrap_id (by omega) (by omega)]
      exact hR (e + 1) ⟨by omega, by rw [hG, packGo_f (by simp only [packOk, h3, Bool.false_and])]; rw [show 7 - (e + 1) = 6 - e by omega]⟩ (by omega)
  · have he : e = 7 := by simp at h2; omega
    subst he
    rw [hG]
    conv => whnf
    exact ⟨rfl, rfl⟩
theorem ok_impl_Pack : FunOk Try.prog c_impl_Pack := funOk (E := [c_impl_BoundsOk]) (envOk_cons ok_impl_BoundsOk (envOk_nil)) mixd Try.func152 (pf := pf_impl_Pack) (by kernel_rfl) fun ts K h => by
  obtain ⟨t0, t1, e0, h⟩ := as2_out h
  subst e0
  obtain ⟨b, e1, hq⟩ := arC_out (rd_int .i64) h
  clear h
  subst e1
  have h := hq
  clear hq
  obtain ⟨t, e1, hq⟩ := arC_out (rd_int .i64) h
  clear h
  subst e1
  have h := hq
  clear hq
  exact ⟨_, _, h, Nat.le_of_ble_eq_true (show Nat.ble 2 Try.f152.ntmps = true by kernel_rfl), _, run_impl_Pack b t⟩

def pf_spec_l1Min : PF := ⟨[.t 4], .seq (.reg [.s (.mv 4 (.k (.v (.c (.int .i64 0)))))]) (.seq (.seq (.reg [.s (.mv 5 (.t 0)), .s (.mv 6 (.t 1)), .s (.bin 7 .lss (.t 5) (.t 6))]) (.cond (.t 7) (.seq (.reg [.s (.mv 8 (.t 0)), .s (.mv 4 (.t 8))]) (.ret)) (.skip))) (.seq (.reg [.s (.mv 9 (.t 1)), .s (.mv 4 (.t 9))]) (.ret)))⟩
def c_spec_l1Min : Fun := ⟨55, [], fun ts K => as2 ts fun t0 t1 => arC (pI .i64) t0 fun a => arC (pI .i64) t1 fun b => K (tN (min a b)) []⟩
theorem run_spec_l1Min (a : Int) (b : Int) : runK [] (0) [] pf_spec_l1Min [tI .i64 a, tI .i64 b] fun r o => r = tN (min a b) ∧ o = [] := by
  conv => whnf
  refine sel_i (fun h => ?_) (fun h => ?_) <;> conv => whnf
  all_goals (refine ⟨?_, rfl⟩; simp at h; congr 3; omega)
theorem ok_spec_l1Min : FunOk Try.prog c_spec_l1Min := funOk (E := []) (envOk_nil) mixd Try.func55 (pf := pf_spec_l1Min) (by kernel_rfl) fun ts K h => by
  obtain ⟨t0, t1, e0, h⟩ := as2_out h
  subst e0
  obtain ⟨a, e1, hq⟩ := arC_out (rd_int .i64) h
  clear h
  subst e1
  have h := hq
  clear hq
  obtain ⟨b, e1, hq⟩ := arC_out (rd_int .i64) h
  clear h
  subst e1
  have h := hq
  clear hq
  exact ⟨_, _, h, Nat.le_of_ble_eq_true (show Nat.ble 2 Try.f55.ntmps = true by kernel_rfl), _, run_spec_l1Min a b⟩

def unpackOk (p : Packed) : Bool := inR p.e 0 6 && inR p.b 0 63 && inR p.l 0 63
def unpack (p : Packed) : Int × Int × Bool := if unpackOk p then (p.b * 2 ^ p.e.toNat, min 4096 ((p.b + p.l) * 2 ^ p.e.toNat), true) else (0, 0, false)
def unpackT (x : Int × Int × Bool) : Tree := .tup [.c (.int .i64 x.1), .c (.int .i64 x.2.1), .c (.bool x.2.2)]
theorem unpack_no {p : Packed} (h : unpackOk p = false) : unpack p = (0, 0, false) := by simp [unpack, h]
theorem unpack_yes {p : Packed} (h : unpackOk p = true) : unpack p = (p.b * 2 ^ p.e.toNat, min 4096 ((p.b + p.l) * 2 ^ p.e.toNat), true) := by simp [unpack, h]

theorem unpack_sh {p : Packed} (h : unpackOk p = true) : IntKind.i64.wrap (p.b * 2 ^ min p.e.toNat IntKind.i64.bits) = p.b * 2 ^ p.e.toNat ∧ IntKind.i64.wrap (IntKind.i64.wrap (p.b + p.l) * 2 ^ min p.e.toNat IntKind.i64.bits) = (p.b + p.l) * 2 ^ p.e.toNat := by
  obtain ⟨pe, pb, pl⟩ := p
  simp [unpackOk, inR] at h
  obtain ⟨e, he⟩ : ∃ e : Nat, pe = e := ⟨pe.toNat, by omega⟩
  subst he
  dsimp only
  have he6 : e ≤ 6 := by omega
  rw [e_min he6, wrap_id (n := pb + pl) (by omega) (by omega)]
  rcases e_cases he6 with rfl | rfl | rfl | rfl | rfl | rfl | rfl <;> simp only [Int.reducePow, Int.pow_zero, Int.toNat_natCast] <;> exact ⟨wrap_id (by omega) (by omega), wrap_id (by omega) (by omega)⟩
def wide (b t : Int) : Int × Int := if boundsOk b t then (if (pack b t).isSome then ((unpack ((pack b t).getD ⟨0, 0, 0⟩)).1, (unpack ((pack b t).getD ⟨0, 0, 0⟩)).2.1) else (0, 4096)) else (0, 0)
theorem pack_isSome {b t : Int} (h : (pack b t).isSome = true) : boundsOk b t = true := by
  by_cases hb : boundsOk b t = true
  · exact hb
  · rw [pack_no (by simpa using hb)] at h; simp at h
def wideT (x : Int × Int) : Tree := .tup [.c (.int .i64 x.1), .c (.int .i64 x.2)]
def exact_ (b t : Int) : Bool := boundsOk b t && decide ((wide b t).1 = b) && decide ((wide b t).2 = t)
def keyOk (k : Key) : Bool := exact_ k.base k.top && inR k.perms 0 63 && inR k.sealed 0 7
def wordOk (w : Word) : Bool := inR w.n 0 65535 && (if w.is then keyOk w.key else decide (w.key = ⟨0, 0, 0, 0⟩))

def pf_spec_Unpack : PF := ⟨[.t 2, .t 3, .t 4], .seq (.reg [.s (.box 1 (.t 0)), .s (.mv 2 (.k (.v (.c (.int .i64 0))))), .s (.mv 3 (.k (.v (.c (.int .i64 0))))), .s (.mv 4 (.k (.v (.c .ff))))]) (.seq (.seq (.reg [.s (.fa 5 (.t 1) 0), .s (.load 6 false 1 (.t 5)), .s (.call (some 7) 101 [(.t 6), (.k (.v (.c (.int .i64 0)))), (.k (.v (.c (.int .i64 6))))]), .s (.bnot 8 (.t 7)), .s (.mv 9 (.t 8)), .g 9 false (some 10) (.fa 10 (.t 1) 1), .g 9 false (some 11) (.load 11 false 1 (.t 10)), .g 9 false (some 12) (.call (some 12) 101 [(.t 11), (.k (.v (.c (.int .i64 0)))), (.k (.v (.c (.int .i64 63))))]), .g 9 false (some 13) (.bnot 13 (.t 12)), .s (.pick 14 (.t 9) (.k (.v (.c .tt))) (.t 13)), .s (.mv 15 (.t 14)), .g 15 false (some 16) (.fa 16 (.t 1) 2), .g 15 false (some 17) (.load 17 false 1 (.t 16)), .g 15 false (some 18) (.call (some 18) 101 [(.t 17), (.k (.v (.c (.int .i64 0)))), (.k (.v (.c (.int .i64 63))))]), .g 15 false (some 19) (.bnot 19 (.t 18)), .s (.pick 20 (.t 15) (.k (.v (.c .tt))) (.t 19))]) (.cond (.t 20) (.seq (.reg [.s (.mv 2 (.k (.v (.c (.int .i64 0))))), .s (.mv 3 (.k (.v (.c (.int .i64 0))))), .s (.mv 4 (.k (.v (.c .ff))))]) (.ret)) (.skip))) (.seq (.rgd [.s (.fa 21 (.t 1) 1), .s (.load 22 false 1 (.t 21)), .s (.fa 23 (.t 1) 0), .s (.load 24 false 1 (.t 23)), .s (.bin 25 .shl (.t 22) (.t 24)), .s (.fa 26 (.t 1) 1), .s (.load 27 false 1 (.t 26)), .s (.fa 28 (.t 1) 2), .s (.load 29 false 1 (.t 28)), .s (.bin 30 .add (.t 27) (.t 29)), .s (.fa 31 (.t 1) 0), .s (.load 32 false 1 (.t 31)), .s (.bin 33 .shl (.t 30) (.t 32)), .s (.call (some 34) 55 [(.t 33), (.k (.v (.c (.int .i64 4096))))]), .s (.mv 2 (.t 25)), .s (.mv 3 (.t 34)), .s (.mv 4 (.k (.v (.c .tt))))] (.tk 0 (.tk 1 (.tk 2 (.tk 3 (.tk 4 (.tk 5 (.tk 6 (.tk 7 (.tk 8 (.tk 9 (.tk 10 (.tk 11 (.tk 12 (.one 13 false (.tk 14 (.tk 15 (.tk 16 (.done none))))))))))))))))))) (.ret)))⟩
def c_spec_Unpack : Fun := ⟨151, [], fun ts K => as1 ts fun t0 => arG pPackedT t0 fun p => K (unpackT (unpack p)) []⟩
theorem run_spec_Unpack (p : Packed) : runK [c_spec_l1Min, c_spec_l1In] (0) [] pf_spec_Unpack [tG (p.tc [])] fun r o => r = unpackT (unpack p) ∧ o = [] := by
  conv => whnf
  repeat' (first | (refine sel_i (fun h => ?_) (fun h => ?_) <;> conv => whnf) | (refine chk_c ?_ ?_ <;> conv => whnf) | (refine And.intro ?_ rfl) | (refine And.intro ?_ ?_ <;> conv => whnf))
  all_goals first
    | (rw [unpack_no (by simp_all [unpackOk])]; rfl)
    | (refine ⟨?_⟩; simp_all [inR]; done)
    | (have hk : unpackOk p = true := by simp_all [unpackOk]
       rw [(unpack_sh hk).1, (unpack_sh hk).2, unpack_yes hk]; rfl)
    | (have hk : unpackOk p = true := by simp_all [unpackOk]
       rw [(unpack_sh hk).1, (unpack_sh hk).2, unpack_yes hk, Int.min_comm]; rfl)
theorem ok_spec_Unpack : FunOk Try.prog c_spec_Unpack := funOk (E := [c_spec_l1Min, c_spec_l1In]) (envOk_cons ok_spec_l1Min (envOk_cons ok_spec_l1In (envOk_nil))) mixd Try.func151 (pf := pf_spec_Unpack) (by kernel_rfl) fun ts K h => by
  obtain ⟨t0, e0, h⟩ := as1_out h
  subst e0
  obtain ⟨p, e1, hq⟩ := arG_out rd_packed h
  clear h
  subst e1
  have h := hq
  clear hq
  exact ⟨_, _, h, Nat.le_of_ble_eq_true (show Nat.ble 1 Try.f151.ntmps = true by kernel_rfl), _, run_spec_Unpack p⟩

def pf_impl_Unpack : PF := ⟨[.t 2, .t 3, .t 4], .seq (.reg [.s (.box 1 (.t 0)), .s (.mv 2 (.k (.v (.c (.int .i64 0))))), .s (.mv 3 (.k (.v (.c (.int .i64 0))))), .s (.mv 4 (.k (.v (.c .ff))))]) (.seq (.seq (.reg [.s (.fa 5 (.t 1) 0), .s (.load 6 false 1 (.t 5)), .s (.call (some 7) 103 [(.t 6), (.k (.v (.c (.int .i64 0)))), (.k (.v (.c (.int .i64 6))))]), .s (.bnot 8 (.t 7)), .s (.mv 9 (.t 8)), .g 9 false (some 10) (.fa 10 (.t 1) 1), .g 9 false (some 11) (.load 11 false 1 (.t 10)), .g 9 false (some 12) (.call (some 12) 103 [(.t 11), (.k (.v (.c (.int .i64 0)))), (.k (.v (.c (.int .i64 63))))]), .g 9 false (some 13) (.bnot 13 (.t 12)), .s (.pick 14 (.t 9) (.k (.v (.c .tt))) (.t 13)), .s (.mv 15 (.t 14)), .g 15 false (some 16) (.fa 16 (.t 1) 2), .g 15 false (some 17) (.load 17 false 1 (.t 16)), .g 15 false (some 18) (.call (some 18) 103 [(.t 17), (.k (.v (.c (.int .i64 0)))), (.k (.v (.c (.int .i64 63))))]), .g 15 false (some 19) (.bnot 19 (.t 18)), .s (.pick 20 (.t 15) (.k (.v (.c .tt))) (.t 19))]) (.cond (.t 20) (.seq (.reg [.s (.mv 2 (.k (.v (.c (.int .i64 0))))), .s (.mv 3 (.k (.v (.c (.int .i64 0))))), .s (.mv 4 (.k (.v (.c .ff))))]) (.ret)) (.skip))) (.seq (.rgd [.s (.fa 21 (.t 1) 1), .s (.load 22 false 1 (.t 21)), .s (.fa 23 (.t 1) 0), .s (.load 24 false 1 (.t 23)), .s (.bin 25 .shl (.t 22) (.t 24)), .s (.fa 26 (.t 1) 1), .s (.load 27 false 1 (.t 26)), .s (.fa 28 (.t 1) 2), .s (.load 29 false 1 (.t 28)), .s (.bin 30 .add (.t 27) (.t 29)), .s (.fa 31 (.t 1) 0), .s (.load 32 false 1 (.t 31)), .s (.bin 33 .shl (.t 30) (.t 32)), .s (.mm 34 false (.k (.v (.c (.int .i64 4096)))) (.t 33)), .s (.mv 2 (.t 25)), .s (.mv 3 (.t 34)), .s (.mv 4 (.k (.v (.c .tt))))] (.tk 0 (.tk 1 (.tk 2 (.tk 3 (.tk 4 (.tk 5 (.tk 6 (.tk 7 (.tk 8 (.tk 9 (.tk 10 (.tk 11 (.tk 12 (.tk 13 (.tk 14 (.tk 15 (.tk 16 (.done none))))))))))))))))))) (.ret)))⟩
def c_impl_Unpack : Fun := ⟨153, [], fun ts K => as1 ts fun t0 => arG pPackedT t0 fun p => K (unpackT (unpack p)) []⟩
theorem run_impl_Unpack (p : Packed) : runK [c_impl_in] (0) [] pf_impl_Unpack [tG (p.tc [])] fun r o => r = unpackT (unpack p) ∧ o = [] := by
  conv => whnf
  repeat' (first | (refine sel_i (fun h => ?_) (fun h => ?_) <;> conv => whnf) | (refine chk_c ?_ ?_ <;> conv => whnf) | (refine And.intro ?_ rfl) | (refine And.intro ?_ ?_ <;> conv => whnf))
  all_goals first
    | (rw [unpack_no (by simp_all [unpackOk])]; rfl)
    | (refine ⟨?_⟩; simp_all [inR]; done)
    | (have hk : unpackOk p = true := by simp_all [unpackOk]
       rw [(unpack_sh hk).1, (unpack_sh hk).2, unpack_yes hk]; rfl)
    | (have hk : unpackOk p = true := by simp_all [unpackOk]
       rw [(unpack_sh hk).1, (unpack_sh hk).2, unpack_yes hk, Int.min_comm]; rfl)
theorem ok_impl_Unpack : FunOk Try.prog c_impl_Unpack := funOk (E := [c_impl_in]) (envOk_cons ok_impl_in (envOk_nil)) mixd Try.func153 (pf := pf_impl_Unpack) (by kernel_rfl) fun ts K h => by
  obtain ⟨t0, e0, h⟩ := as1_out h
  subst e0
  obtain ⟨p, e1, hq⟩ := arG_out rd_packed h
  clear h
  subst e1
  have h := hq
  clear hq
  exact ⟨_, _, h, Nat.le_of_ble_eq_true (show Nat.ble 1 Try.f153.ntmps = true by kernel_rfl), _, run_impl_Unpack p⟩

def pf_spec_Wide : PF := ⟨[.t 4, .t 5], .seq (.reg [.s (.mv 4 (.k (.v (.c (.int .i64 0))))), .s (.mv 5 (.k (.v (.c (.int .i64 0)))))]) (.seq (.reg [.s (.mv 12 (.t 0)), .s (.mv 13 (.t 1)), .s (.call (some 14) 150 [(.t 12), (.t 13)]), .s (.mv 11 (.t 14)), .s (.ext 15 (.t 11) 0), .s (.ext 16 (.t 11) 1), .s (.alloc 6 [.int .i64 0, .int .i64 0, .int .i64 0]), .s (.store 3 (.t 6) (.t 15)), .s (.mv 7 (.t 16))]) (.seq (.seq (.reg [.s (.mv 17 (.t 7)), .s (.bnot 18 (.t 17))]) (.cond (.t 18) (.seq (.seq (.reg [.s (.mv 19 (.t 0)), .s (.mv 20 (.t 1)), .s (.call (some 21) 145 [(.t 19), (.t 20)])]) (.cond (.t 21) (.seq (.reg [.s (.mv 4 (.k (.v (.c (.int .i64 0))))), .s (.mv 5 (.k (.v (.c (.int .i64 4096)))))]) (.ret)) (.skip))) (.seq (.reg [.s (.mv 4 (.k (.v (.c (.int .i64 0))))), .s (.mv 5 (.k (.v (.c (.int .i64 0)))))]) (.ret))) (.skip))) (.seq (.reg [.s (.load 23 true 3 (.t 6)), .s (.call (some 24) 151 [(.t 23)]), .s (.mv 22 (.t 24)), .s (.ext 25 (.t 22) 0), .s (.ext 26 (.t 22) 1), .s (.ext 27 (.t 22) 2), .s (.mv 8 (.t 25)), .s (.mv 9 (.t 26)), .s (.mv 10 (.t 27))]) (.seq (.reg [.s (.mv 28 (.t 8)), .s (.mv 29 (.t 9)), .s (.mv 4 (.t 28)), .s (.mv 5 (.t 29))]) (.ret)))))⟩
def c_spec_Wide : Fun := ⟨144, [], fun ts K => as2 ts fun t0 t1 => arC (pI .i64) t0 fun b => arC (pI .i64) t1 fun t => K (wideT (wide b t)) []⟩
theorem run_spec_Wide (b : Int) (t : Int) : runK [c_spec_BoundsOk, c_spec_Pack, c_spec_Unpack] (0) [] pf_spec_Wide [tI .i64 b, tI .i64 t] fun r o => r = wideT (wide b t) ∧ o = [] := by
  conv => whnf
  repeat' (first | (refine sel_i (fun h => ?_) (fun h => ?_) <;> conv => whnf) | (refine chk_c ?_ ?_ <;> conv => whnf) | (refine And.intro ?_ rfl) | (refine And.intro ?_ ?_ <;> conv => whnf))
  all_goals ((try simp only [etaPacked]); first | (simp_all [wide, wideT]; done) | (have hb := pack_isSome (b := b) (t := t) (by simpa using h); simp_all [wide, wideT]; done))
theorem ok_spec_Wide : FunOk Try.prog c_spec_Wide := funOk (E := [c_spec_BoundsOk, c_spec_Pack, c_spec_Unpack]) (envOk_cons ok_spec_BoundsOk (envOk_cons ok_spec_Pack (envOk_cons ok_spec_Unpack (envOk_nil)))) mixd Try.func144 (pf := pf_spec_Wide) (by kernel_rfl) fun ts K h => by
  obtain ⟨t0, t1, e0, h⟩ := as2_out h
  subst e0
  obtain ⟨b, e1, hq⟩ := arC_out (rd_int .i64) h
  clear h
  subst e1
  have h := hq
  clear hq
  obtain ⟨t, e1, hq⟩ := arC_out (rd_int .i64) h
  clear h
  subst e1
  have h := hq
  clear hq
  exact ⟨_, _, h, Nat.le_of_ble_eq_true (show Nat.ble 2 Try.f144.ntmps = true by kernel_rfl), _, run_spec_Wide b t⟩

def pf_impl_Wide : PF := ⟨[.t 4, .t 5], .seq (.reg [.s (.mv 4 (.k (.v (.c (.int .i64 0))))), .s (.mv 5 (.k (.v (.c (.int .i64 0)))))]) (.seq (.seq (.reg [.s (.mv 11 (.t 0)), .s (.mv 12 (.t 1)), .s (.call (some 13) 147 [(.t 11), (.t 12)]), .s (.bnot 14 (.t 13))]) (.cond (.t 14) (.seq (.reg [.s (.mv 4 (.k (.v (.c (.int .i64 0))))), .s (.mv 5 (.k (.v (.c (.int .i64 0)))))]) (.ret)) (.skip))) (.seq (.reg [.s (.mv 16 (.t 0)), .s (.mv 17 (.t 1)), .s (.call (some 18) 152 [(.t 16), (.t 17)]), .s (.mv 15 (.t 18)), .s (.ext 19 (.t 15) 0), .s (.ext 20 (.t 15) 1), .s (.alloc 6 [.int .i64 0, .int .i64 0, .int .i64 0]), .s (.store 3 (.t 6) (.t 19)), .s (.mv 7 (.t 20))]) (.seq (.seq (.reg [.s (.mv 21 (.t 7)), .s (.bnot 22 (.t 21))]) (.cond (.t 22) (.seq (.reg [.s (.mv 4 (.k (.v (.c (.int .i64 0))))), .s (.mv 5 (.k (.v (.c (.int .i64 4096)))))]) (.ret)) (.skip))) (.seq (.reg [.s (.load 24 true 3 (.t 6)), .s (.call (some 25) 153 [(.t 24)]), .s (.mv 23 (.t 25)), .s (.ext 26 (.t 23) 0), .s (.ext 27 (.t 23) 1), .s (.ext 28 (.t 23) 2), .s (.mv 8 (.t 26)), .s (.mv 9 (.t 27)), .s (.mv 10 (.t 28))]) (.seq (.reg [.s (.mv 29 (.t 8)), .s (.mv 30 (.t 9)), .s (.mv 4 (.t 29)), .s (.mv 5 (.t 30))]) (.ret))))))⟩
def c_impl_Wide : Fun := ⟨146, [], fun ts K => as2 ts fun t0 t1 => arC (pI .i64) t0 fun b => arC (pI .i64) t1 fun t => K (wideT (wide b t)) []⟩
theorem run_impl_Wide (b : Int) (t : Int) : runK [c_impl_BoundsOk, c_impl_Pack, c_impl_Unpack] (0) [] pf_impl_Wide [tI .i64 b, tI .i64 t] fun r o => r = wideT (wide b t) ∧ o = [] := by
  conv => whnf
  repeat' (first | (refine sel_i (fun h => ?_) (fun h => ?_) <;> conv => whnf) | (refine chk_c ?_ ?_ <;> conv => whnf) | (refine And.intro ?_ rfl) | (refine And.intro ?_ ?_ <;> conv => whnf))
  all_goals ((try simp only [etaPacked]); first | (simp_all [wide, wideT]; done) | (have hb := pack_isSome (b := b) (t := t) (by simpa using h); simp_all [wide, wideT]; done))
theorem ok_impl_Wide : FunOk Try.prog c_impl_Wide := funOk (E := [c_impl_BoundsOk, c_impl_Pack, c_impl_Unpack]) (envOk_cons ok_impl_BoundsOk (envOk_cons ok_impl_Pack (envOk_cons ok_impl_Unpack (envOk_nil)))) mixd Try.func146 (pf := pf_impl_Wide) (by kernel_rfl) fun ts K h => by
  obtain ⟨t0, t1, e0, h⟩ := as2_out h
  subst e0
  obtain ⟨b, e1, hq⟩ := arC_out (rd_int .i64) h
  clear h
  subst e1
  have h := hq
  clear hq
  obtain ⟨t, e1, hq⟩ := arC_out (rd_int .i64) h
  clear h
  subst e1
  have h := hq
  clear hq
  exact ⟨_, _, h, Nat.le_of_ble_eq_true (show Nat.ble 2 Try.f146.ntmps = true by kernel_rfl), _, run_impl_Wide b t⟩

def pf_spec_Exact : PF := ⟨[.t 4], .seq (.reg [.s (.mv 4 (.k (.v (.c .ff))))]) (.seq (.reg [.s (.mv 8 (.t 0)), .s (.mv 9 (.t 1)), .s (.call (some 10) 144 [(.t 8), (.t 9)]), .s (.mv 7 (.t 10)), .s (.ext 11 (.t 7) 0), .s (.ext 12 (.t 7) 1), .s (.mv 5 (.t 11)), .s (.mv 6 (.t 12))]) (.seq (.reg [.s (.mv 13 (.t 0)), .s (.mv 14 (.t 1)), .s (.call (some 15) 145 [(.t 13), (.t 14)]), .s (.mv 16 (.t 15)), .g 16 true (some 17) (.mv 17 (.t 5)), .g 16 true (some 18) (.mv 18 (.t 0)), .g 16 true (some 19) (.bin 19 .eql (.t 17) (.t 18)), .s (.pick 20 (.t 16) (.t 19) (.k (.v (.c .ff)))), .s (.mv 21 (.t 20)), .g 21 true (some 22) (.mv 22 (.t 6)), .g 21 true (some 23) (.mv 23 (.t 1)), .g 21 true (some 24) (.bin 24 .eql (.t 22) (.t 23)), .s (.pick 25 (.t 21) (.t 24) (.k (.v (.c .ff)))), .s (.mv 4 (.t 25))]) (.ret)))⟩
def c_spec_Exact : Fun := ⟨135, [], fun ts K => as2 ts fun t0 t1 => arC (pI .i64) t0 fun b => arC (pI .i64) t1 fun t => K (tB (exact_ b t)) []⟩
theorem run_spec_Exact (b : Int) (t : Int) : runK [c_spec_Wide, c_spec_BoundsOk] (0) [] pf_spec_Exact [tI .i64 b, tI .i64 t] fun r o => r = tB (exact_ b t) ∧ o = [] := by
  conv => whnf
  repeat' (first | (refine sel_i (fun h => ?_) (fun h => ?_) <;> conv => whnf) | (refine chk_c ?_ ?_ <;> conv => whnf) | (refine And.intro ?_ rfl) | (refine And.intro ?_ ?_ <;> conv => whnf))
  all_goals ((try simp only [beqI]); simp_all [exact_]; done)
theorem ok_spec_Exact : FunOk Try.prog c_spec_Exact := funOk (E := [c_spec_Wide, c_spec_BoundsOk]) (envOk_cons ok_spec_Wide (envOk_cons ok_spec_BoundsOk (envOk_nil))) mixd Try.func135 (pf := pf_spec_Exact) (by kernel_rfl) fun ts K h => by
  obtain ⟨t0, t1, e0, h⟩ := as2_out h
  subst e0
  obtain ⟨b, e1, hq⟩ := arC_out (rd_int .i64) h
  clear h
  subst e1
  have h := hq
  clear hq
  obtain ⟨t, e1, hq⟩ := arC_out (rd_int .i64) h
  clear h
  subst e1
  have h := hq
  clear hq
  exact ⟨_, _, h, Nat.le_of_ble_eq_true (show Nat.ble 2 Try.f135.ntmps = true by kernel_rfl), _, run_spec_Exact b t⟩

def pf_impl_Exact : PF := ⟨[.t 4], .seq (.reg [.s (.mv 4 (.k (.v (.c .ff))))]) (.seq (.reg [.s (.mv 8 (.t 0)), .s (.mv 9 (.t 1)), .s (.call (some 10) 146 [(.t 8), (.t 9)]), .s (.mv 7 (.t 10)), .s (.ext 11 (.t 7) 0), .s (.ext 12 (.t 7) 1), .s (.mv 5 (.t 11)), .s (.mv 6 (.t 12))]) (.seq (.reg [.s (.mv 13 (.t 0)), .s (.mv 14 (.t 1)), .s (.call (some 15) 147 [(.t 13), (.t 14)]), .s (.mv 16 (.t 15)), .g 16 true (some 17) (.mv 17 (.t 5)), .g 16 true (some 18) (.mv 18 (.t 0)), .g 16 true (some 19) (.bin 19 .eql (.t 17) (.t 18)), .s (.pick 20 (.t 16) (.t 19) (.k (.v (.c .ff)))), .s (.mv 21 (.t 20)), .g 21 true (some 22) (.mv 22 (.t 6)), .g 21 true (some 23) (.mv 23 (.t 1)), .g 21 true (some 24) (.bin 24 .eql (.t 22) (.t 23)), .s (.pick 25 (.t 21) (.t 24) (.k (.v (.c .ff)))), .s (.mv 4 (.t 25))]) (.ret)))⟩
def c_impl_Exact : Fun := ⟨136, [], fun ts K => as2 ts fun t0 t1 => arC (pI .i64) t0 fun b => arC (pI .i64) t1 fun t => K (tB (exact_ b t)) []⟩
theorem run_impl_Exact (b : Int) (t : Int) : runK [c_impl_Wide, c_impl_BoundsOk] (0) [] pf_impl_Exact [tI .i64 b, tI .i64 t] fun r o => r = tB (exact_ b t) ∧ o = [] := by
  conv => whnf
  repeat' (first | (refine sel_i (fun h => ?_) (fun h => ?_) <;> conv => whnf) | (refine chk_c ?_ ?_ <;> conv => whnf) | (refine And.intro ?_ rfl) | (refine And.intro ?_ ?_ <;> conv => whnf))
  all_goals ((try simp only [beqI]); simp_all [exact_]; done)
theorem ok_impl_Exact : FunOk Try.prog c_impl_Exact := funOk (E := [c_impl_Wide, c_impl_BoundsOk]) (envOk_cons ok_impl_Wide (envOk_cons ok_impl_BoundsOk (envOk_nil))) mixd Try.func136 (pf := pf_impl_Exact) (by kernel_rfl) fun ts K h => by
  obtain ⟨t0, t1, e0, h⟩ := as2_out h
  subst e0
  obtain ⟨b, e1, hq⟩ := arC_out (rd_int .i64) h
  clear h
  subst e1
  have h := hq
  clear hq
  obtain ⟨t, e1, hq⟩ := arC_out (rd_int .i64) h
  clear h
  subst e1
  have h := hq
  clear hq
  exact ⟨_, _, h, Nat.le_of_ble_eq_true (show Nat.ble 2 Try.f136.ntmps = true by kernel_rfl), _, run_impl_Exact b t⟩

def pf_spec_KeyOk : PF := ⟨[.t 2], .seq (.reg [.s (.box 1 (.t 0)), .s (.mv 2 (.k (.v (.c .ff))))]) (.seq (.reg [.s (.fa 3 (.t 1) 0), .s (.load 4 false 1 (.t 3)), .s (.fa 5 (.t 1) 1), .s (.load 6 false 1 (.t 5)), .s (.call (some 7) 135 [(.t 4), (.t 6)]), .s (.mv 8 (.t 7)), .g 8 true (some 9) (.fa 9 (.t 1) 2), .g 8 true (some 10) (.load 10 false 1 (.t 9)), .g 8 true (some 11) (.call (some 11) 101 [(.t 10), (.k (.v (.c (.int .i64 0)))), (.k (.v (.c (.int .i64 63))))]), .s (.pick 12 (.t 8) (.t 11) (.k (.v (.c .ff)))), .s (.mv 13 (.t 12)), .g 13 true (some 14) (.fa 14 (.t 1) 3), .g 13 true (some 15) (.load 15 false 1 (.t 14)), .g 13 true (some 16) (.call (some 16) 101 [(.t 15), (.k (.v (.c (.int .i64 0)))), (.k (.v (.c (.int .i64 7))))]), .s (.pick 17 (.t 13) (.t 16) (.k (.v (.c .ff)))), .s (.mv 2 (.t 17))]) (.ret))⟩
def c_spec_KeyOk : Fun := ⟨107, [], fun ts K => as1 ts fun t0 => arG pKeyT t0 fun k => K (tB (keyOk k)) []⟩
theorem run_spec_KeyOk (k : Key) : runK [c_spec_l1In, c_spec_Exact] (0) [] pf_spec_KeyOk [tG (k.tc [])] fun r o => r = tB (keyOk k) ∧ o = [] := by
  conv => whnf
  repeat' (first | (refine sel_i (fun h => ?_) (fun h => ?_) <;> conv => whnf) | (refine chk_c ?_ ?_ <;> conv => whnf) | (refine And.intro ?_ rfl) | (refine And.intro ?_ ?_ <;> conv => whnf))
  all_goals (simp_all [keyOk]; done)
theorem ok_spec_KeyOk : FunOk Try.prog c_spec_KeyOk := funOk (E := [c_spec_l1In, c_spec_Exact]) (envOk_cons ok_spec_l1In (envOk_cons ok_spec_Exact (envOk_nil))) mixd Try.func107 (pf := pf_spec_KeyOk) (by kernel_rfl) fun ts K h => by
  obtain ⟨t0, e0, h⟩ := as1_out h
  subst e0
  obtain ⟨k, e1, hq⟩ := arG_out rd_key h
  clear h
  subst e1
  have h := hq
  clear hq
  exact ⟨_, _, h, Nat.le_of_ble_eq_true (show Nat.ble 1 Try.f107.ntmps = true by kernel_rfl), _, run_spec_KeyOk k⟩

def pf_impl_KeyOk : PF := ⟨[.t 2], .seq (.reg [.s (.box 1 (.t 0)), .s (.mv 2 (.k (.v (.c .ff))))]) (.seq (.reg [.s (.fa 3 (.t 1) 0), .s (.load 4 false 1 (.t 3)), .s (.fa 5 (.t 1) 1), .s (.load 6 false 1 (.t 5)), .s (.call (some 7) 136 [(.t 4), (.t 6)]), .s (.mv 8 (.t 7)), .g 8 true (some 9) (.fa 9 (.t 1) 2), .g 8 true (some 10) (.load 10 false 1 (.t 9)), .g 8 true (some 11) (.call (some 11) 103 [(.t 10), (.k (.v (.c (.int .i64 0)))), (.k (.v (.c (.int .i64 63))))]), .s (.pick 12 (.t 8) (.t 11) (.k (.v (.c .ff)))), .s (.mv 13 (.t 12)), .g 13 true (some 14) (.fa 14 (.t 1) 3), .g 13 true (some 15) (.load 15 false 1 (.t 14)), .g 13 true (some 16) (.call (some 16) 103 [(.t 15), (.k (.v (.c (.int .i64 0)))), (.k (.v (.c (.int .i64 7))))]), .s (.pick 17 (.t 13) (.t 16) (.k (.v (.c .ff)))), .s (.mv 2 (.t 17))]) (.ret))⟩
def c_impl_KeyOk : Fun := ⟨110, [], fun ts K => as1 ts fun t0 => arG pKeyT t0 fun k => K (tB (keyOk k)) []⟩
theorem run_impl_KeyOk (k : Key) : runK [c_impl_in, c_impl_Exact] (0) [] pf_impl_KeyOk [tG (k.tc [])] fun r o => r = tB (keyOk k) ∧ o = [] := by
  conv => whnf
  repeat' (first | (refine sel_i (fun h => ?_) (fun h => ?_) <;> conv => whnf) | (refine chk_c ?_ ?_ <;> conv => whnf) | (refine And.intro ?_ rfl) | (refine And.intro ?_ ?_ <;> conv => whnf))
  all_goals (simp_all [keyOk]; done)
theorem ok_impl_KeyOk : FunOk Try.prog c_impl_KeyOk := funOk (E := [c_impl_in, c_impl_Exact]) (envOk_cons ok_impl_in (envOk_cons ok_impl_Exact (envOk_nil))) mixd Try.func110 (pf := pf_impl_KeyOk) (by kernel_rfl) fun ts K h => by
  obtain ⟨t0, e0, h⟩ := as1_out h
  subst e0
  obtain ⟨k, e1, hq⟩ := arG_out rd_key h
  clear h
  subst e1
  have h := hq
  clear hq
  exact ⟨_, _, h, Nat.le_of_ble_eq_true (show Nat.ble 1 Try.f110.ntmps = true by kernel_rfl), _, run_impl_KeyOk k⟩

def pf_spec_WordOk : PF := ⟨[.t 2], .seq (.reg [.s (.box 1 (.t 0)), .s (.mv 2 (.k (.v (.c .ff))))]) (.seq (.reg [.s (.fa 3 (.t 1) 0), .s (.load 4 false 1 (.t 3)), .s (.call (some 5) 101 [(.t 4), (.k (.v (.c (.int .i64 0)))), (.k (.v (.c (.int .i64 65535))))]), .s (.mv 6 (.t 5)), .g 6 true (some 7) (.fa 7 (.t 1) 1), .g 6 true (some 8) (.load 8 false 1 (.t 7)), .g 6 true (some 9) (.mv 9 (.t 8)), .g 9 true (some 10) (.fa 10 (.t 1) 2), .g 9 true (some 11) (.load 11 true 4 (.t 10)), .g 9 true (some 12) (.call (some 12) 107 [(.t 11)]), .g 6 true (some 13) (.pick 13 (.t 9) (.t 12) (.k (.v (.c .ff)))), .g 6 true (some 14) (.mv 14 (.t 13)), .g 14 false (some 15) (.fa 15 (.t 1) 1), .g 14 false (some 16) (.load 16 false 1 (.t 15)), .g 14 false (some 17) (.bnot 17 (.t 16)), .g 14 false (some 18) (.mv 18 (.t 17)), .g 18 true (some 19) (.fa 19 (.t 1) 2), .g 18 true (some 20) (.load 20 true 4 (.t 19)), .g 18 true (some 21) (.build 21 [.int .i64 0, .int .i64 0, .int .i64 0, .int .i64 0] []), .g 18 true (some 22) (.eqs 22 true [.i, .i, .i, .i] false (.t 20) (.t 21)), .g 14 false (some 23) (.pick 23 (.t 18) (.t 22) (.k (.v (.c .ff)))), .g 6 true (some 24) (.pick 24 (.t 14) (.k (.v (.c .tt))) (.t 23)), .s (.pick 25 (.t 6) (.t 24) (.k (.v (.c .ff)))), .s (.mv 2 (.t 25))]) (.ret))⟩
def c_spec_WordOk : Fun := ⟨53, [], fun ts K => as1 ts fun t0 => arG pWordT t0 fun w => K (tB (wordOk w)) []⟩
theorem run_spec_WordOk (w : Word) : runK [c_spec_l1In, c_spec_KeyOk] (0) [] pf_spec_WordOk [tG (w.tc [])] fun r o => r = tB (wordOk w) ∧ o = [] := by
  conv => whnf
  repeat' (first | (refine sel_i (fun h => ?_) (fun h => ?_) <;> conv => whnf) | (refine chk_c ?_ ?_ <;> conv => whnf) | (refine And.intro ?_ rfl) | (refine And.intro ?_ ?_ <;> conv => whnf))
  all_goals (try simp only [etaKey, keyEq0] at *); first | rfl | (simp_all [wordOk]; done) | trace_state
theorem ok_spec_WordOk : FunOk Try.prog c_spec_WordOk := funOk (E := [c_spec_l1In, c_spec_KeyOk]) (envOk_cons ok_spec_l1In (envOk_cons ok_spec_KeyOk (envOk_nil))) mixd Try.func53 (pf := pf_spec_WordOk) (by kernel_rfl) fun ts K h => by
  obtain ⟨t0, e0, h⟩ := as1_out h
  subst e0
  obtain ⟨w, e1, hq⟩ := arG_out rd_word h
  clear h
  subst e1
  have h := hq
  clear hq
  exact ⟨_, _, h, Nat.le_of_ble_eq_true (show Nat.ble 1 Try.f53.ntmps = true by kernel_rfl), _, run_spec_WordOk w⟩

def pf_impl_WordOk : PF := ⟨[.t 2], .seq (.reg [.s (.box 1 (.t 0)), .s (.mv 2 (.k (.v (.c .ff))))]) (.seq (.seq (.reg [.s (.fa 3 (.t 1) 1), .s (.load 4 false 1 (.t 3))]) (.cond (.t 4) (.seq (.reg [.s (.fa 5 (.t 1) 0), .s (.load 6 false 1 (.t 5)), .s (.call (some 7) 103 [(.t 6), (.k (.v (.c (.int .i64 0)))), (.k (.v (.c (.int .i64 65535))))]), .s (.mv 8 (.t 7)), .g 8 true (some 9) (.fa 9 (.t 1) 2), .g 8 true (some 10) (.load 10 true 4 (.t 9)), .g 8 true (some 11) (.call (some 11) 110 [(.t 10)]), .s (.pick 12 (.t 8) (.t 11) (.k (.v (.c .ff)))), .s (.mv 2 (.t 12))]) (.ret)) (.skip))) (.seq (.reg [.s (.fa 13 (.t 1) 0), .s (.load 14 false 1 (.t 13)), .s (.call (some 15) 103 [(.t 14), (.k (.v (.c (.int .i64 0)))), (.k (.v (.c (.int .i64 65535))))]), .s (.mv 16 (.t 15)), .g 16 true (some 17) (.fa 17 (.t 1) 2), .g 16 true (some 18) (.load 18 true 4 (.t 17)), .g 16 true (some 19) (.build 19 [.int .i64 0, .int .i64 0, .int .i64 0, .int .i64 0] []), .g 16 true (some 20) (.eqs 20 true [.i, .i, .i, .i] false (.t 18) (.t 19)), .s (.pick 21 (.t 16) (.t 20) (.k (.v (.c .ff)))), .s (.mv 2 (.t 21))]) (.ret)))⟩
def c_impl_WordOk : Fun := ⟨60, [], fun ts K => as1 ts fun t0 => arG pWordT t0 fun w => K (tB (wordOk w)) []⟩
theorem run_impl_WordOk (w : Word) : runK [c_impl_in, c_impl_KeyOk] (0) [] pf_impl_WordOk [tG (w.tc [])] fun r o => r = tB (wordOk w) ∧ o = [] := by
  conv => whnf
  repeat' (first | (refine sel_i (fun h => ?_) (fun h => ?_) <;> conv => whnf) | (refine chk_c ?_ ?_ <;> conv => whnf) | (refine And.intro ?_ rfl) | (refine And.intro ?_ ?_ <;> conv => whnf))
  all_goals (try simp only [etaKey, keyEq0] at *); first | rfl | (simp_all [wordOk]; done) | trace_state
theorem ok_impl_WordOk : FunOk Try.prog c_impl_WordOk := funOk (E := [c_impl_in, c_impl_KeyOk]) (envOk_cons ok_impl_in (envOk_cons ok_impl_KeyOk (envOk_nil))) mixd Try.func60 (pf := pf_impl_WordOk) (by kernel_rfl) fun ts K h => by
  obtain ⟨t0, e0, h⟩ := as1_out h
  subst e0
  obtain ⟨w, e1, hq⟩ := arG_out rd_word h
  clear h
  subst e1
  have h := hq
  clear hq
  exact ⟨_, _, h, Nat.le_of_ble_eq_true (show Nat.ble 1 Try.f60.ntmps = true by kernel_rfl), _, run_impl_WordOk w⟩
end Go.Pi
