/- Contracts of functions, each out of its run by PI. No conditions. -/
import Derived.Test.YtgpchgakonpcfaaGreatDoorC3
namespace Go.Pi
open Go.Proofs
set_option linter.unusedVariables false
set_option linter.unusedSimpArgs false
set_option maxRecDepth 100000
attribute [local irreducible] iterN
def keyWord (k : Key) (n : Int) : Word := if keyOk k then ⟨andI n 65535, true, k⟩ else plainW n
def stateNew : State := ⟨(List.replicate 8 zW).set 0 (keyWord ⟨0, 24, 59, 0⟩ 0), keyWord ⟨0, 48, 4, 0⟩ 0, memNew, 0⟩
def pf_i_KeyWord : PF := ⟨[.c 4 true 6], .r [.box 2 0, .alloc 4 zcW] (.r [.m 6 1, .c 7 221 [6], .alloc 5 zcW, .o 6 5 7] (.seq (.r [.L 8 4 2, .c 9 115 [8]] (.cond 9 (.rgd [] [.L 10 4 2, .f 11 5 1, .s (.store 1 11 .T), .f 12 5 2, .o 4 12 10] (.tk 1 (.alt 0 false (.one 2 true (.tk 3 (.one 4 true (.done (some [4, 5]))))) (.alt 2 true (.one 0 true (.tk 3 (.one 4 true (.done (some [4, 5]))))) .nil)))) .skip)) (.r [.L 13 6 5, .o 6 4 13] .ret)))⟩
def c_i_KeyWord : Fun := ⟨177, [], fun ts K => as2 ts fun t0 t1 => arG pKeyT t0 fun k => arC (pI .i64) t1 fun n => K (tG ((keyWord k n).tc [])) []⟩
theorem run_i_KeyWord (k : Key) (n : Int) : runK [c_i_KeyOk, c_i_Plain] (0) [] pf_i_KeyWord [tG (k.tc []), tI .i64 n] fun r o => r = tG ((keyWord k n).tc []) ∧ o = [] := by
  conv => whnf
  repeat' (first | ((first | refine sel_i (fun h => ?_) (fun h => ?_) | refine chk_c ?_ ?_) <;> conv => whnf) | refine And.intro ?_ rfl | (refine And.intro ?_ ?_ <;> conv => whnf))
  all_goals (try simp only [etaKey, etaWord] at *)
  all_goals first
    | (unfold keyWord; rw [if_pos h]; rfl)
    | (unfold keyWord; rw [if_neg (by rw [h]; decide)]; rfl)
    | trace_state
theorem ok_i_KeyWord : FunOk Tryz.prog c_i_KeyWord := funOk (eK ok_i_KeyOk (eK ok_i_Plain eN)) mixd Tryz.func177 (pf := pf_i_KeyWord) (by kernel_rfl) fun ts K h => by
  obtain ⟨t0, t1, rfl, q0⟩ := as2_out h
  obtain ⟨k, rfl, q1⟩ := arG_out rd_key q0
  obtain ⟨n, rfl, q2⟩ := arC_out (rd_int .i64) q1
  exact ⟨_, _, q2, nb 2 Tryz.f177 (by kernel_rfl), _, run_i_KeyWord k n⟩

def pf_s_KeyWord : PF := ⟨[.c 4 true 6], .r [.box 2 0, .alloc 4 zcW] (.r [.m 6 1, .c 7 150 [6], .alloc 5 zcW, .o 6 5 7] (.seq (.r [.L 8 4 2, .c 9 90 [8]] (.cond 9 (.r [.f 10 5 1, .s (.store 1 10 .T)] (.reg [.L 11 4 2, .f 12 5 2, .o 4 12 11])) .skip)) (.r [.L 13 6 5, .o 6 4 13] .ret)))⟩
def c_s_KeyWord : Fun := ⟨143, [], fun ts K => as2 ts fun t0 t1 => arG pKeyT t0 fun k => arC (pI .i64) t1 fun n => K (tG ((keyWord k n).tc [])) []⟩
theorem run_s_KeyWord (k : Key) (n : Int) : runK [c_s_KeyOk, c_s_Plain] (0) [] pf_s_KeyWord [tG (k.tc []), tI .i64 n] fun r o => r = tG ((keyWord k n).tc []) ∧ o = [] := by
  conv => whnf
  repeat' (first | ((first | refine sel_i (fun h => ?_) (fun h => ?_) | refine chk_c ?_ ?_) <;> conv => whnf) | refine And.intro ?_ rfl | (refine And.intro ?_ ?_ <;> conv => whnf))
  all_goals (try simp only [etaKey, etaWord] at *)
  all_goals first
    | (unfold keyWord; rw [if_pos h]; rfl)
    | (unfold keyWord; rw [if_neg (by rw [h]; decide)]; rfl)
    | trace_state
theorem ok_s_KeyWord : FunOk Tryz.prog c_s_KeyWord := funOk (eK ok_s_KeyOk (eK ok_s_Plain eN)) mixd Tryz.func143 (pf := pf_s_KeyWord) (by kernel_rfl) fun ts K h => by
  obtain ⟨t0, t1, rfl, q0⟩ := as2_out h
  obtain ⟨k, rfl, q1⟩ := arG_out rd_key q0
  obtain ⟨n, rfl, q2⟩ := arC_out (rd_int .i64) q1
  exact ⟨_, _, q2, nb 2 Tryz.f143 (by kernel_rfl), _, run_s_KeyWord k n⟩

def pf_i_StateNew : PF := ⟨[.c 0 true 10], .r [.alloc 0 zcS] (.seq (.rgd [] [.s (.mkS 2 .word (.i 8)), .c 3 176 [], .build 4 zcS [(0, 1, 2), (7, 2, 3)], .alloc 1 zcS, .o 10 1 4] (.alt 0 false (.alt 1 false (.tk 2 (.one 3 true (.one 4 true (.done (some [0, 1]))))) (.alt 3 false (.one 1 true (.tk 2 (.one 4 true (.done (some [0, 1]))))) .nil)) (.alt 1 false (.alt 0 false (.tk 2 (.one 3 true (.one 4 true (.done (some [0, 1]))))) (.alt 3 false (.one 0 true (.tk 2 (.one 4 true (.done (some [0, 1]))))) .nil)) (.alt 3 false (.alt 0 false (.one 1 true (.tk 2 (.one 4 true (.done (some [0, 1]))))) (.alt 1 false (.one 0 true (.tk 2 (.one 4 true (.done (some [0, 1]))))) .nil)) .nil)))) (.seq (.rgd [] [.f 5 1 0, .l 6 1 5, .build 7 zcK [(1, 1, (.i 24)), (2, 1, (.i 59))], .c 8 177 [7, (.i 0)], .ia 9 .word 6 (.i 0), .o 6 9 8] (.ts [0, 1, 2] (.one 3 false (.tk 4 (.one 5 true .d))))) (.r [.build 10 zcK [(1, 1, (.i 48)), (2, 1, (.i 4))], .c 11 177 [10, (.i 0)], .f 12 1 1, .o 6 12 11] (.r [.L 13 10 1, .o 10 0 13] .ret))))⟩
def c_i_StateNew : Fun := ⟨124, [], fun ts K => as0 ts (K (tG (stateNew.tc true [])) [])⟩
theorem run_i_StateNew  : runK [c_i_MemoryNew, c_i_KeyWord] (0) [] pf_i_StateNew [] fun r o => r = tG (stateNew.tc true []) ∧ o = [] := by
  conv => whnf
  repeat' (first | ((first | refine sel_i (fun h => ?_) (fun h => ?_) | refine chk_c ?_ ?_) <;> conv => whnf) | refine And.intro ?_ rfl | (refine And.intro ?_ ?_ <;> conv => whnf))
  all_goals first
    | (refine ⟨?_⟩; decide)
    | exact True.intro
    | rfl
    | trace_state
theorem ok_i_StateNew : FunOk Tryz.prog c_i_StateNew := funOk (eK ok_i_MemoryNew (eK ok_i_KeyWord eN)) mixd Tryz.func124 (pf := pf_i_StateNew) (by kernel_rfl) fun ts K h => by
  obtain ⟨rfl, q0⟩ := as0_out h
  exact ⟨_, _, q0, nb 0 Tryz.f124 (by kernel_rfl), _, run_i_StateNew ⟩

def pf_s_StateNew : PF := ⟨[.c 0 true 10], .r [.alloc 0 zcS] (.seq (.rgd [] [.s (.mkS 2 .word (.i 8)), .c 3 142 [], .build 4 zcS [(0, 1, 2), (7, 2, 3)], .alloc 1 zcS, .o 10 1 4] (.alt 0 false (.alt 1 false (.tk 2 (.one 3 true (.one 4 true (.done (some [0, 1]))))) (.alt 3 false (.one 1 true (.tk 2 (.one 4 true (.done (some [0, 1]))))) .nil)) (.alt 1 false (.alt 0 false (.tk 2 (.one 3 true (.one 4 true (.done (some [0, 1]))))) (.alt 3 false (.one 0 true (.tk 2 (.one 4 true (.done (some [0, 1]))))) .nil)) (.alt 3 false (.alt 0 false (.one 1 true (.tk 2 (.one 4 true (.done (some [0, 1]))))) (.alt 1 false (.one 0 true (.tk 2 (.one 4 true (.done (some [0, 1]))))) .nil)) .nil)))) (.seq (.rgd [] [.f 5 1 0, .l 6 1 5, .build 7 zcK [(1, 1, (.i 24)), (2, 1, (.i 59))], .c 8 143 [7, (.i 0)], .ia 9 .word 6 (.i 0), .o 6 9 8] (.ts [0, 1, 2] (.one 3 false (.tk 4 (.one 5 true .d))))) (.r [.build 10 zcK [(1, 1, (.i 48)), (2, 1, (.i 4))], .c 11 143 [10, (.i 0)], .f 12 1 1, .o 6 12 11] (.r [.L 13 10 1, .o 10 0 13] .ret))))⟩
def c_s_StateNew : Fun := ⟨92, [], fun ts K => as0 ts (K (tG (stateNew.tc true [])) [])⟩
theorem run_s_StateNew  : runK [c_s_MemoryNew, c_s_KeyWord] (0) [] pf_s_StateNew [] fun r o => r = tG (stateNew.tc true []) ∧ o = [] := by
  conv => whnf
  repeat' (first | ((first | refine sel_i (fun h => ?_) (fun h => ?_) | refine chk_c ?_ ?_) <;> conv => whnf) | refine And.intro ?_ rfl | (refine And.intro ?_ ?_ <;> conv => whnf))
  all_goals first
    | (refine ⟨?_⟩; decide)
    | exact True.intro
    | rfl
    | trace_state
theorem ok_s_StateNew : FunOk Tryz.prog c_s_StateNew := funOk (eK ok_s_MemoryNew (eK ok_s_KeyWord eN)) mixd Tryz.func92 (pf := pf_s_StateNew) (by kernel_rfl) fun ts K h => by
  obtain ⟨rfl, q0⟩ := as0_out h
  exact ⟨_, _, q0, nb 0 Tryz.f92 (by kernel_rfl), _, run_s_StateNew ⟩


/-! what is kept is read as it was -/

/-! two that are apart -/
theorem twoOk_iff {t : Two} : twoOk t = true ↔ stateOk (sideState t 0) = true ∧ stateOk (sideState t 1) = true := by simp [twoOk]
theorem meetI_f {a b : List Int} : meetI a b = false ↔ ∀ c ∈ a, c ∉ b := by
  simp only [meetI, List.any_eq_false]
  constructor
  · intro h c hc hb
    exact h c hc (List.any_eq_true.2 ⟨c, hb, beq_iff_eq.2 rfl⟩)
  · intro h c hc hb
    obtain ⟨x, hx, e⟩ := List.any_eq_true.1 hb
    rw [beq_iff_eq.1 e] at hc
    exact h x hc hx
def Ap (C D : List Word) : Prop := ∀ j : Nat, j < 24 → coverP C 2 j = true → coverP D 1 j = false ∧ coverP D 2 j = false
def NoSeal (C : List Word) : Prop := ∀ c ∈ C, hasP c 32 = false
structure Both (A B : List Word) (t : Two) : Prop where
  a : Inv A (sideState t 0)
  b : Inv B (sideState t 1)
  ab : Ap A B
  ba : Ap B A
  na : NoSeal A
  nb : NoSeal B
theorem Both.ok {A B : List Word} {t : Two} (h : Both A B t) : twoOk t = true := twoOk_iff.2 ⟨h.a.ok, h.b.ok⟩
theorem Both.apart {A B : List Word} {t : Two} (h : Both A B t) (ha : ∀ x ∈ closure t.mem (heldW t.a), Und A x) (hb : ∀ x ∈ closure t.mem (heldW t.b), Und B x) : apartB t = true := by
  have hs : ∀ {C : List Word} {l : List Word}, (∀ x ∈ closure t.mem l, Und C x) → NoSeal C → canSeal t.mem l = false := fun {C l} hu hn => by
    cases e : canSeal t.mem l with
    | false => rfl
    | true =>
      simp only [canSeal, List.any_eq_true] at e
      obtain ⟨w, h1, h2⟩ := e
      obtain ⟨p1, p2⟩ := hasP_iff.1 h2
      obtain ⟨d, d1, d2, d3⟩ := hu w h1 p1
      obtain ⟨q1, q2, q3, q4, q5⟩ := coversK_iff.1 d3
      have := hn d d1
      rw [hasP_iff.2 ⟨d2, andI_bit q5 p2⟩] at this
      cases this
  have hcov : ∀ {C : List Word} {l : List Word} {p : Int} {j : Nat}, (∀ x ∈ closure t.mem l, Und C x) → coverP (closure t.mem l) p j = true → coverP C p j = true := fun {C l p j} hu hc => by
    obtain ⟨w, w1, w2, w3, w4⟩ := coverP_iff.1 hc
    exact cover_up (hu w w1) w2 w3 w4
  have hx : ∀ {C D : List Word} {l k : List Word}, (∀ x ∈ closure t.mem l, Und C x) → (∀ x ∈ closure t.mem k, Und D x) → Ap C D → crossesB t.mem l k = false := fun {C D l k} hu hv hap => by
    refine meetI_f.2 fun c hc hc2 => ?_
    obtain ⟨j, h1, h2, rfl⟩ := mem_cellsBy.1 hc
    have := hap j h1 (hcov hu h2)
    rcases List.mem_append.1 hc2 with q | q
    · obtain ⟨i, i1, i2, i3⟩ := mem_cellsBy.1 q
      have : i = j := by omega
      subst this
      have := hcov hv i2
      simp_all
    · obtain ⟨i, i1, i2, i3⟩ := mem_cellsBy.1 q
      have : i = j := by omega
      subst this
      have := hcov hv i2
      simp_all
  simp only [apartB, Bool.and_eq_true, Bool.not_eq_true']
  exact ⟨⟨⟨h.ok, hs ha h.na⟩, hs hb h.nb⟩, hx ha hb h.ab, hx hb ha h.ba⟩

structure Cur where
  b : List Int
  i : Int
  h : Int
def Cur.tc (c : Cur) (r : List TC) : List TC := tl false (.int .u8) c.b :: .int .i64 c.i :: .int .i64 c.h :: r



theorem U8s.app {a b : List Int} (ha : U8s a) (hb : U8s b) : U8s (a ++ b) := fun x hx => by
  rcases List.mem_append.1 hx with q | q
  · exact ha x q
  · exact hb x q
theorem U8s.put {a : List Int} (ha : U8s a) {i : Nat} {v : Int} (hv : 0 ≤ v ∧ v ≤ 255) : U8s (a.set i v) := fun x hx => by
  rcases mem_set hx with q | q
  · exact ha x q
  · rw [q]; exact hv

theorem eq_end {α : Type} [DecidableEq α] {xs ys : List α} {i : Nat} (hl : xs.length = ys.length) (h : xs.length ≤ i) (he : xs.take i = ys.take i) : decide (xs = ys) = true := by
  rw [List.take_of_length_le h, List.take_of_length_le (by omega)] at he
  exact decide_eq_true he
theorem eq_no {α : Type} [DecidableEq α] {xs ys : List α} {i : Nat} {z : α} (hne : ¬ xs.getD i z = ys.getD i z) : decide (xs = ys) = false :=
  decide_eq_false fun e => hne (by rw [e])
theorem eq_yes {α : Type} {xs ys : List α} {i : Nat} {z : α} (hl : xs.length = ys.length) (h : i < xs.length) (hq : xs.getD i z = ys.getD i z) (he : xs.take i = ys.take i) : xs.take (i + 1) = ys.take (i + 1) := by
  have h2 : i < ys.length := by omega
  rw [List.take_add_one, List.take_add_one, he, List.getElem?_eq_getElem h, List.getElem?_eq_getElem h2]
  rw [List.getD_eq_getElem?_getD, List.getD_eq_getElem?_getD, List.getElem?_eq_getElem h, List.getElem?_eq_getElem h2] at hq
  simp only [Option.getD_some] at hq
  rw [hq]
theorem len_ne {α : Type} [DecidableEq α] {xs ys : List α} (h : ((xs.length : Int) != (ys.length : Int)) = true) : decide (xs = ys) = false :=
  decide_eq_false fun e => by rw [e] at h; simp at h
theorem len_eq {α : Type} {xs ys : List α} (h : ((xs.length : Int) != (ys.length : Int)) = false) : xs.length = ys.length := by
  simp at h; omega
theorem eqWd {a b : Word} : (a.n == b.n && (a.is == b.is && (a.key.base == b.key.base && (a.key.top == b.key.top && (a.key.perms == b.key.perms && a.key.sealed == b.key.sealed))))) = decide (a = b) := by
  obtain ⟨a1, a2, a3, a4, a5, a6⟩ := a
  obtain ⟨b1, b2, b3, b4, b5, b6⟩ := b
  rw [Bool.eq_iff_iff]
  simp
theorem eqStE {s t : State} (h1 : s.regs = t.regs) (h2 : s.pc = t.pc) (h3 : s.mem = t.mem) : (s.trap == t.trap) = decide (s = t) := by
  obtain ⟨a1, a2, a3, a4⟩ := s
  obtain ⟨b1, b2, b3, b4⟩ := t
  dsimp only at h1 h2 h3
  rw [Bool.eq_iff_iff]; simp [h1, h2, h3]
theorem eqMm {s t : Mem} (h1 : s.words = t.words) (h2 : s.gone = t.gone) : s = t := by
  obtain ⟨a1, a2⟩ := s
  obtain ⟨b1, b2⟩ := t
  dsimp only at h1 h2
  rw [h1, h2]

def lb_slices_Equal_Word_0 : PC := .r [.bin 14 .lss 13 12] (.seq (.cond 14 .skip (.exit 0)) (.seq (.blk 1 (.r [.m 15 13, .m 5 15] (.seq (.rgd [] [.m 16 0, .m 17 5, .ia 18 .word 16 17, .L 19 6 18, .m 20 1, .m 21 5, .ia 22 .word 20 21, .L 23 6 22, .eqs 24 true [.i, .b, .i, .i, .i, .i] true 19 23] (.ts [0, 1, 2, 3, 4, 5, 6, 7, 8] .d)) (.cond 24 (.r [.mv 4 .F] .ret) .skip)))) (.reg [.bin 25 .add 13 (.i 1), .m 13 25])))
def pf_slices_Equal_Word : PF := ⟨[.t 4], .r [.mv 4 .F] (.seq (.r [.m 6 0, .len 7 false 6, .m 8 1, .len 9 false 8, .bin 10 .neq 7 9] (.cond 10 (.r [.mv 4 .F] .ret) .skip)) (.seq (.r [.m 11 0, .len 12 false 11, .mv 13 (.i 0)] (.blk 0 (.loop [0, 1, 12, 13] lb_slices_Equal_Word_0))) (.r [.mv 4 .T] .ret)))⟩
def c_slices_Equal_Word : Fun := ⟨179, [], fun ts K => as2 ts fun t0 t1 => arC (pL .word) t0 fun a => arC (pL .word) t1 fun b => chk (a.length ≤ 2147483647 ∧ b.length ≤ 2147483647) (K (tB (decide (a = b))) [])⟩
theorem run_slices_Equal_Word (a : List (FT.Ty .word)) (b : List (FT.Ty .word)) (hpre : a.length ≤ 2147483647 ∧ b.length ≤ 2147483647) : runK [] (a.length + 1) [] pf_slices_Equal_Word [tL false .word a, tL false .word b] fun r o => r = tB (decide (a = b)) ∧ o = [] := by
  obtain ⟨l1, l2⟩ := hpre
  conv => whnf
  refine sel_i (fun h => ?_) (fun h => ?_) <;> conv => whnf
  · rw [len_ne h]; exact ⟨rfl, rfl⟩
  have hl := len_eq h
  clear h
  refine loop (α := Nat) (fun i => ⟨[(0, .v (.c (.sl false .word 0))), (1, .v (.c (.sl false .word 1))), (12, .v (.c (.int .i64 (a.length : Int)))), (13, .v (.c (.int .i64 (i : Int))))], [(1, some (.flat false .word none b)), (0, some (.flat false .word none a))], nums.tail.tail, [], false, []⟩)
      (fun i => i ≤ a.length ∧ a.take i = b.take i) (fun i => a.length - i) (fun i R hI hR => ?_) 0 _ ⟨by simp, by simp⟩ (by omega)
  obtain ⟨hi, hx⟩ := hI
  conv => whnf
  repeat' (first | ((first | refine sel_i (fun h => ?_) (fun h => ?_) | refine chk_c ?_ ?_) <;> conv => whnf) | refine And.intro ?_ rfl | (refine And.intro ?_ ?_ <;> conv => whnf))
  all_goals (try simp only [eqWd, etaKey, etaWord, Int.toNat_natCast, Bool.not_eq_true', Bool.not_eq_false', decide_eq_true_eq, decide_eq_false_iff_not] at *)
  all_goals first
    | (refine ⟨?_⟩; omega)
    | (rw [eq_no (z := FT.zero .word) (by assumption)]; done)
    | (rw [eq_end hl (by omega) hx]; done)
    | (rw [wrap_id (n := (i : Int) + 1) (by omega) (by omega)]; exact hR (i + 1) ⟨by omega, eq_yes (z := FT.zero .word) hl (by omega) (by assumption) hx⟩ (by omega))
    | trace_state
theorem ok_slices_Equal_Word : FunOk Tryz.prog c_slices_Equal_Word := funOk (eN) mixd Tryz.func179 (pf := pf_slices_Equal_Word) (by kernel_rfl) fun ts K h => by
  obtain ⟨t0, t1, rfl, q0⟩ := as2_out h
  obtain ⟨a, rfl, q1⟩ := arC_out (rd_l .word) q0
  obtain ⟨b, rfl, q2⟩ := arC_out (rd_l .word) q1
  obtain ⟨hpre, hk⟩ := chk_o q2
  exact ⟨_, _, hk, nb 2 Tryz.f179 (by kernel_rfl), _, run_slices_Equal_Word a b hpre⟩

def lb_slices_Equal_bool_0 : PC := .r [.bin 14 .lss 13 12] (.seq (.cond 14 .skip (.exit 0)) (.seq (.blk 1 (.r [.m 15 13, .m 5 15] (.seq (.rgd [] [.m 16 0, .m 17 5, .ia 18 .bool 16 17, .l 19 1 18, .m 20 1, .m 21 5, .ia 22 .bool 20 21, .l 23 1 22, .eqs 24 false [.b] true 19 23] (.ts [0, 1, 2, 3, 4, 5, 6, 7, 8] .d)) (.cond 24 (.r [.mv 4 .F] .ret) .skip)))) (.reg [.bin 25 .add 13 (.i 1), .m 13 25])))
def pf_slices_Equal_bool : PF := ⟨[.t 4], .r [.mv 4 .F] (.seq (.r [.m 6 0, .len 7 false 6, .m 8 1, .len 9 false 8, .bin 10 .neq 7 9] (.cond 10 (.r [.mv 4 .F] .ret) .skip)) (.seq (.r [.m 11 0, .len 12 false 11, .mv 13 (.i 0)] (.blk 0 (.loop [0, 1, 12, 13] lb_slices_Equal_bool_0))) (.r [.mv 4 .T] .ret)))⟩
def c_slices_Equal_bool : Fun := ⟨180, [], fun ts K => as2 ts fun t0 t1 => arC (pL .bool) t0 fun a => arC (pL .bool) t1 fun b => chk (a.length ≤ 2147483647 ∧ b.length ≤ 2147483647) (K (tB (decide (a = b))) [])⟩
theorem run_slices_Equal_bool (a : List (FT.Ty .bool)) (b : List (FT.Ty .bool)) (hpre : a.length ≤ 2147483647 ∧ b.length ≤ 2147483647) : runK [] (a.length + 1) [] pf_slices_Equal_bool [tL false .bool a, tL false .bool b] fun r o => r = tB (decide (a = b)) ∧ o = [] := by
  obtain ⟨l1, l2⟩ := hpre
  conv => whnf
  refine sel_i (fun h => ?_) (fun h => ?_) <;> conv => whnf
  · rw [len_ne h]; exact ⟨rfl, rfl⟩
  have hl := len_eq h
  clear h
  refine loop (α := Nat) (fun i => ⟨[(0, .v (.c (.sl false .bool 0))), (1, .v (.c (.sl false .bool 1))), (12, .v (.c (.int .i64 (a.length : Int)))), (13, .v (.c (.int .i64 (i : Int))))], [(1, some (.flat false .bool none b)), (0, some (.flat false .bool none a))], nums.tail.tail, [], false, []⟩)
      (fun i => i ≤ a.length ∧ a.take i = b.take i) (fun i => a.length - i) (fun i R hI hR => ?_) 0 _ ⟨by simp, by simp⟩ (by omega)
  obtain ⟨hi, hx⟩ := hI
  conv => whnf
  repeat' (first | ((first | refine sel_i (fun h => ?_) (fun h => ?_) | refine chk_c ?_ ?_) <;> conv => whnf) | refine And.intro ?_ rfl | (refine And.intro ?_ ?_ <;> conv => whnf))
  all_goals (try simp only [Int.toNat_natCast, Bool.not_eq_true', Bool.not_eq_false', decide_eq_true_eq, decide_eq_false_iff_not] at *)
  all_goals first
    | (refine ⟨?_⟩; omega)
    | (rw [eq_no (z := FT.zero .bool) (i := i) (by simpa using h)]; done)
    | (rw [eq_end hl (by omega) hx]; done)
    | (rw [wrap_id (n := (i : Int) + 1) (by omega) (by omega)]; exact hR (i + 1) ⟨by omega, eq_yes (z := FT.zero .bool) hl (by omega) (by simpa using h) hx⟩ (by omega))
    | trace_state
theorem ok_slices_Equal_bool : FunOk Tryz.prog c_slices_Equal_bool := funOk (eN) mixd Tryz.func180 (pf := pf_slices_Equal_bool) (by kernel_rfl) fun ts K h => by
  obtain ⟨t0, t1, rfl, q0⟩ := as2_out h
  obtain ⟨a, rfl, q1⟩ := arC_out (rd_l .bool) q0
  obtain ⟨b, rfl, q2⟩ := arC_out (rd_l .bool) q1
  obtain ⟨hpre, hk⟩ := chk_o q2
  exact ⟨_, _, hk, nb 2 Tryz.f180 (by kernel_rfl), _, run_slices_Equal_bool a b hpre⟩

def pf_i_Alike : PF := ⟨[.t 4], .r [.box 2 0, .box 3 1, .mv 4 .F] (.r [.f 5 2 0, .l 6 1 5, .f 7 3 0, .l 8 1 7, .c 9 179 [6, 8], .m 10 9, .y 10 11 (.fa 11 2 1), .y 10 12 (.load 12 true 6 11), .y 10 13 (.fa 13 3 1), .y 10 14 (.load 14 true 6 13), .y 10 15 (.eqs 15 true [.i, .b, .i, .i, .i, .i] false 12 14), .pick 16 10 15 .F, .m 17 16, .y 17 18 (.fa 18 2 7), .y 17 19 (.fa 19 18 0), .y 17 20 (.load 20 false 1 19), .y 17 21 (.fa 21 3 7), .y 17 22 (.fa 22 21 0), .y 17 23 (.load 23 false 1 22), .y 17 24 (.call (some 24) 179 [20, 23]), .pick 25 17 24 .F, .m 26 25, .y 26 27 (.fa 27 2 7), .y 26 28 (.fa 28 27 1), .y 26 29 (.load 29 false 1 28), .y 26 30 (.fa 30 3 7), .y 26 31 (.fa 31 30 1), .y 26 32 (.load 32 false 1 31), .y 26 33 (.call (some 33) 180 [29, 32]), .pick 34 26 33 .F, .m 35 34, .y 35 36 (.fa 36 2 9), .y 35 37 (.load 37 false 1 36), .y 35 38 (.fa 38 3 9), .y 35 39 (.load 39 false 1 38), .y 35 40 (.bin 40 .eql 37 39), .pick 41 35 40 .F, .m 4 41] .ret)⟩
def c_i_Alike : Fun := ⟨126, [], fun ts K => as2 ts fun t0 t1 => arG pStateT t0 fun s => arG pStateT t1 fun t => chk (LState s 2147483647 ∧ LState t 2147483647) (K (tB (decide (s = t))) [])⟩
theorem run_i_Alike (s : State) (t : State) (hpre : LState s 2147483647 ∧ LState t 2147483647) : runK [c_slices_Equal_Word, c_slices_Equal_bool] (0) [] pf_i_Alike [tG (s.tc false []), tG (t.tc false [])] fun r o => r = tB (decide (s = t)) ∧ o = [] := by
  obtain ⟨⟨l1, l2, l3⟩, l4, l5, l6⟩ := hpre
  conv => whnf
  repeat' (first | ((first | refine sel_i (fun h => ?_) (fun h => ?_) | refine chk_c ?_ ?_) <;> conv => whnf) | refine And.intro ?_ rfl | (refine And.intro ?_ ?_ <;> conv => whnf))
  all_goals (try simp only [eqWd, etaKey, etaWord, etaMemory, etaState, decide_eq_true_eq, decide_eq_false_iff_not] at *)
  all_goals first
    | (refine ⟨?_⟩; exact ⟨by assumption, by assumption⟩)
    | (rw [eqStE (by assumption) (by assumption) (eqMm (by assumption) (by assumption))]; done)
    | (obtain ⟨s1, ⟨s2, s3, ⟨s4, s5, s6, s7⟩⟩, ⟨s8, s9⟩, s10⟩ := s; obtain ⟨t1, ⟨t2, t3, ⟨t4, t5, t6, t7⟩⟩, ⟨t8, t9⟩, t10⟩ := t; simp_all; done)
    | trace_state
theorem ok_i_Alike : FunOk Tryz.prog c_i_Alike := funOk (eK ok_slices_Equal_Word (eK ok_slices_Equal_bool eN)) mixd Tryz.func126 (pf := pf_i_Alike) (by kernel_rfl) fun ts K h => by
  obtain ⟨t0, t1, rfl, q0⟩ := as2_out h
  obtain ⟨s, rfl, q1⟩ := arG_out rd_state q0
  obtain ⟨t, rfl, q2⟩ := arG_out rd_state q1
  obtain ⟨hpre, hk⟩ := chk_o q2
  exact ⟨_, _, hk, nb 2 Tryz.f126 (by kernel_rfl), _, run_i_Alike s t hpre⟩














/-! what the small programs do -/





theorem win_over {α : Type} (s D Z : List α) (i k : Nat) (h : i ≤ s.length) (hk : k = i + D.length) : win (over (over s i D) k Z) 0 k = s.take i ++ D := by
  have e1 : (s.take i ++ D).length = k := by rw [List.length_append, List.length_take, Nat.min_eq_left h, hk]
  have e2 : (over s i D).take k = s.take i ++ D := by unfold over; exact List.take_left' e1
  unfold win
  rw [List.drop_zero]
  show ((over s i D).take k ++ Z ++ _).take k = _
  rw [e2, List.append_assoc, List.take_left' e1]


theorem spanD_mem {l : List Span} {i : Nat} (h : i < l.length) : l.getD i (FT.zero .span) ∈ l := by
  rw [List.getD_eq_getElem?_getD, List.getElem?_eq_getElem h]; exact List.getElem_mem h

def Ord (l : List Span) : Prop := l.Pairwise (fun a b => a.at_ < b.at_)
theorem ord_of {l : List Span} (h : ∀ j, 0 < j → j < l.length → (l.getD (j - 1) (FT.zero .span)).at_ < (l.getD j (FT.zero .span)).at_) : Ord l := by
  have key : ∀ d i : Nat, i + d + 1 < l.length → (l.getD i (FT.zero .span)).at_ < (l.getD (i + d + 1) (FT.zero .span)).at_ := by
    intro d
    induction d with
    | zero => intro i hi; have := h (i + 1) (by omega) hi; simpa using this
    | succ d ih =>
      intro i hi
      have h1 := ih i (by omega)
      have h2 := h (i + (d + 1) + 1) (by omega) hi
      rw [show i + (d + 1) + 1 - 1 = i + d + 1 by omega] at h2
      omega
  refine List.pairwise_iff_getElem.2 fun i j hi hj hij => ?_
  have := key (j - i - 1) i (by omega)
  rw [show i + (j - i - 1) + 1 = j by omega] at this
  simpa [List.getD_eq_getElem?_getD, hi, hj] using this
theorem ord_step {l : List Span} (h : Ord l) {j : Nat} (h0 : 0 < j) (hj : j < l.length) : (l.getD (j - 1) (FT.zero .span)).at_ < (l.getD j (FT.zero .span)).at_ := by
  have := List.pairwise_iff_getElem.1 h (j - 1) j (by omega) hj (by omega)
  simpa [List.getD_eq_getElem?_getD, hj, show j - 1 < l.length by omega] using this
theorem spansOk_ord {l : List Span} : spansOk l = true ↔ (∀ s ∈ l, spanOk s = true) ∧ Ord l := by
  rw [spansOk_iff]
  constructor
  · intro h
    refine ⟨spansOk_mem (spansOk_iff.2 h), ord_of fun j h0 hj => ?_⟩
    have := ((spanChk_iff l j).1 (h j hj)).2
    omega
  · rintro ⟨h1, h2⟩ j hj
    have hs := h1 _ (spanD_mem hj)
    rw [spanChk_iff]
    simp only [spanOk, Bool.and_eq_true, inR_t] at hs
    refine ⟨hs, ?_⟩
    by_cases h0 : j = 0
    · exact .inl h0
    · exact .inr (ord_step h2 (by omega) hj)


theorem ord_ge {l : List Span} (h : spansOk l = true) : ∀ j : Nat, j < l.length → (j : Int) ≤ (l.getD j (FT.zero .span)).at_ := by
  obtain ⟨h1, h2⟩ := spansOk_ord.1 h
  intro j
  induction j with
  | zero =>
    intro hj
    have hs := h1 _ (spanD_mem hj)
    simp only [spanOk, Bool.and_eq_true, inR_t] at hs
    omega
  | succ j ih =>
    intro hj
    have := ih (by omega)
    have := ord_step h2 (show 0 < j + 1 by omega) hj
    rw [Nat.add_sub_cancel] at this
    omega
theorem spansOk_len {l : List Span} (h : spansOk l = true) : l.length ≤ 24 := by
  by_cases h0 : l.length = 0
  · omega
  · have hj : l.length - 1 < l.length := by omega
    have := ord_ge h (l.length - 1) hj
    have hs := (spansOk_ord.1 h).1 _ (spanD_mem hj)
    simp only [spanOk, Bool.and_eq_true, inR_t] at hs
    omega
theorem heapOk_iff {h : Heap} : heapOk h = true ↔ memoryOk h.mem = true ∧ spansOk h.live = true ∧ spansOk h.waits = true ∧ ∀ c, c < 24 → cnt h.live c + cnt h.waits c ≤ 1 ∧ h.mem.gone.getD c false = decide (0 < cnt h.waits c) := by
  simp only [heapOk, Bool.and_eq_true, allR_iff, decide_eq_true_eq, beq_iff_eq, and_assoc]
theorem heapOk_len {h : Heap} (k : heapOk h = true) : LHeap h 24 := by
  obtain ⟨h1, h2, h3, h4⟩ := heapOk_iff.1 k
  obtain ⟨m1, m2, m3⟩ := memoryOk_iff.1 h1
  exact ⟨⟨by omega, by omega⟩, spansOk_len h2, spansOk_len h3⟩
def InSpan (l : List Span) (w : Word) : Prop := w.is = true → w.key.base < w.key.top → ∃ s ∈ l, s.at_ ≤ w.key.base ∧ w.key.top ≤ s.at_ + s.len
theorem InSpan.mono {l l' : List Span} {w : Word} (h : InSpan l w) (hl : ∀ s ∈ l, s ∈ l') : InSpan l' w := fun h1 h2 => by
  obtain ⟨s, hs, h3⟩ := h h1 h2; exact ⟨s, hl s hs, h3⟩
structure Good (h : Heap) (rs : List Word) : Prop where
  ok : heapOk h = true
  regs : ∀ w ∈ rs, wordOk w = true ∧ InSpan (h.live ++ h.waits) w
  mem : ∀ w ∈ h.mem.words, InSpan (h.live ++ h.waits) w
theorem Good.len {h : Heap} {rs : List Word} (g : Good h rs) : LHeap h 24 := heapOk_len g.ok










def pf_strconv_Itoa : PF := ⟨[.t 2], .r [.mv 2 (.k (.v (.c (.str ⟨#[]⟩))))] (.r [.m 3 0, .c 4 123 [3], .m 2 4] .ret)⟩
def c_strconv_Itoa : Fun := itoaFun 70
theorem ok_strconv_Itoa : FunOk Tryz.prog c_strconv_Itoa := by
  obtain ⟨b, hb⟩ := Option.isSome_iff_exists.1 (show (Tryz.prog.globalNamed tabName).isSome = true by kernel_rfl)
  exact itoa_ok (callable_of Tryz.func70 (pf := pf_strconv_Itoa) (by kernel_rfl)) hb fun n h0 h1 w ht => Tryz.strconv_Itoa n h0 h1 w ht

theorem decDigits_small {m : Nat} (h : m < 10) : Lib.decDigits m = [UInt8.ofNat (48 + m)] := by rw [Lib.decDigits]; simp [h]
theorem decDigits_big {m : Nat} (h : 10 ≤ m) : Lib.decDigits m = Lib.decDigits (m / 10) ++ [UInt8.ofNat (48 + m % 10)] := by rw [Lib.decDigits]; simp [show ¬ m < 10 by omega]
def sgn (b : Bool) (m : Nat) : Int := if b then -(m : Int) else m
theorem sgn_abs (n : Int) : sgn (decide (n < 0)) n.natAbs = n := by
  unfold sgn
  by_cases h : n < 0
  · rw [decide_eq_true h, if_pos rfl]; omega
  · rw [decide_eq_false h, if_neg (by simp)]; omega
theorem sgn_quo (b : Bool) (m : Nat) : Int.tdiv (sgn b m) 10 = sgn b (m / 10) := by
  unfold sgn
  cases b
  · rw [if_neg (by simp), if_neg (by simp)]; exact Int.ofNat_tdiv m 10 |>.symm
  · rw [if_pos rfl, if_pos rfl, Int.neg_tdiv]; exact congrArg Neg.neg (Int.ofNat_tdiv m 10).symm
theorem sgn_rem (b : Bool) (m : Nat) : Int.tmod (sgn b m) 10 = sgn b (m % 10) := by
  unfold sgn
  cases b
  · rw [if_neg (by simp), if_neg (by simp)]; exact Int.ofNat_tmod m 10 |>.symm
  · rw [if_pos rfl, if_pos rfl, Int.neg_tmod]; exact congrArg Neg.neg (Int.ofNat_tmod m 10).symm
theorem sgn_ne (b : Bool) (m : Nat) : (sgn b m != 0) = decide (m ≠ 0) := by
  unfold sgn
  cases b
  · rw [if_neg (by simp)]; rw [Bool.eq_iff_iff]; simp
  · rw [if_pos rfl]; rw [Bool.eq_iff_iff]; simp
theorem itoaB_0 : itoaB 0 = ⟨#[48]⟩ := by
  unfold itoaB Lib.itoa
  rw [if_neg (by decide), show (0 : Int).toNat = 0 from rfl, decDigits_small (by decide)]
  rfl
theorem bcat (a b : List UInt8) : (⟨a.toArray⟩ : ByteArray) ++ ⟨b.toArray⟩ = ⟨(a ++ b).toArray⟩ := by
  apply ByteArray.ext
  rw [ByteArray.data_append]
  simp
theorem bsize (a : List UInt8) : (⟨a.toArray⟩ : ByteArray).size = a.length := by
  show a.toArray.size = _
  simp
theorem digit (b : Bool) (m : Nat) : strI [IntKind.u8.wrap (IntKind.i64.wrap (48 + ((m % 10 : Nat) : Int)))] = ⟨[UInt8.ofNat (48 + m % 10)].toArray⟩ := by
  have : ∀ k : Fin 10, strI [IntKind.u8.wrap (IntKind.i64.wrap (48 + ((k.1 : Nat) : Int)))] = ⟨[UInt8.ofNat (48 + k.1)].toArray⟩ := by decide +kernel
  exact this ⟨m % 10, Nat.mod_lt _ (by decide)⟩

def lb_s_l7Digits_0 : PC := .seq (.r [.m 10 0, .bin 11 .neq 10 (.i 0)] (.cond 11 .skip (.exit 0))) (.blk 1 (.r [.m 12 0, .bin 13 .rem 12 (.i 10), .m 5 13] (.seq (.r [.m 14 5, .bin 15 .lss 14 (.i 0)] (.cond 15 (.reg [.m 16 5, .bin 17 .sub (.i 0) 16, .m 5 17]) .skip)) (.r [.m 18 5, .bin 19 .add (.i 48) 18, .s (.conv 20 .u8 19), .bs 21 (.int .u8) [20], .s (.b2s 22 21), .m 23 4, .cat 24 22 23, .m 4 24] (.reg [.m 25 0, .bin 26 .quo 25 (.i 10), .m 0 26])))))
def pf_s_l7Digits : PF := ⟨[.t 2], .r [.mv 2 (.k (.v (.c (.str ⟨#[]⟩))))] (.seq (.r [.m 6 0, .bin 7 .eql 6 (.i 0)] (.cond 7 (.r [.mv 2 (.k (.v (.c (.str ⟨#[48]⟩))))] .ret) .skip)) (.r [.m 8 0, .bin 9 .lss 8 (.i 0), .m 3 9] (.r [.mv 4 (.k (.v (.c (.str ⟨#[]⟩))))] (.seq (.blk 0 (.loop [0, 3, 4] lb_s_l7Digits_0)) (.seq (.r [.m 27 3] (.cond 27 (.r [.m 28 4, .cat 29 (.k (.v (.c (.str ⟨#[45]⟩)))) 28, .m 2 29] .ret) .skip)) (.r [.m 30 4, .m 2 30] .ret))))))⟩
def c_s_l7Digits : Fun := ⟨18, [], fun ts K => as1 ts fun t0 => arC (pI .i64) t0 fun n => chk (-9223372036854775808 ≤ n ∧ n ≤ 9223372036854775807) (K (.v (.c (.str (itoaB n)))) [])⟩
theorem run_s_l7Digits (n : Int) (hpre : -9223372036854775808 ≤ n ∧ n ≤ 9223372036854775807) : runK [] (30) [] pf_s_l7Digits [tI .i64 n] fun r o => r = .v (.c (.str (itoaB n))) ∧ o = [] := by
  have hsg := sgn_abs n
  have hN : n.natAbs < 10 ^ 20 := by have : (10 : Nat) ^ 20 = 100000000000000000000 := by decide
                                     omega
  conv => whnf
  repeat' (first | ((first | refine sel_i (fun h => ?_) (fun h => ?_) | refine chk_c ?_ ?_) <;> conv => whnf) | refine And.intro ?_ rfl | (refine And.intro ?_ ?_ <;> conv => whnf))
  · have hn : n = 0 := by simpa using h
    subst hn
    rw [itoaB_0]
  have hn : n ≠ 0 := by simpa using h
  clear h
  have hN0 : n.natAbs ≠ 0 := by omega
  generalize hb : decide (n < 0) = b at *
  generalize hM : n.natAbs = M at *
  have hres : itoaB n = if b then ⟨(45 :: Lib.decDigits M).toArray⟩ else ⟨(Lib.decDigits M).toArray⟩ := by
    unfold itoaB Lib.itoa
    rw [← hb, ← hM]
    by_cases h : n < 0
    · rw [if_pos h, decide_eq_true h, if_pos rfl]
    · rw [if_neg h, decide_eq_false h, if_neg (by simp), show n.toNat = n.natAbs by omega]
  rw [hres]
  have hMb : (M : Int) ≤ 9223372036854775808 := by omega
  clear hres hb hM
  subst hsg
  refine loop (α := Nat × List UInt8 × Nat) (fun q => ⟨[(0, .v (.c (.int .i64 (sgn b q.1)))), (3, .v (.c (.bool b))), (4, .v (.c (.str ⟨q.2.1.toArray⟩)))], [], nums, [], false, []⟩)
      (fun q => (q.1 < 10 ^ q.2.2 ∧ q.1 ≤ M ∧ q.2.1.length + q.2.2 ≤ 20) ∧ ((q.1 = 0 ∧ q.2.1 = Lib.decDigits M) ∨ (q.1 ≠ 0 ∧ Lib.decDigits M = Lib.decDigits q.1 ++ q.2.1))) (fun q => q.2.2) (fun q R hI hR => ?_) (M, [], 20) _
      ⟨⟨hN, Nat.le_refl _, Nat.le_refl _⟩, .inr ⟨hN0, (List.append_nil _).symm⟩⟩ (by show 20 < 30; decide)
  obtain ⟨m, out, k⟩ := q
  obtain ⟨⟨i1, i2, i4⟩, i3⟩ := hI
  dsimp only at i1 i2 i3 i4 ⊢
  conv => whnf
  rw [sgn_ne]
  refine sel_i (fun h => ?_) (fun h => ?_)
  · have hm : m ≠ 0 := of_decide_eq_true h
    clear h
    obtain ⟨_, i3⟩ : m ≠ 0 ∧ Lib.decDigits M = Lib.decDigits m ++ out := by rcases i3 with ⟨h, _⟩ | h; exact absurd h hm; exact h
    have hk : k ≠ 0 := fun e => by subst e; simp at i1; exact hm i1
    obtain ⟨k, rfl⟩ : ∃ j, k = j + 1 := ⟨k - 1, by omega⟩
    have hd : m / 10 < 10 ^ k := Nat.div_lt_of_lt_mul (by rw [Nat.pow_succ] at i1; omega)
    have hm10 : m % 10 < 10 := Nat.mod_lt _ (by decide)
    have e1 : sgn b (m % 10) < 0 → IntKind.i64.wrap (0 - sgn b (m % 10)) = ((m % 10 : Nat) : Int) := fun h => by
      unfold sgn at h ⊢
      cases b
      · simp at h
        omega
      · rw [if_pos rfl, wrap_id (by omega) (by omega)]; omega
    have e2 : ¬ sgn b (m % 10) < 0 → sgn b (m % 10) = ((m % 10 : Nat) : Int) := fun h => by
      unfold sgn at h ⊢
      cases b
      · rw [if_neg (by simp)]
      · rw [if_pos rfl] at h ⊢; omega
    have e3 : IntKind.i64.wrap (sgn b (m / 10)) = sgn b (m / 10) := by
      unfold sgn
      cases b
      · rw [if_neg (by simp)]; exact wrap_id (by omega) (by omega)
      · rw [if_pos rfl]; exact wrap_id (by omega) (by omega)
    have hR := hR (m / 10, UInt8.ofNat (48 + m % 10) :: out, k) ⟨⟨hd, by dsimp only; omega, by simp only [List.length_cons]; omega⟩, by
      dsimp only
      by_cases h10 : m < 10
      · left
        exact ⟨by omega, by rw [i3, decDigits_small h10, show m % 10 = m by omega]; rfl⟩
      · right
        exact ⟨by omega, by rw [i3, decDigits_big (by omega), List.append_assoc]; rfl⟩⟩ (by dsimp only; omega)
    conv => whnf
    repeat' (first | ((first | refine sel_i (fun h => ?_) (fun h => ?_) | refine chk_c ?_ ?_) <;> conv => whnf) | refine And.intro ?_ rfl | (refine And.intro ?_ ?_ <;> conv => whnf))
    all_goals (try simp only [sgn_rem, sgn_quo, e3] at *)
    all_goals first
      | (refine ⟨?_⟩; decide)
      | (have h := of_decide_eq_true h; rw [e1 h, digit b m, bsize, bsize]; refine ⟨?_⟩; simp only [List.length_cons, List.length_nil]; omega)
      | (have h := of_decide_eq_false h; rw [e2 h, digit b m, bsize, bsize]; refine ⟨?_⟩; simp only [List.length_cons, List.length_nil]; omega)
      | (have h := of_decide_eq_true h; rw [e1 h, digit b m, bcat]; exact hR)
      | (have h := of_decide_eq_false h; rw [e2 h, digit b m, bcat]; exact hR)
      | trace_state
  · have hm : m = 0 := by simpa using of_decide_eq_false h
    obtain ⟨_, i3⟩ : m = 0 ∧ out = Lib.decDigits M := by rcases i3 with h | ⟨h, _⟩; exact h; exact absurd hm h
    clear h
    conv => whnf
    repeat' (first | ((first | refine sel_i (fun h => ?_) (fun h => ?_) | refine chk_c ?_ ?_) <;> conv => whnf) | refine And.intro ?_ rfl | (refine And.intro ?_ ?_ <;> conv => whnf))
    · refine ⟨?_⟩
      rw [show (⟨#[45]⟩ : ByteArray) = ⟨[45].toArray⟩ from rfl, bsize, bsize]
      simp only [List.length_cons, List.length_nil]
      omega
    · rw [h, if_pos rfl, show (⟨#[45]⟩ : ByteArray) = ⟨[45].toArray⟩ from rfl, bcat, i3]; rfl
    · rw [h, if_neg (by simp), i3]
theorem ok_s_l7Digits : FunOk Tryz.prog c_s_l7Digits := funOk (eN) mixd Tryz.func18 (pf := pf_s_l7Digits) (by kernel_rfl) fun ts K h => by
  obtain ⟨t0, rfl, q0⟩ := as1_out h
  obtain ⟨n, rfl, q1⟩ := arC_out (rd_int .i64) q0
  obtain ⟨hpre, hk⟩ := chk_o q1
  exact ⟨_, _, hk, nb 1 Tryz.f18 (by kernel_rfl), _, run_s_l7Digits n hpre⟩

theorem decLen : ∀ (k m : Nat), m < 10 ^ (k + 1) → (Lib.decDigits m).length ≤ k + 1
  | 0, m, h => by rw [decDigits_small (by simpa using h)]; simp
  | k + 1, m, h => by
    by_cases h10 : m < 10
    · rw [decDigits_small h10]; simp
    · rw [decDigits_big (by omega), List.length_append]
      have := decLen k (m / 10) (Nat.div_lt_of_lt_mul (by rw [Nat.pow_succ] at h; omega))
      simp only [List.length_singleton]
      omega
def InI (n : Int) : Prop := -9223372036854775808 ≤ n ∧ n ≤ 9223372036854775807
theorem itoaB_size {n : Int} (h : InI n) : (itoaB n).size ≤ 21 := by
  obtain ⟨h0, h1⟩ := h
  have e : (10 : Nat) ^ (19 + 1) = 100000000000000000000 := by decide
  unfold itoaB Lib.itoa
  rw [bsize]
  split
  · have := decLen 19 n.natAbs (by omega)
    simp only [List.length_cons]; omega
  · have := decLen 19 n.toNat (by omega)
    omega
def trapL : List ByteArray := [⟨#[110, 111, 110, 101]⟩, ⟨#[107, 101, 121]⟩, ⟨#[115, 101, 97, 108]⟩, ⟨#[112, 101, 114, 109]⟩, ⟨#[98, 111, 117, 110, 100]⟩, ⟨#[115, 116, 111, 112]⟩]
def trapB (n : Int) : ByteArray := if inR n 0 5 then trapL.getD n.toNat (FT.zero .str) else ⟨#[]⟩
theorem trapB_no {n : Int} (h : inR n 0 5 = false) : trapB n = ⟨#[]⟩ := by unfold trapB; rw [h]; rfl
theorem trapB_yes {n : Int} (h : inR n 0 5 = true) : trapB n = trapL.getD n.toNat (FT.zero .str) := by unfold trapB; rw [h]; rfl

def pf_i_TrapText : PF := ⟨[.t 2], .r [.mv 2 (.k (.v (.c (.str ⟨#[]⟩))))] (.seq (.r [.m 3 0, .c 4 112 [3, (.i 0), (.i 5)], .bnot 5 4] (.cond 5 (.r [.mv 2 (.k (.v (.c (.str ⟨#[]⟩))))] .ret) .skip)) (.r [.bs 6 .str [(.k (.v (.c (.str ⟨#[110, 111, 110, 101]⟩)))), (.k (.v (.c (.str ⟨#[107, 101, 121]⟩)))), (.k (.v (.c (.str ⟨#[115, 101, 97, 108]⟩)))), (.k (.v (.c (.str ⟨#[112, 101, 114, 109]⟩)))), (.k (.v (.c (.str ⟨#[98, 111, 117, 110, 100]⟩)))), (.k (.v (.c (.str ⟨#[115, 116, 111, 112]⟩))))], .m 7 0, .ia 8 .str 6 7, .l 9 1 8, .m 2 9] .ret))⟩
def c_i_TrapText : Fun := ⟨71, [], fun ts K => as1 ts fun t0 => arC (pI .i64) t0 fun n => K (.v (.c (.str (trapB n)))) []⟩
theorem run_i_TrapText (n : Int) : runK [c_i_in] (0) [] pf_i_TrapText [tI .i64 n] fun r o => r = .v (.c (.str (trapB n))) ∧ o = [] := by
  conv => whnf
  repeat' (first | ((first | refine sel_i (fun h => ?_) (fun h => ?_) | refine chk_c ?_ ?_) <;> conv => whnf) | refine And.intro ?_ rfl | (refine And.intro ?_ ?_ <;> conv => whnf))
  all_goals (try simp only [Bool.not_eq_true', Bool.not_eq_false'] at *)
  all_goals first
    | (rw [trapB_no h]; done)
    | (rw [trapB_yes h]; rfl)
    | (have hn := inR_t.1 h; refine ⟨?_⟩; simp only [List.length_cons, List.length_nil]; omega)
    | trace_state
theorem ok_i_TrapText : FunOk Tryz.prog c_i_TrapText := funOk (eK ok_i_in eN) mixd Tryz.func71 (pf := pf_i_TrapText) (by kernel_rfl) fun ts K h => by
  obtain ⟨t0, rfl, q0⟩ := as1_out h
  obtain ⟨n, rfl, q1⟩ := arC_out (rd_int .i64) q0
  exact ⟨_, _, q1, nb 1 Tryz.f71 (by kernel_rfl), _, run_i_TrapText n⟩

def pf_s_TrapText : PF := ⟨[.t 2], .r [.mv 2 (.k (.v (.c (.str ⟨#[]⟩))))] (.seq (.r [.m 3 0, .c 4 53 [3, (.i 0), (.i 5)], .bnot 5 4] (.cond 5 (.r [.mv 2 (.k (.v (.c (.str ⟨#[]⟩))))] .ret) .skip)) (.r [.bs 6 .str [(.k (.v (.c (.str ⟨#[110, 111, 110, 101]⟩)))), (.k (.v (.c (.str ⟨#[107, 101, 121]⟩)))), (.k (.v (.c (.str ⟨#[115, 101, 97, 108]⟩)))), (.k (.v (.c (.str ⟨#[112, 101, 114, 109]⟩)))), (.k (.v (.c (.str ⟨#[98, 111, 117, 110, 100]⟩)))), (.k (.v (.c (.str ⟨#[115, 116, 111, 112]⟩))))], .m 7 0, .ia 8 .str 6 7, .l 9 1 8, .m 2 9] .ret))⟩
def c_s_TrapText : Fun := ⟨44, [], fun ts K => as1 ts fun t0 => arC (pI .i64) t0 fun n => K (.v (.c (.str (trapB n)))) []⟩
theorem run_s_TrapText (n : Int) : runK [c_s_l1In] (0) [] pf_s_TrapText [tI .i64 n] fun r o => r = .v (.c (.str (trapB n))) ∧ o = [] := by
  conv => whnf
  repeat' (first | ((first | refine sel_i (fun h => ?_) (fun h => ?_) | refine chk_c ?_ ?_) <;> conv => whnf) | refine And.intro ?_ rfl | (refine And.intro ?_ ?_ <;> conv => whnf))
  all_goals (try simp only [Bool.not_eq_true', Bool.not_eq_false'] at *)
  all_goals first
    | (rw [trapB_no h]; done)
    | (rw [trapB_yes h]; rfl)
    | (have hn := inR_t.1 h; refine ⟨?_⟩; simp only [List.length_cons, List.length_nil]; omega)
    | trace_state
theorem ok_s_TrapText : FunOk Tryz.prog c_s_TrapText := funOk (eK ok_s_l1In eN) mixd Tryz.func44 (pf := pf_s_TrapText) (by kernel_rfl) fun ts K h => by
  obtain ⟨t0, rfl, q0⟩ := as1_out h
  obtain ⟨n, rfl, q1⟩ := arC_out (rd_int .i64) q0
  exact ⟨_, _, q1, nb 1 Tryz.f44 (by kernel_rfl), _, run_s_TrapText n⟩

def InS (x : Seen) : Prop := InI x.at_ ∧ InI x.r ∧ InI x.addr

/-! strictly ascending lists: they are what their members are -/



/-! neighbours that are alike, in place -/

/-! the core: what it is made of -/
abbrev zCore : Core := ⟨zState, [], zW, false, []⟩
def guessOk (g : List Int) : Bool := decide (g.length = 48) && g.all (fun n => inR n (-1) 65535)
def guessW (g : List Int) (pc : Word) : Word := if inR pc.n 0 (g.length - 1) && (g.getD pc.n.toNat (FT.zero (.int .i64)) != -1) then pointW pc (g.getD pc.n.toNat (FT.zero (.int .i64))) else nextW pc
def learnG (g : List Int) (pc next : Word) : List Int := if inR pc.n 0 (g.length - 1) then g.set pc.n.toNat (andI next.n 65535) else g
def entryOk (e : Entry) : Bool := wordOk e.pc && wordOk e.guess && wordOk e.e.val && wordOk e.e.next && wordOk e.e.put && (insOk e.x || decide (e.x = zI)) && inR e.e.trap 0 5 && inR e.e.r (-1) 7 && decide (e.e.drop ≤ 4096)
def coreOk (c : Core) : Bool := stateOk c.s && decide (c.rob.length ≤ 6) && c.rob.all entryOk && wordOk c.next && guessOk c.guesses
def setBy (e : Entry) : Int := if e.done then e.e.r else setsI e.x
def srcGo (rob : List Entry) (r : Int) : Nat → Int
  | 0 => -1
  | k + 1 => if setBy (rob.getD k (FT.zero .entry)) = r then (k : Int) else srcGo rob r k
def source (rob : List Entry) (i r : Int) : Int := if r < 0 then -1 else srcGo rob r (min i rob.length).toNat
def valueC (c : Core) (i r : Int) : Word × Bool :=
  if source c.rob i r < 0 then (c.s.regs.getD r.toNat (FT.zero .word), true) else if (c.rob.getD (source c.rob i r).toNat (FT.zero .entry)).done then ((c.rob.getD (source c.rob i r).toNat (FT.zero .entry)).e.val, true) else (zW, false)
def LCore (c : Core) (n : Nat) : Prop := LState c.s n ∧ c.rob.length ≤ n ∧ c.guesses.length ≤ n
theorem LCore.mono {c : Core} {n m : Nat} (h : LCore c n) (k : n ≤ m) : LCore c m := ⟨h.1.mono k, Nat.le_trans h.2.1 k, Nat.le_trans h.2.2 k⟩
theorem etaCore (x : Core) : (⟨x.s, x.rob, x.next, x.stop, x.guesses⟩ : Core) = x := rfl
theorem insEq0 (a : Inst) : (a.op == 0 && (a.r == 0 && (a.a == 0 && (a.b == 0 && a.n == 0)))) = decide (a = zI) := by
  obtain ⟨a1, a2, a3, a4, a5⟩ := a
  rw [Bool.eq_iff_iff]; simp
theorem srcGo_in (rob : List Entry) (r : Int) : ∀ k, -1 ≤ srcGo rob r k ∧ srcGo rob r k < k
  | 0 => by simp [srcGo]
  | k + 1 => by
    have := srcGo_in rob r k
    unfold srcGo
    split <;> omega
theorem source_in (rob : List Entry) (i r : Int) : -1 ≤ source rob i r ∧ source rob i r < rob.length := by
  unfold source
  split
  · omega
  · have := srcGo_in rob r (min i rob.length).toNat
    omega
theorem coreOk_iff {c : Core} : coreOk c = true ↔ stateOk c.s = true ∧ c.rob.length ≤ 6 ∧ (∀ e ∈ c.rob, entryOk e = true) ∧ wordOk c.next = true ∧ guessOk c.guesses = true := by
  simp only [coreOk, Bool.and_eq_true, decide_eq_true_eq, List.all_eq_true, and_assoc]
theorem guessOk_len {g : List Int} (h : guessOk g = true) : g.length = 48 := by
  simp only [guessOk, Bool.and_eq_true, decide_eq_true_eq] at h; exact h.1
theorem coreOk_len {c : Core} (h : coreOk c = true) : LenOk c.s ∧ c.rob.length ≤ 6 ∧ c.guesses.length = 48 := by
  obtain ⟨h1, h2, h3, h4, h5⟩ := coreOk_iff.1 h
  exact ⟨stateOk_len h1, h2, guessOk_len h5⟩
theorem coreOk_l {c : Core} (h : coreOk c = true) : LCore c 2147483647 := by
  obtain ⟨h1, h2, h3⟩ := coreOk_len h
  exact ⟨h1.l, by omega, by omega⟩
theorem guessW_yes {g : List Int} {pc : Word} (h : inR pc.n 0 (g.length - 1) = true) (h2 : (g.getD pc.n.toNat (FT.zero (.int .i64)) != -1) = true) : guessW g pc = pointW pc (g.getD pc.n.toNat (FT.zero (.int .i64))) := by
  unfold guessW; rw [h, h2]; rfl
theorem guessW_no {g : List Int} {pc : Word} (h2 : (g.getD pc.n.toNat (FT.zero (.int .i64)) != -1) = false) : guessW g pc = pointW pc (IntKind.i64.wrap (pc.n + 1)) := by
  unfold guessW; rw [h2, Bool.and_false]; rfl
theorem guessW_out {g : List Int} {pc : Word} (h : inR pc.n 0 (g.length - 1) = false) : guessW g pc = pointW pc (IntKind.i64.wrap (pc.n + 1)) := by
  unfold guessW; rw [h]; rfl

def pf_slices_Clone_Entry : PF := ⟨[.t 2], .r [.mv 2 (.k (.v (.c (.nils .entry))))] (.seq (.r [.m 3 0, .s (.isnil 4 3)] (.cond 4 (.r [.mv 2 (.k (.v (.c (.nils .entry))))] .ret) .skip)) (.r [.bs 5 .entry [], .m 6 0, .app 7 .entry 5 6, .m 2 7] .ret))⟩
def c_slices_Clone_Entry : Fun := ⟨109, [], fun ts K => as1 ts fun t0 => arC (pL .entry) t0 fun a => chk (a.length ≤ 2147483647) (K (tL true .entry a) [])⟩
theorem ok_slices_Clone_Entry : FunOk Tryz.prog c_slices_Clone_Entry := funOkN (E := []) envOk_nil mixd Tryz.func109 (pf := pf_slices_Clone_Entry) (by kernel_rfl) rfl (Nat.le_of_ble_eq_true (show Nat.ble 1 Tryz.f109.ntmps = true by kernel_rfl)) fun ts K h => by
  obtain ⟨t0, e0, h⟩ := as1_out h
  subst e0
  obtain ⟨a, e1, h⟩ := arC_out (rd_l .entry) h
  subst e1
  obtain ⟨hpre, h⟩ := chk_o h
  refine ⟨.entry, a, _, rfl, h, 0, fun e => ?_, ?_⟩
  · subst e
    conv => whnf
    exact ⟨rfl, rfl⟩
  · conv => whnf
    repeat' (refine chk_c ?_ ?_ <;> conv => whnf)
    all_goals first
      | (refine ⟨?_⟩; simp; omega)
      | exact ⟨rfl, rfl⟩

def pf_slices_Clone_int : PF := ⟨[.t 2], .r [.mv 2 (.k (.v (.c (.nils (.int .i64)))))] (.seq (.r [.m 3 0, .s (.isnil 4 3)] (.cond 4 (.r [.mv 2 (.k (.v (.c (.nils (.int .i64)))))] .ret) .skip)) (.r [.bs 5 (.int .i64) [], .m 6 0, .app 7 (.int .i64) 5 6, .m 2 7] .ret))⟩
def c_slices_Clone_int : Fun := ⟨60, [], fun ts K => as1 ts fun t0 => arC (pL (.int .i64)) t0 fun a => chk (a.length ≤ 2147483647) (K (tL true (.int .i64) a) [])⟩
theorem ok_slices_Clone_int : FunOk Tryz.prog c_slices_Clone_int := funOkN (E := []) envOk_nil mixd Tryz.func60 (pf := pf_slices_Clone_int) (by kernel_rfl) rfl (Nat.le_of_ble_eq_true (show Nat.ble 1 Tryz.f60.ntmps = true by kernel_rfl)) fun ts K h => by
  obtain ⟨t0, e0, h⟩ := as1_out h
  subst e0
  obtain ⟨a, e1, h⟩ := arC_out (rd_l (.int .i64)) h
  subst e1
  obtain ⟨hpre, h⟩ := chk_o h
  refine ⟨(.int .i64), a, _, rfl, h, 0, fun e => ?_, ?_⟩
  · subst e
    conv => whnf
    exact ⟨rfl, rfl⟩
  · conv => whnf
    repeat' (refine chk_c ?_ ?_ <;> conv => whnf)
    all_goals first
      | (refine ⟨?_⟩; simp; omega)
      | exact ⟨rfl, rfl⟩

def pf_i_GuessOk_1 : PF := ⟨[.t 2], .r [.mv 2 .F] (.r [.m 3 0, .c 4 112 [3, (.i (-1)), (.i 65535)], .bnot 5 4, .m 2 5] .ret)⟩
def c_i_GuessOk_1 : Fun := ⟨117, [], fun ts K => as1 ts fun t0 => arC (pI .i64) t0 fun n => K (tB (!inR n (-1) 65535)) []⟩
theorem run_i_GuessOk_1 (n : Int) : runK [c_i_in] (0) [] pf_i_GuessOk_1 [tI .i64 n] fun r o => r = tB (!inR n (-1) 65535) ∧ o = [] := by
  conv => whnf
  repeat' (first | ((first | refine sel_i (fun h => ?_) (fun h => ?_) | refine chk_c ?_ ?_) <;> conv => whnf) | refine And.intro ?_ rfl | (refine And.intro ?_ ?_ <;> conv => whnf))
  all_goals rfl
theorem ok_i_GuessOk_1 : FunOk Tryz.prog c_i_GuessOk_1 := funOk (eK ok_i_in eN) mixd Tryz.func117 (pf := pf_i_GuessOk_1) (by kernel_rfl) fun ts K h => by
  obtain ⟨t0, rfl, q0⟩ := as1_out h
  obtain ⟨n, rfl, q1⟩ := arC_out (rd_int .i64) q0
  exact ⟨_, _, q1, nb 1 Tryz.f117 (by kernel_rfl), _, run_i_GuessOk_1 n⟩

def lb_slices_IndexFunc_int_0 : PC := .r [.bin 9 .lss 8 7] (.seq (.cond 9 .skip (.exit 0)) (.seq (.blk 1 (.r [.m 10 8, .m 5 10] (.r [.m 11 1, .m 12 0, .m 13 5, .ia 14 (.int .i64) 12 13, .l 15 1 14, .s (.callv (some 16) 11 [15])] (.cond 16 (.r [.m 17 5, .m 4 17] .ret) .skip)))) (.reg [.bin 18 .add 8 (.i 1), .m 8 18])))
def pf_slices_IndexFunc_int : PF := ⟨[.t 4], .r [.mv 4 (.i 0)] (.seq (.r [.m 6 0, .len 7 false 6, .mv 8 (.i 0)] (.blk 0 (.loop [0, 1, 7, 8] lb_slices_IndexFunc_int_0))) (.r [.mv 4 (.i (-1))] .ret))⟩
def c_slices_IndexFunc_int__impl_GuessOk_1 : Fun := ⟨165, [], fun ts K => as2 ts fun t0 t1 => arC (pL (.int .i64)) t0 fun xs => arF0 117 t1 fun g => chk (xs.length ≤ 2147483647) (K (tN (idxOf (fun n => !inR n (-1) 65535) xs)) [])⟩
theorem run_slices_IndexFunc_int__impl_GuessOk_1 (xs : List (FT.Ty (.int .i64))) (g : Unit) (hpre : xs.length ≤ 2147483647) : runK [c_i_GuessOk_1] (xs.length + 1) [] pf_slices_IndexFunc_int [tL false (.int .i64) xs, .fn 117 []] fun r o => r = tN (idxOf (fun n => !inR n (-1) 65535) xs) ∧ o = [] := by
  conv => whnf
  refine loop (α := Nat) (fun i => ⟨[(0, .v (.c (.sl false (.int .i64) 0))), (1, .fn 117 []), (7, .v (.c (.int .i64 (xs.length : Int)))), (8, .v (.c (.int .i64 (i : Int))))], [(0, some (.flat false (.int .i64) none xs))], nums.tail, [], false, []⟩)
      (fun i => i ≤ xs.length ∧ idxOf (fun n => !inR n (-1) 65535) xs = idxGo (fun n => !inR n (-1) 65535) (xs.drop i) i) (fun i => xs.length - i) (fun i R hI hR => ?_) 0 _ ⟨by simp, rfl⟩ (by simp)
  obtain ⟨hi, hx⟩ := hI
  conv => whnf
  refine sel_i (fun h2 => ?_) (fun h2 => ?_)
  · have hlt : i < xs.length := by simp at h2; omega
    conv => whnf
    repeat (refine chk_i (by first | omega | (simp; omega)) ?_; conv => whnf)
    refine sel_i (fun h3 => ?_) (fun h3 => ?_)
    · conv => whnf
      rw [hx, idxGo_yes (z := FT.zero (.int .i64)) hlt (by first | (simp only [keyEq] at h3; exact h3) | (simpa using h3))]
      exact ⟨rfl, rfl⟩
    · conv => whnf
      rw [wrap_id (n := (i : Int) + 1) (by omega) (by omega)]
      exact hR (i + 1) ⟨by omega, by rw [hx, idxGo_no (z := FT.zero (.int .i64)) hlt (by first | (simp only [keyEq] at h3; exact h3) | (simpa using h3))]⟩ (by omega)
  · conv => whnf
    rw [hx, idxGo_end (by simp at h2; omega)]
    exact ⟨rfl, rfl⟩
theorem ok_slices_IndexFunc_int__impl_GuessOk_1 : FunOk Tryz.prog c_slices_IndexFunc_int__impl_GuessOk_1 := funOk (eK ok_i_GuessOk_1 eN) mixd Tryz.func165 (pf := pf_slices_IndexFunc_int) (by kernel_rfl) fun ts K h => by
  obtain ⟨t0, t1, rfl, q0⟩ := as2_out h
  obtain ⟨xs, rfl, q1⟩ := arC_out (rd_l (.int .i64)) q0
  obtain ⟨g, rfl, q2⟩ := arF0_out q1
  obtain ⟨hpre, hk⟩ := chk_o q2
  exact ⟨_, _, hk, nb 2 Tryz.f165 (by kernel_rfl), _, run_slices_IndexFunc_int__impl_GuessOk_1 xs g hpre⟩

def pf_slices_ContainsFunc_int : PF := ⟨[.t 4], .r [.mv 4 .F] (.r [.m 5 0, .m 6 1, .c 7 165 [5, 6], .bin 8 .geq 7 (.i 0), .m 4 8] .ret)⟩
def c_slices_ContainsFunc_int__impl_GuessOk_1 : Fun := ⟨116, [], fun ts K => as2 ts fun t0 t1 => arC (pL (.int .i64)) t0 fun xs => arF0 117 t1 fun g => chk (xs.length ≤ 2147483647) (K (tB (xs.any (fun n => !inR n (-1) 65535))) [])⟩
theorem run_slices_ContainsFunc_int__impl_GuessOk_1 (xs : List (FT.Ty (.int .i64))) (g : Unit) (hpre : xs.length ≤ 2147483647) : runK [c_slices_IndexFunc_int__impl_GuessOk_1, c_i_GuessOk_1] (0) [] pf_slices_ContainsFunc_int [tL false (.int .i64) xs, .fn 117 []] fun r o => r = tB (xs.any (fun n => !inR n (-1) 65535)) ∧ o = [] := by
  conv => whnf
  repeat' (first | ((first | refine sel_i (fun h => ?_) (fun h => ?_) | refine chk_c ?_ ?_) <;> conv => whnf) | refine And.intro ?_ rfl | (refine And.intro ?_ ?_ <;> conv => whnf))
  all_goals first | (refine ⟨?_⟩; exact hpre) | exact hpre | (rw [← idxOf_any]; rfl) | (rw [← idxOf_any])
theorem ok_slices_ContainsFunc_int__impl_GuessOk_1 : FunOk Tryz.prog c_slices_ContainsFunc_int__impl_GuessOk_1 := funOk (eK ok_slices_IndexFunc_int__impl_GuessOk_1 (eK ok_i_GuessOk_1 eN)) mixd Tryz.func116 (pf := pf_slices_ContainsFunc_int) (by kernel_rfl) fun ts K h => by
  obtain ⟨t0, t1, rfl, q0⟩ := as2_out h
  obtain ⟨xs, rfl, q1⟩ := arC_out (rd_l (.int .i64)) q0
  obtain ⟨g, rfl, q2⟩ := arF0_out q1
  obtain ⟨hpre, hk⟩ := chk_o q2
  exact ⟨_, _, hk, nb 2 Tryz.f116 (by kernel_rfl), _, run_slices_ContainsFunc_int__impl_GuessOk_1 xs g hpre⟩

theorem eqLen48 (n : Nat) : ((n : Int) == 48) = decide (n = 48) := eqLen n 48

def pf_i_GuessOk : PF := ⟨[.t 2], .r [.mv 2 .F] (.r [.m 3 0, .len 4 false 3, .bin 5 .eql 4 (.i 48), .m 6 5, .y 6 7 (.mv 7 0), .y 6 8 (.call (some 8) 116 [7, (.k (.fn 117 []))]), .y 6 9 (.bnot 9 8), .pick 10 6 9 .F, .m 2 10] .ret)⟩
def c_i_GuessOk : Fun := ⟨66, [], fun ts K => as1 ts fun t0 => arC (pL (.int .i64)) t0 fun g => chk (g.length ≤ 2147483647) (K (tB (guessOk g)) [])⟩
theorem run_i_GuessOk (g : List (FT.Ty (.int .i64))) (hpre : g.length ≤ 2147483647) : runK [c_slices_ContainsFunc_int__impl_GuessOk_1, c_i_GuessOk_1] (0) [] pf_i_GuessOk [tL false (.int .i64) g] fun r o => r = tB (guessOk g) ∧ o = [] := by
  conv => whnf
  repeat' (first | ((first | refine sel_i (fun h => ?_) (fun h => ?_) | refine chk_c ?_ ?_) <;> conv => whnf) | refine And.intro ?_ rfl | (refine And.intro ?_ ?_ <;> conv => whnf))
  all_goals first | (refine ⟨?_⟩; exact hpre) | (simp only [eqLen48, all_any, Bool.not_not] at *; simp_all [guessOk]; done) | trace_state
theorem ok_i_GuessOk : FunOk Tryz.prog c_i_GuessOk := funOk (eK ok_slices_ContainsFunc_int__impl_GuessOk_1 (eK ok_i_GuessOk_1 eN)) mixd Tryz.func66 (pf := pf_i_GuessOk) (by kernel_rfl) fun ts K h => by
  obtain ⟨t0, rfl, q0⟩ := as1_out h
  obtain ⟨g, rfl, q1⟩ := arC_out (rd_l (.int .i64)) q0
  obtain ⟨hpre, hk⟩ := chk_o q1
  exact ⟨_, _, hk, nb 1 Tryz.f66 (by kernel_rfl), _, run_i_GuessOk g hpre⟩

def lb_s_GuessOk_0 : PC := .seq (.r [.m 4 3, .m 5 0, .len 6 false 5, .bin 7 .lss 4 6] (.cond 7 .skip (.exit 0))) (.seq (.blk 1 (.r [.m 10 0, .m 11 3, .ia 12 (.int .i64) 10 11, .l 13 1 12, .c 14 53 [13, (.i (-1)), (.i 65535)], .bnot 15 14] (.cond 15 (.r [.mv 2 .F] .ret) .skip))) (.reg [.m 8 3, .bin 9 .add 8 (.i 1), .m 3 9]))
def pf_s_GuessOk : PF := ⟨[.t 2], .r [.mv 2 .F] (.seq (.r [.mv 3 (.i 0)] (.blk 0 (.loop [0, 3] lb_s_GuessOk_0))) (.r [.m 16 0, .len 17 false 16, .bin 18 .eql 17 (.i 48), .m 2 18] .ret))⟩
def c_s_GuessOk : Fun := ⟨43, [], fun ts K => as1 ts fun t0 => arC (pL (.int .i64)) t0 fun g => chk (g.length ≤ 2147483647) (K (tB (guessOk g)) [])⟩
theorem run_s_GuessOk (g : List (FT.Ty (.int .i64))) (hpre : g.length ≤ 2147483647) : runK [c_s_l1In] (g.length + 1) [] pf_s_GuessOk [tL false (.int .i64) g] fun r o => r = tB (guessOk g) ∧ o = [] := by
  conv => whnf
  refine loop (α := Nat) (fun i => ⟨[(0, .v (.c (.sl false (.int .i64) 0))), (3, .v (.c (.int .i64 (i : Int))))], [(0, some (.flat false (.int .i64) none g))], nums.tail, [], false, []⟩)
      (fun i => i ≤ g.length ∧ (g.drop i).all (fun n => inR n (-1) 65535) = g.all (fun n => inR n (-1) 65535)) (fun i => g.length - i) (fun i R hI hR => ?_) 0 _ ⟨by simp, by simp⟩ (by omega)
  obtain ⟨hi, hx⟩ := hI
  have w3 : IntKind.i64.wrap ((i : Int) + 1) = ((i + 1 : Nat) : Int) := by rw [wrap_id (by omega) (by omega)]; rfl
  conv => whnf
  repeat' (first | ((first | refine sel_i (fun h => ?_) (fun h => ?_) | refine chk_c ?_ ?_) <;> conv => whnf) | refine And.intro ?_ rfl | (refine And.intro ?_ ?_ <;> conv => whnf))
  all_goals (simp only [w3, eqLen48, Int.toNat_natCast, Bool.not_eq_true', Bool.not_eq_false', decide_eq_true_eq, decide_eq_false_iff_not] at *)
  all_goals first
    | (refine ⟨?_⟩; omega)
    | (unfold guessOk; rw [all_no (z := FT.zero (.int .i64)) (by omega) (by assumption) hx, Bool.and_false]; done)
    | (exact hR (i + 1) ⟨by omega, all_yes (z := FT.zero (.int .i64)) (by omega) (by assumption) hx⟩ (by omega))
    | (unfold guessOk; rw [all_end (by omega) hx, Bool.and_true]; done)
    | trace_state
theorem ok_s_GuessOk : FunOk Tryz.prog c_s_GuessOk := funOk (eK ok_s_l1In eN) mixd Tryz.func43 (pf := pf_s_GuessOk) (by kernel_rfl) fun ts K h => by
  obtain ⟨t0, rfl, q0⟩ := as1_out h
  obtain ⟨g, rfl, q1⟩ := arC_out (rd_l (.int .i64)) q0
  obtain ⟨hpre, hk⟩ := chk_o q1
  exact ⟨_, _, hk, nb 1 Tryz.f43 (by kernel_rfl), _, run_s_GuessOk g hpre⟩

theorem u64_id {n : Int} (h : 0 ≤ n ∧ n ≤ 2147483647) : IntKind.u64.wrap n = n := by
  show n % 18446744073709551616 = n
  omega
theorem and32 {b : Int} (h0 : 0 ≤ b) (h1 : b ≤ 2147483647) : IntKind.u64.wrap ((BitVec.ofInt IntKind.u64.bits b &&& BitVec.ofInt IntKind.u64.bits 4294967295).toNat : Int) = b := by
  obtain ⟨m, rfl⟩ := Int.eq_ofNat_of_zero_le h0
  have e : (BitVec.ofInt IntKind.u64.bits (m : Int) &&& BitVec.ofInt IntKind.u64.bits 4294967295).toNat = m := by
    rw [BitVec.toNat_and, BitVec.ofInt_natCast, BitVec.toNat_ofNat]
    have e2 : (BitVec.ofInt IntKind.u64.bits 4294967295).toNat = 2 ^ 32 - 1 := by decide
    rw [e2, Nat.and_two_pow_sub_one_eq_mod, Nat.mod_eq_of_lt (a := m) (by show _ < 2 ^ 64; omega), Nat.mod_eq_of_lt (by omega)]
  rw [e]
  exact u64_id ⟨by omega, by omega⟩
theorem shr32 {b : Int} (h0 : 0 ≤ b) (h1 : b ≤ 2147483647) : b.fdiv (2 ^ min (Int.toNat 32) IntKind.u64.bits) = 0 := by
  have e : min (Int.toNat 32) IntKind.u64.bits = 32 := by decide
  rw [e, Int.fdiv_eq_ediv_of_nonneg _ (by decide)]
  omega

def pf_bits_Mul64 : PF := ⟨[.t 4, .t 5], .r [.mv 4 (.k (.v (.c (.int .u64 0)))), .mv 5 (.k (.v (.c (.int .u64 0))))] (.r [.m 14 0, .bin 15 .and 14 (.k (.v (.c (.int .u64 4294967295)))), .m 6 15] (.r [.m 16 0, .bin 17 .shr 16 (.k (.v (.c (.int .u64 32)))), .m 7 17] (.r [.m 18 1, .bin 19 .and 18 (.k (.v (.c (.int .u64 4294967295)))), .m 8 19] (.r [.m 20 1, .bin 21 .shr 20 (.k (.v (.c (.int .u64 32)))), .m 9 21] (.r [.m 22 6, .m 23 8, .bin 24 .mul 22 23, .m 10 24] (.r [.m 25 7, .m 26 8, .bin 27 .mul 25 26, .m 28 10, .bin 29 .shr 28 (.k (.v (.c (.int .u64 32)))), .bin 30 .add 27 29, .m 11 30] (.r [.m 31 11, .bin 32 .and 31 (.k (.v (.c (.int .u64 4294967295)))), .m 12 32] (.r [.m 33 11, .bin 34 .shr 33 (.k (.v (.c (.int .u64 32)))), .m 13 34] (.r [.m 35 12, .m 36 6, .m 37 9, .bin 38 .mul 36 37, .bin 39 .add 35 38, .m 12 39] (.r [.m 40 7, .m 41 9, .bin 42 .mul 40 41, .m 43 13, .bin 44 .add 42 43, .m 45 12, .bin 46 .shr 45 (.k (.v (.c (.int .u64 32)))), .bin 47 .add 44 46, .m 4 47] (.r [.m 48 0, .m 49 1, .bin 50 .mul 48 49, .m 5 50] .ret)))))))))))⟩
def c_bits_Mul64 : Fun := ⟨174, [], fun ts K => as2 ts fun t0 t1 => arC (pI .u64) t0 fun a => arC (pI .u64) t1 fun b => chk (a = 1 ∧ 0 ≤ b ∧ b ≤ 2147483647) (K (.tup [.c (.int .u64 0), .c (.int .u64 b)]) [])⟩
theorem run_bits_Mul64 (a : Int) (b : Int) (hpre : a = 1 ∧ 0 ≤ b ∧ b ≤ 2147483647) : runK [] (0) [] pf_bits_Mul64 [tI .u64 a, tI .u64 b] fun r o => r = .tup [.c (.int .u64 0), .c (.int .u64 b)] ∧ o = [] := by
  obtain ⟨rfl, h0, h1⟩ := hpre
  have e1 := and32 (b := 1) (by decide) (by decide)
  have e2 := and32 h0 h1
  have e3 := shr32 (b := 1) (by decide) (by decide)
  have e4 := shr32 h0 h1
  have e5 := u64_id ⟨h0, h1⟩
  have e6 := u64_id (n := 0) (by decide)
  have e7 := shr32 (b := 0) (by decide) (by decide)
  have e8 := and32 (b := 0) (by decide) (by decide)
  conv => whnf
  repeat' (first | ((first | refine sel_i (fun h => ?_) (fun h => ?_) | refine chk_c ?_ ?_) <;> conv => whnf) | refine And.intro ?_ rfl | (refine And.intro ?_ ?_ <;> conv => whnf))
  all_goals first
    | (refine ⟨?_⟩; decide)
    | (simp only [e1, e2, e3, e4, e5, e6, e7, e8, Int.one_mul, Int.zero_mul, Int.mul_zero, Int.add_zero]; done)
    | trace_state
theorem ok_bits_Mul64 : FunOk Tryz.prog c_bits_Mul64 := funOk (eN) mixd Tryz.func174 (pf := pf_bits_Mul64) (by kernel_rfl) fun ts K h => by
  obtain ⟨t0, t1, rfl, q0⟩ := as2_out h
  obtain ⟨a, rfl, q1⟩ := arC_out (rd_int .u64) q0
  obtain ⟨b, rfl, q2⟩ := arC_out (rd_int .u64) q1
  obtain ⟨hpre, hk⟩ := chk_o q2
  exact ⟨_, _, hk, nb 2 Tryz.f174 (by kernel_rfl), _, run_bits_Mul64 a b hpre⟩

def pf_bits_Mul : PF := ⟨[.t 4, .t 5], .r [.mv 4 (.k (.v (.c (.int .u64 0)))), .mv 5 (.k (.v (.c (.int .u64 0))))] (.seq (.cond .F (.r [.m 11 0, .s (.conv 12 .u32 11), .m 13 1, .s (.conv 14 .u32 13), .c 15 173 [12, 14], .m 10 15, .ext 16 10 0, .ext 17 10 1, .m 6 16, .m 7 17] (.r [.m 18 6, .s (.conv 19 .u64 18), .m 20 7, .s (.conv 21 .u64 20), .m 4 19, .m 5 21] .ret)) .skip) (.r [.m 23 0, .m 24 1, .c 25 174 [23, 24], .m 22 25, .ext 26 22 0, .ext 27 22 1, .m 8 26, .m 9 27] (.r [.m 28 8, .m 29 9, .m 4 28, .m 5 29] .ret)))⟩
def c_bits_Mul : Fun := ⟨122, [], fun ts K => as2 ts fun t0 t1 => arC (pI .u64) t0 fun a => arC (pI .u64) t1 fun b => chk (a = 1 ∧ 0 ≤ b ∧ b ≤ 2147483647) (K (.tup [.c (.int .u64 0), .c (.int .u64 b)]) [])⟩
theorem run_bits_Mul (a : Int) (b : Int) (hpre : a = 1 ∧ 0 ≤ b ∧ b ≤ 2147483647) : runK [c_bits_Mul64] (0) [] pf_bits_Mul [tI .u64 a, tI .u64 b] fun r o => r = .tup [.c (.int .u64 0), .c (.int .u64 b)] ∧ o = [] := by
  conv => whnf
  repeat' (first | ((first | refine sel_i (fun h => ?_) (fun h => ?_) | refine chk_c ?_ ?_) <;> conv => whnf) | refine And.intro ?_ rfl | (refine And.intro ?_ ?_ <;> conv => whnf))
  all_goals first
    | (refine ⟨?_⟩; exact hpre)
    | rfl
    | trace_state
theorem ok_bits_Mul : FunOk Tryz.prog c_bits_Mul := funOk (eK ok_bits_Mul64 eN) mixd Tryz.func122 (pf := pf_bits_Mul) (by kernel_rfl) fun ts K h => by
  obtain ⟨t0, t1, rfl, q0⟩ := as2_out h
  obtain ⟨a, rfl, q1⟩ := arC_out (rd_int .u64) q0
  obtain ⟨b, rfl, q2⟩ := arC_out (rd_int .u64) q1
  obtain ⟨hpre, hk⟩ := chk_o q2
  exact ⟨_, _, hk, nb 2 Tryz.f122 (by kernel_rfl), _, run_bits_Mul a b hpre⟩

def repS (v : Int) (n k : Nat) : List Int := List.replicate k v ++ List.replicate (n - k) (FT.zero (.int .i64))
theorem repS_len (v : Int) {n k : Nat} (h : k ≤ n) : (repS v n k).length = n := by simp [repS]; omega
theorem repS_0 {x : List Int} (hx : x.length = 1) (n : Nat) : over (List.replicate n (FT.zero (.int .i64))) 0 (x.take n) = repS (x.getD 0 (FT.zero (.int .i64))) n (min 1 n) := by
  obtain ⟨v, rfl⟩ := List.length_eq_one_iff.1 hx
  cases n with
  | zero => rfl
  | succ n =>
    have e : min 1 (n + 1) = 1 := by omega
    rw [e]
    simp [over, repS]
theorem repS_win (v : Int) {n k : Nat} (h : k ≤ n) : win (repS v n k) 0 k = List.replicate k v := by
  unfold win repS
  rw [List.drop_zero, List.take_append_of_le_length (by simp), List.take_of_length_le (by simp)]
theorem repS_step (v : Int) {n k : Nat} (h : k ≤ n) : over (repS v n k) k ((List.replicate k v).take (n - k)) = repS v n (k + min k (n - k)) := by
  unfold over
  have e1 : (repS v n k).take k = List.replicate k v := by
    unfold repS; rw [List.take_append_of_le_length (by simp), List.take_of_length_le (by simp)]
  have e2 : (List.replicate k v).take (n - k) = List.replicate (min k (n - k)) v := by rw [List.take_replicate, Nat.min_comm]
  rw [e1, e2, List.length_replicate]
  unfold repS
  rw [List.drop_append, List.drop_replicate, List.drop_replicate, List.length_replicate]
  have e3 : k - (k + min k (n - k)) = 0 := by omega
  have e4 : n - k - (k + min k (n - k) - k) = n - (k + min k (n - k)) := by omega
  rw [e3, e4, List.replicate_zero, List.nil_append, ← List.replicate_append_replicate, List.append_assoc]

def lb_slices_Repeat_int_0 : PC := .seq (.r [.m 34 8, .m 35 7, .len 36 false 35, .bin 37 .lss 34 36] (.cond 37 .skip (.exit 0))) (.blk 1 (.rgd [] [.m 38 8, .m 39 7, .m 40 8, .s (.slc 41 (.int .i64) 39 (some 40) none), .m 42 7, .m 43 8, .s (.slc 44 (.int .i64) 42 none (some 43)), .s (.cpy (some 45) (.int .i64) 41 44), .bin 46 .add 38 45, .m 8 46] (.ts [0, 1, 2, 4, 5] (.alt 3 false (.one 6 true (.one 7 true (.ts [8, 9] (.done (some [7, 8]))))) (.alt 6 false (.one 3 true (.one 7 true (.ts [8, 9] (.done (some [7, 8]))))) .nil)))))
def pf_slices_Repeat_int : PF := ⟨[.t 4], .r [.mv 4 (.k (.v (.c (.nils (.int .i64)))))] (.seq (.r [.m 9 1, .bin 10 .lss 9 (.i 0)] (.cond 10 (.reg [.s (.no), .s (.no)]) .skip)) (.r [.m 13 0, .len 14 false 13, .s (.conv 15 .u64 14), .m 16 1, .s (.conv 17 .u64 16), .c 18 122 [15, 17], .m 12 18, .ext 19 12 0, .ext 20 12 1, .m 5 19, .m 6 20] (.seq (.r [.m 21 5, .bin 22 .gtr 21 (.k (.v (.c (.int .u64 0)))), .m 23 22, .n 23 24 (.mv 24 6), .n 23 25 (.bin 25 .gtr 24 (.k (.v (.c (.int .u64 9223372036854775807))))), .pick 26 23 .T 25] (.cond 26 (.reg [.s (.no), .s (.no)]) .skip)) (.r [.m 28 6, .s (.conv 29 .i64 28), .s (.mkS 30 (.int .i64) 29), .m 7 30] (.r [.m 31 7, .m 32 0, .s (.cpy (some 33) (.int .i64) 31 32), .m 8 33] (.seq (.blk 0 (.loop [7, 8] lb_slices_Repeat_int_0)) (.r [.m 47 7, .m 4 47] .ret)))))))⟩
def c_slices_Repeat_int : Fun := ⟨69, [], fun ts K => as2 ts fun t0 t1 => arC (pL (.int .i64)) t0 fun x => arC (pI .i64) t1 fun n => chk (x.length = 1 ∧ 0 ≤ n ∧ n ≤ 2147483647) (K (tL true (.int .i64) (List.replicate n.toNat (x.getD 0 (FT.zero (.int .i64))))) [])⟩
theorem run_slices_Repeat_int (x : List (FT.Ty (.int .i64))) (n : Int) (hpre : x.length = 1 ∧ 0 ≤ n ∧ n ≤ 2147483647) : runK [c_bits_Mul] (n.toNat + 1) [] pf_slices_Repeat_int [tL false (.int .i64) x, tI .i64 n] fun r o => r = tL true (.int .i64) (List.replicate n.toNat (x.getD 0 (FT.zero (.int .i64)))) ∧ o = [] := by
  obtain ⟨hx, h0, h1⟩ := hpre
  have w1 : IntKind.u64.wrap (x.length : Int) = 1 := by rw [hx]; decide
  have w2 : IntKind.u64.wrap n = n := u64_id ⟨h0, h1⟩
  have w3 : IntKind.i64.wrap n = n := wrap_id (by omega) (by omega)
  have e0 := repS_0 hx n.toNat
  conv => whnf
  repeat' (first | ((first | refine sel_i (fun h => ?_) (fun h => ?_) | refine chk_c ?_ ?_) <;> conv => whnf) | refine And.intro ?_ rfl | (refine And.intro ?_ ?_ <;> conv => whnf))
  all_goals (simp only [w1, w2, w3, decide_eq_true_eq, decide_eq_false_iff_not, List.length_replicate, hx, e0] at *)
  all_goals first
    | omega
    | (refine ⟨?_⟩; omega)
    | skip
  generalize x.getD 0 (FT.zero (.int .i64)) = v
  refine loop (α := Nat) (fun k => ⟨[(7, .v (.c (.sl true (.int .i64) 0))), (8, .v (.c (.int .i64 (k : Int))))], [(0, some (.flat true (.int .i64) none (repS v n.toNat k)))], nums.tail, [], false, []⟩)
    (fun k => k ≤ n.toNat ∧ (k = 0 → n = 0)) (fun k => n.toNat - k) (fun k R hI hR => ?_) (min 1 n.toNat) _ ⟨by omega, by omega⟩ (by omega)
  obtain ⟨hk, hk0⟩ := hI
  have hl := repS_len v hk
  have hw := repS_win v hk
  have hs := repS_step v hk
  have g1 : ((n.toNat : Int) - k).toNat = n.toNat - k := by omega
  have g2 : min k (n.toNat - k) + k ≤ n.toNat := by omega
  conv => whnf
  repeat' (first | ((first | refine sel_i (fun h => ?_) (fun h => ?_) | refine chk_c ?_ ?_) <;> conv => whnf) | refine And.intro ?_ rfl | (refine And.intro ?_ ?_ <;> conv => whnf))
  all_goals (simp only [hl, Int.toNat_natCast, hw, g1, Nat.zero_add, List.length_replicate, hs, decide_eq_true_eq, decide_eq_false_iff_not] at *)
  all_goals first
    | trivial
    | (refine ⟨?_⟩; omega)
    | (rw [show k = n.toNat by omega]; unfold repS; simp; done)
    | (rw [wrap_id (n := (k : Int) + (min k (n.toNat - k) : Nat)) (by omega) (by omega)]
       exact hR (k + min k (n.toNat - k)) ⟨by omega, by omega⟩ (by omega))
    | trace_state
theorem ok_slices_Repeat_int : FunOk Tryz.prog c_slices_Repeat_int := funOk (eK ok_bits_Mul eN) mixd Tryz.func69 (pf := pf_slices_Repeat_int) (by kernel_rfl) fun ts K h => by
  obtain ⟨t0, t1, rfl, q0⟩ := as2_out h
  obtain ⟨x, rfl, q1⟩ := arC_out (rd_l (.int .i64)) q0
  obtain ⟨n, rfl, q2⟩ := arC_out (rd_int .i64) q1
  obtain ⟨hpre, hk⟩ := chk_o q2
  exact ⟨_, _, hk, nb 2 Tryz.f69 (by kernel_rfl), _, run_slices_Repeat_int x n hpre⟩

def pf_i_Guess : PF := ⟨[.c 4 true 6], .r [.box 3 1, .alloc 4 zcW] (.seq (.r [.f 5 3 0, .l 6 1 5, .m 7 0, .len 8 false 7, .bin 9 .sub 8 (.i 1), .c 10 112 [6, (.i 0), 9], .m 11 10, .y 11 12 (.mv 12 0), .y 11 13 (.fa 13 3 0), .y 11 14 (.load 14 false 1 13), .y 11 15 (.ia 15 (.int .i64) 12 14), .y 11 16 (.load 16 false 1 15), .y 11 17 (.bin 17 .neq 16 (.i (-1))), .pick 18 11 17 .F] (.cond 18 (.seq (.rgd [] [.L 19 6 3, .m 20 0, .f 21 3 0, .l 22 1 21, .ia 23 (.int .i64) 20 22, .l 24 1 23, .c 25 242 [19, 24], .o 6 4 25] (.ts [0, 1, 2, 3, 4, 5] (.one 6 true (.one 7 true .d)))) .ret) .skip)) (.r [.L 26 6 3, .f 27 3 0, .l 28 1 27, .bin 29 .add 28 (.i 1), .c 30 242 [26, 29], .o 6 4 30] .ret))⟩
def c_i_Guess : Fun := ⟨208, [], fun ts K => as2 ts fun t0 t1 => arC (pL (.int .i64)) t0 fun g => arG pWordT t1 fun pc => chk (g.length ≤ 2147483647) (K (tG ((guessW g pc).tc [])) [])⟩
theorem run_i_Guess (g : List (FT.Ty (.int .i64))) (pc : Word) (hpre : g.length ≤ 2147483647) : runK [c_i_in, c_i_Point] (0) [] pf_i_Guess [tL false (.int .i64) g, tG (pc.tc [])] fun r o => r = tG ((guessW g pc).tc []) ∧ o = [] := by
  have w1 : IntKind.i64.wrap ((g.length : Int) - 1) = (g.length : Int) - 1 := wrap_id (by omega) (by omega)
  conv => whnf
  repeat' (first | ((first | refine sel_i (fun h => ?_) (fun h => ?_) | refine chk_c ?_ ?_) <;> conv => whnf) | refine And.intro ?_ rfl | (refine And.intro ?_ ?_ <;> conv => whnf))
  all_goals (try simp only [w1, etaKey, etaWord] at *)
  all_goals first
    | (refine ⟨?_⟩; have hr := inR_t.1 (show inR pc.n 0 ((g.length : Int) - 1) = true by assumption); omega)
    | (rw [guessW_yes (by assumption) (by assumption)]; rfl)
    | (rw [guessW_no (by assumption)]; rfl)
    | (rw [guessW_out (by assumption)]; rfl)
    | trace_state
theorem ok_i_Guess : FunOk Tryz.prog c_i_Guess := funOk (eK ok_i_in (eK ok_i_Point eN)) mixd Tryz.func208 (pf := pf_i_Guess) (by kernel_rfl) fun ts K h => by
  obtain ⟨t0, t1, rfl, q0⟩ := as2_out h
  obtain ⟨g, rfl, q1⟩ := arC_out (rd_l (.int .i64)) q0
  obtain ⟨pc, rfl, q2⟩ := arG_out rd_word q1
  obtain ⟨hpre, hk⟩ := chk_o q2
  exact ⟨_, _, hk, nb 2 Tryz.f208 (by kernel_rfl), _, run_i_Guess g pc hpre⟩

def pf_s_Guess : PF := ⟨[.c 4 true 6], .r [.box 3 1, .alloc 4 zcW] (.seq (.r [.f 5 3 0, .l 6 1 5, .m 7 0, .len 8 false 7, .bin 9 .sub 8 (.i 1), .c 10 53 [6, (.i 0), 9], .m 11 10, .y 11 12 (.mv 12 0), .y 11 13 (.fa 13 3 0), .y 11 14 (.load 14 false 1 13), .y 11 15 (.ia 15 (.int .i64) 12 14), .y 11 16 (.load 16 false 1 15), .y 11 17 (.bin 17 .neq 16 (.i (-1))), .pick 18 11 17 .F] (.cond 18 (.seq (.rgd [] [.L 19 6 3, .m 20 0, .f 21 3 0, .l 22 1 21, .ia 23 (.int .i64) 20 22, .l 24 1 23, .c 25 152 [19, 24], .o 6 4 25] (.ts [0, 1, 2, 3, 4, 5] (.one 6 true (.one 7 true .d)))) .ret) .skip)) (.r [.L 26 6 3, .f 27 3 0, .l 28 1 27, .bin 29 .add 28 (.i 1), .c 30 152 [26, 29], .o 6 4 30] .ret))⟩
def c_s_Guess : Fun := ⟨101, [], fun ts K => as2 ts fun t0 t1 => arC (pL (.int .i64)) t0 fun g => arG pWordT t1 fun pc => chk (g.length ≤ 2147483647) (K (tG ((guessW g pc).tc [])) [])⟩
theorem run_s_Guess (g : List (FT.Ty (.int .i64))) (pc : Word) (hpre : g.length ≤ 2147483647) : runK [c_s_l1In, c_s_Point] (0) [] pf_s_Guess [tL false (.int .i64) g, tG (pc.tc [])] fun r o => r = tG ((guessW g pc).tc []) ∧ o = [] := by
  have w1 : IntKind.i64.wrap ((g.length : Int) - 1) = (g.length : Int) - 1 := wrap_id (by omega) (by omega)
  conv => whnf
  repeat' (first | ((first | refine sel_i (fun h => ?_) (fun h => ?_) | refine chk_c ?_ ?_) <;> conv => whnf) | refine And.intro ?_ rfl | (refine And.intro ?_ ?_ <;> conv => whnf))
  all_goals (try simp only [w1, etaKey, etaWord] at *)
  all_goals first
    | (refine ⟨?_⟩; have hr := inR_t.1 (show inR pc.n 0 ((g.length : Int) - 1) = true by assumption); omega)
    | (rw [guessW_yes (by assumption) (by assumption)]; rfl)
    | (rw [guessW_no (by assumption)]; rfl)
    | (rw [guessW_out (by assumption)]; rfl)
    | trace_state
theorem ok_s_Guess : FunOk Tryz.prog c_s_Guess := funOk (eK ok_s_l1In (eK ok_s_Point eN)) mixd Tryz.func101 (pf := pf_s_Guess) (by kernel_rfl) fun ts K h => by
  obtain ⟨t0, t1, rfl, q0⟩ := as2_out h
  obtain ⟨g, rfl, q1⟩ := arC_out (rd_l (.int .i64)) q0
  obtain ⟨pc, rfl, q2⟩ := arG_out rd_word q1
  obtain ⟨hpre, hk⟩ := chk_o q2
  exact ⟨_, _, hk, nb 2 Tryz.f101 (by kernel_rfl), _, run_s_Guess g pc hpre⟩

def pf_i_Learn : PF := ⟨[.t 6], .r [.box 4 1, .box 5 2, .mv 6 (.k (.v (.c (.nils (.int .i64)))))] (.r [.m 8 0, .c 9 60 [8], .m 7 9] (.seq (.r [.f 10 4 0, .l 11 1 10, .m 12 0, .len 13 false 12, .bin 14 .sub 13 (.i 1), .c 15 112 [11, (.i 0), 14]] (.cond 15 (.rgd [] [.m 16 7, .f 17 4 0, .l 18 1 17, .L 19 6 5, .c 20 216 [19], .s (.fld 21 20 0 1 false), .ia 22 (.int .i64) 16 18, .o 1 22 21] (.ts [0, 1, 2, 3] (.one 4 false (.ts [5, 6] (.one 7 true .d))))) .skip)) (.r [.m 23 7, .m 6 23] .ret)))⟩
def c_i_Learn : Fun := ⟨172, [], fun ts K => as3 ts fun t0 t1 t2 => arC (pL (.int .i64)) t0 fun g => arG pWordT t1 fun pc => arG pWordT t2 fun nx => chk (g.length ≤ 2147483647) (K (tL true (.int .i64) (learnG g pc nx)) [])⟩
theorem run_i_Learn (g : List (FT.Ty (.int .i64))) (pc : Word) (nx : Word) (hpre : g.length ≤ 2147483647) : runK [c_slices_Clone_int, c_i_in, c_i_Bare] (0) [] pf_i_Learn [tL false (.int .i64) g, tG (pc.tc []), tG (nx.tc [])] fun r o => r = tL true (.int .i64) (learnG g pc nx) ∧ o = [] := by
  have w1 : IntKind.i64.wrap ((g.length : Int) - 1) = (g.length : Int) - 1 := wrap_id (by omega) (by omega)
  conv => whnf
  repeat' (first | ((first | refine sel_i (fun h => ?_) (fun h => ?_) | refine chk_c ?_ ?_) <;> conv => whnf) | refine And.intro ?_ rfl | (refine And.intro ?_ ?_ <;> conv => whnf))
  all_goals (try simp only [w1, etaKey, etaWord] at *)
  all_goals first
    | (refine ⟨?_⟩; first | exact hpre | (have hr := inR_t.1 (show inR pc.n 0 ((g.length : Int) - 1) = true by assumption); omega))
    | (unfold learnG; simp only [*, if_true, if_false, Bool.false_eq_true]; first | done | rfl)
    | trace_state
theorem ok_i_Learn : FunOk Tryz.prog c_i_Learn := funOk (eK ok_slices_Clone_int (eK ok_i_in (eK ok_i_Bare eN))) mixd Tryz.func172 (pf := pf_i_Learn) (by kernel_rfl) fun ts K h => by
  obtain ⟨t0, t1, t2, rfl, q0⟩ := as3_out h
  obtain ⟨g, rfl, q1⟩ := arC_out (rd_l (.int .i64)) q0
  obtain ⟨pc, rfl, q2⟩ := arG_out rd_word q1
  obtain ⟨nx, rfl, q3⟩ := arG_out rd_word q2
  obtain ⟨hpre, hk⟩ := chk_o q3
  exact ⟨_, _, hk, nb 3 Tryz.f172 (by kernel_rfl), _, run_i_Learn g pc nx hpre⟩

def pf_s_Learn : PF := ⟨[.t 6], .r [.box 4 1, .box 5 2, .mv 6 (.k (.v (.c (.nils (.int .i64)))))] (.r [.bs 8 (.int .i64) [], .m 9 0, .app 10 (.int .i64) 8 9, .m 7 10] (.seq (.r [.f 11 4 0, .l 12 1 11, .m 13 0, .len 14 false 13, .bin 15 .sub 14 (.i 1), .c 16 53 [12, (.i 0), 15]] (.cond 16 (.rgd [] [.m 17 7, .f 18 4 0, .l 19 1 18, .f 20 5 0, .l 21 1 20, .c 22 150 [21], .s (.fld 23 22 0 1 false), .ia 24 (.int .i64) 17 19, .o 1 24 23] (.ts [0, 1, 2, 3, 4] (.one 5 false (.ts [6, 7] (.one 8 true .d))))) .skip)) (.r [.m 25 7, .m 6 25] .ret)))⟩
def c_s_Learn : Fun := ⟨98, [], fun ts K => as3 ts fun t0 t1 t2 => arC (pL (.int .i64)) t0 fun g => arG pWordT t1 fun pc => arG pWordT t2 fun nx => chk (g.length ≤ 2147483647) (K (tL true (.int .i64) (learnG g pc nx)) [])⟩
theorem run_s_Learn (g : List (FT.Ty (.int .i64))) (pc : Word) (nx : Word) (hpre : g.length ≤ 2147483647) : runK [c_s_l1In, c_s_Plain] (0) [] pf_s_Learn [tL false (.int .i64) g, tG (pc.tc []), tG (nx.tc [])] fun r o => r = tL true (.int .i64) (learnG g pc nx) ∧ o = [] := by
  have w1 : IntKind.i64.wrap ((g.length : Int) - 1) = (g.length : Int) - 1 := wrap_id (by omega) (by omega)
  conv => whnf
  repeat' (first | ((first | refine sel_i (fun h => ?_) (fun h => ?_) | refine chk_c ?_ ?_) <;> conv => whnf) | refine And.intro ?_ rfl | (refine And.intro ?_ ?_ <;> conv => whnf))
  all_goals (try simp only [w1, etaKey, etaWord, List.nil_append] at *)
  all_goals first
    | (refine ⟨?_⟩; first | exact hpre | (simp only [List.length_nil]; omega) | (have hr := inR_t.1 (show inR pc.n 0 ((g.length : Int) - 1) = true by assumption); omega))
    | (unfold learnG; simp only [*, if_true, if_false, Bool.false_eq_true]; first | done | rfl)
    | trace_state
theorem ok_s_Learn : FunOk Tryz.prog c_s_Learn := funOk (eK ok_s_l1In (eK ok_s_Plain eN)) mixd Tryz.func98 (pf := pf_s_Learn) (by kernel_rfl) fun ts K h => by
  obtain ⟨t0, t1, t2, rfl, q0⟩ := as3_out h
  obtain ⟨g, rfl, q1⟩ := arC_out (rd_l (.int .i64)) q0
  obtain ⟨pc, rfl, q2⟩ := arG_out rd_word q1
  obtain ⟨nx, rfl, q3⟩ := arG_out rd_word q2
  obtain ⟨hpre, hk⟩ := chk_o q3
  exact ⟨_, _, hk, nb 3 Tryz.f98 (by kernel_rfl), _, run_s_Learn g pc nx hpre⟩

def pf_i_entryOk : PF := ⟨[.t 2], .r [.box 1 0, .mv 2 .F] (.r [.f 3 1 0, .L 4 6 3, .c 5 65 [4], .m 6 5, .y 6 7 (.fa 7 1 34), .y 6 8 (.load 8 true 6 7), .y 6 9 (.call (some 9) 65 [8]), .pick 10 6 9 .F, .m 11 10, .y 11 12 (.fa 12 1 12), .y 11 13 (.fa 13 12 2), .y 11 14 (.load 14 true 6 13), .y 11 15 (.call (some 15) 65 [14]), .pick 16 11 15 .F, .m 17 16, .y 17 18 (.fa 18 1 12), .y 17 19 (.fa 19 18 8), .y 17 20 (.load 20 true 6 19), .y 17 21 (.call (some 21) 65 [20]), .pick 22 17 21 .F, .m 23 22, .y 23 24 (.fa 24 1 12), .y 23 25 (.fa 25 24 15), .y 23 26 (.load 26 true 6 25), .y 23 27 (.call (some 27) 65 [26]), .pick 28 23 27 .F, .m 29 28, .y 29 30 (.fa 30 1 6), .y 29 31 (.load 31 true 5 30), .y 29 32 (.call (some 32) 114 [31]), .y 29 33 (.mv 33 32), .n 33 34 (.fa 34 1 6), .n 33 35 (.load 35 true 5 34), .n 33 36 (.build 36 zcI []), .n 33 37 (.eqs 37 true [.i, .i, .i, .i, .i] false 35 36), .y 29 38 (.pick 38 33 .T 37), .pick 39 29 38 .F, .m 40 39, .y 40 41 (.fa 41 1 12), .y 40 42 (.fa 42 41 0), .y 40 43 (.load 43 false 1 42), .y 40 44 (.call (some 44) 112 [43, (.i 0), (.i 5)]), .pick 45 40 44 .F, .m 46 45, .y 46 47 (.fa 47 1 12), .y 46 48 (.fa 48 47 1), .y 46 49 (.load 49 false 1 48), .y 46 50 (.call (some 50) 112 [49, (.i (-1)), (.i 7)]), .pick 51 46 50 .F, .m 52 51, .y 52 53 (.fa 53 1 12), .y 52 54 (.fa 54 53 21), .y 52 55 (.load 55 false 1 54), .y 52 56 (.bin 56 .leq 55 (.i 4096)), .pick 57 52 56 .F, .m 2 57] .ret)⟩
def c_i_entryOk : Fun := ⟨64, [], fun ts K => as1 ts fun t0 => arG pEntryT t0 fun e => K (tB (entryOk e)) []⟩
theorem run_i_entryOk (e : Entry) : runK [c_i_WordOk, c_i_in, c_i_InsOk] (0) [] pf_i_entryOk [tG (e.tc [])] fun r o => r = tB (entryOk e) ∧ o = [] := by
  conv => whnf
  repeat' (first | ((first | refine sel_i (fun h => ?_) (fun h => ?_) | refine chk_c ?_ ?_) <;> conv => whnf) | refine And.intro ?_ rfl | (refine And.intro ?_ ?_ <;> conv => whnf))
  all_goals (simp only [etaKey, etaWord, etaInst, insEq0] at *)
  all_goals first
    | (simp only [entryOk, *, Bool.true_and, Bool.false_and, Bool.and_true, Bool.and_false, Bool.true_or, Bool.false_or, Bool.or_true, Bool.or_false]; done)
    | trace_state
theorem ok_i_entryOk : FunOk Tryz.prog c_i_entryOk := funOk (eK ok_i_WordOk (eK ok_i_in (eK ok_i_InsOk eN))) mixd Tryz.func64 (pf := pf_i_entryOk) (by kernel_rfl) fun ts K h => by
  obtain ⟨t0, rfl, q0⟩ := as1_out h
  obtain ⟨e, rfl, q1⟩ := arG_out rd_entry q0
  exact ⟨_, _, q1, nb 1 Tryz.f64 (by kernel_rfl), _, run_i_entryOk e⟩

def pf_s_l12Entry : PF := ⟨[.t 2], .r [.box 1 0, .mv 2 .F] (.seq (.r [.f 3 1 0, .L 4 6 3, .c 5 42 [4], .bnot 6 5, .m 7 6, .n 7 8 (.fa 8 1 34), .n 7 9 (.load 9 true 6 8), .n 7 10 (.call (some 10) 42 [9]), .n 7 11 (.bnot 11 10), .pick 12 7 .T 11, .m 13 12, .n 13 14 (.fa 14 1 12), .n 13 15 (.fa 15 14 2), .n 13 16 (.load 16 true 6 15), .n 13 17 (.call (some 17) 42 [16]), .n 13 18 (.bnot 18 17), .pick 19 13 .T 18, .m 20 19, .n 20 21 (.fa 21 1 12), .n 20 22 (.fa 22 21 8), .n 20 23 (.load 23 true 6 22), .n 20 24 (.call (some 24) 42 [23]), .n 20 25 (.bnot 25 24), .pick 26 20 .T 25, .m 27 26, .n 27 28 (.fa 28 1 12), .n 27 29 (.fa 29 28 15), .n 27 30 (.load 30 true 6 29), .n 27 31 (.call (some 31) 42 [30]), .n 27 32 (.bnot 32 31), .pick 33 27 .T 32] (.cond 33 (.r [.mv 2 .F] .ret) .skip)) (.r [.f 34 1 6, .L 35 5 34, .c 36 88 [35], .m 37 36, .n 37 38 (.fa 38 1 6), .n 37 39 (.load 39 true 5 38), .n 37 40 (.build 40 zcI []), .n 37 41 (.eqs 41 true [.i, .i, .i, .i, .i] false 39 40), .pick 42 37 .T 41, .m 43 42, .y 43 44 (.fa 44 1 12), .y 43 45 (.fa 45 44 0), .y 43 46 (.load 46 false 1 45), .y 43 47 (.call (some 47) 53 [46, (.i 0), (.i 5)]), .pick 48 43 47 .F, .m 49 48, .y 49 50 (.fa 50 1 12), .y 49 51 (.fa 51 50 1), .y 49 52 (.load 52 false 1 51), .y 49 53 (.call (some 53) 53 [52, (.i (-1)), (.i 7)]), .pick 54 49 53 .F, .m 55 54, .y 55 56 (.fa 56 1 12), .y 55 57 (.fa 57 56 21), .y 55 58 (.load 58 false 1 57), .y 55 59 (.bin 59 .leq 58 (.i 4096)), .pick 60 55 59 .F, .m 2 60] .ret))⟩
def c_s_l12Entry : Fun := ⟨40, [], fun ts K => as1 ts fun t0 => arG pEntryT t0 fun e => K (tB (entryOk e)) []⟩
theorem run_s_l12Entry (e : Entry) : runK [c_s_WordOk, c_s_l1In, c_s_InsOk] (0) [] pf_s_l12Entry [tG (e.tc [])] fun r o => r = tB (entryOk e) ∧ o = [] := by
  conv => whnf
  repeat' (first | ((first | refine sel_i (fun h => ?_) (fun h => ?_) | refine chk_c ?_ ?_) <;> conv => whnf) | refine And.intro ?_ rfl | (refine And.intro ?_ ?_ <;> conv => whnf))
  all_goals (simp only [etaKey, etaWord, etaInst, insEq0, Bool.not_eq_true', Bool.not_eq_false'] at *)
  all_goals first
    | (simp only [entryOk, *, Bool.true_and, Bool.false_and, Bool.and_true, Bool.and_false, Bool.true_or, Bool.false_or, Bool.or_true, Bool.or_false]; done)
    | trace_state
theorem ok_s_l12Entry : FunOk Tryz.prog c_s_l12Entry := funOk (eK ok_s_WordOk (eK ok_s_l1In (eK ok_s_InsOk eN))) mixd Tryz.func40 (pf := pf_s_l12Entry) (by kernel_rfl) fun ts K h => by
  obtain ⟨t0, rfl, q0⟩ := as1_out h
  obtain ⟨e, rfl, q1⟩ := arG_out rd_entry q0
  exact ⟨_, _, q1, nb 1 Tryz.f40 (by kernel_rfl), _, run_s_l12Entry e⟩

def pf_i_CoreOk_1 : PF := ⟨[.t 2], .r [.box 1 0, .mv 2 .F] (.r [.L 3 40 1, .c 4 64 [3], .bnot 5 4, .m 2 5] .ret)⟩
def c_i_CoreOk_1 : Fun := ⟨63, [], fun ts K => as1 ts fun t0 => arG pEntryT t0 fun e => K (tB (!entryOk e)) []⟩
theorem run_i_CoreOk_1 (e : Entry) : runK [c_i_entryOk] (0) [] pf_i_CoreOk_1 [tG (e.tc [])] fun r o => r = tB (!entryOk e) ∧ o = [] := by
  conv => whnf
  repeat' (first | ((first | refine sel_i (fun h => ?_) (fun h => ?_) | refine chk_c ?_ ?_) <;> conv => whnf) | refine And.intro ?_ rfl | (refine And.intro ?_ ?_ <;> conv => whnf))
  all_goals (try simp only [etaKey, etaWord, etaInst, etaEff, etaEntry])
theorem ok_i_CoreOk_1 : FunOk Tryz.prog c_i_CoreOk_1 := funOk (eK ok_i_entryOk eN) mixd Tryz.func63 (pf := pf_i_CoreOk_1) (by kernel_rfl) fun ts K h => by
  obtain ⟨t0, rfl, q0⟩ := as1_out h
  obtain ⟨e, rfl, q1⟩ := arG_out rd_entry q0
  exact ⟨_, _, q1, nb 1 Tryz.f63 (by kernel_rfl), _, run_i_CoreOk_1 e⟩

def lb_slices_IndexFunc_Entry_0 : PC := .r [.bin 9 .lss 8 7] (.seq (.cond 9 .skip (.exit 0)) (.seq (.blk 1 (.r [.m 10 8, .m 5 10] (.r [.m 11 1, .m 12 0, .m 13 5, .ia 14 .entry 12 13, .L 15 40 14, .s (.callv (some 16) 11 [15])] (.cond 16 (.r [.m 17 5, .m 4 17] .ret) .skip)))) (.reg [.bin 18 .add 8 (.i 1), .m 8 18])))
def pf_slices_IndexFunc_Entry : PF := ⟨[.t 4], .r [.mv 4 (.i 0)] (.seq (.r [.m 6 0, .len 7 false 6, .mv 8 (.i 0)] (.blk 0 (.loop [0, 1, 7, 8] lb_slices_IndexFunc_Entry_0))) (.r [.mv 4 (.i (-1))] .ret))⟩
def c_slices_IndexFunc_Entry__impl_CoreOk_1 : Fun := ⟨113, [], fun ts K => as2 ts fun t0 t1 => arC (pL .entry) t0 fun xs => arF0 63 t1 fun g => chk (xs.length ≤ 2147483647) (K (tN (idxOf (fun e => !entryOk e) xs)) [])⟩
theorem run_slices_IndexFunc_Entry__impl_CoreOk_1 (xs : List (FT.Ty .entry)) (g : Unit) (hpre : xs.length ≤ 2147483647) : runK [c_i_CoreOk_1] (xs.length + 1) [] pf_slices_IndexFunc_Entry [tL false .entry xs, .fn 63 []] fun r o => r = tN (idxOf (fun e => !entryOk e) xs) ∧ o = [] := by
  conv => whnf
  refine loop (α := Nat) (fun i => ⟨[(0, .v (.c (.sl false .entry 0))), (1, .fn 63 []), (7, .v (.c (.int .i64 (xs.length : Int)))), (8, .v (.c (.int .i64 (i : Int))))], [(0, some (.flat false .entry none xs))], nums.tail, [], false, []⟩)
      (fun i => i ≤ xs.length ∧ idxOf (fun e => !entryOk e) xs = idxGo (fun e => !entryOk e) (xs.drop i) i) (fun i => xs.length - i) (fun i R hI hR => ?_) 0 _ ⟨by simp, rfl⟩ (by simp)
  obtain ⟨hi, hx⟩ := hI
  conv => whnf
  refine sel_i (fun h2 => ?_) (fun h2 => ?_)
  · have hlt : i < xs.length := by simp at h2; omega
    conv => whnf
    repeat (refine chk_i (by first | omega | (simp; omega)) ?_; conv => whnf)
    refine sel_i (fun h3 => ?_) (fun h3 => ?_)
    · conv => whnf
      rw [hx, idxGo_yes (z := FT.zero .entry) hlt (by first | (simp only [keyEq] at h3; exact h3) | (simpa using h3))]
      exact ⟨rfl, rfl⟩
    · conv => whnf
      rw [wrap_id (n := (i : Int) + 1) (by omega) (by omega)]
      exact hR (i + 1) ⟨by omega, by rw [hx, idxGo_no (z := FT.zero .entry) hlt (by first | (simp only [keyEq] at h3; exact h3) | (simpa using h3))]⟩ (by omega)
  · conv => whnf
    rw [hx, idxGo_end (by simp at h2; omega)]
    exact ⟨rfl, rfl⟩
theorem ok_slices_IndexFunc_Entry__impl_CoreOk_1 : FunOk Tryz.prog c_slices_IndexFunc_Entry__impl_CoreOk_1 := funOk (eK ok_i_CoreOk_1 eN) mixd Tryz.func113 (pf := pf_slices_IndexFunc_Entry) (by kernel_rfl) fun ts K h => by
  obtain ⟨t0, t1, rfl, q0⟩ := as2_out h
  obtain ⟨xs, rfl, q1⟩ := arC_out (rd_l .entry) q0
  obtain ⟨g, rfl, q2⟩ := arF0_out q1
  obtain ⟨hpre, hk⟩ := chk_o q2
  exact ⟨_, _, hk, nb 2 Tryz.f113 (by kernel_rfl), _, run_slices_IndexFunc_Entry__impl_CoreOk_1 xs g hpre⟩

def pf_slices_ContainsFunc_Entry : PF := ⟨[.t 4], .r [.mv 4 .F] (.r [.m 5 0, .m 6 1, .c 7 113 [5, 6], .bin 8 .geq 7 (.i 0), .m 4 8] .ret)⟩
def c_slices_ContainsFunc_Entry__impl_CoreOk_1 : Fun := ⟨62, [], fun ts K => as2 ts fun t0 t1 => arC (pL .entry) t0 fun xs => arF0 63 t1 fun g => chk (xs.length ≤ 2147483647) (K (tB (xs.any (fun e => !entryOk e))) [])⟩
theorem run_slices_ContainsFunc_Entry__impl_CoreOk_1 (xs : List (FT.Ty .entry)) (g : Unit) (hpre : xs.length ≤ 2147483647) : runK [c_slices_IndexFunc_Entry__impl_CoreOk_1, c_i_CoreOk_1] (0) [] pf_slices_ContainsFunc_Entry [tL false .entry xs, .fn 63 []] fun r o => r = tB (xs.any (fun e => !entryOk e)) ∧ o = [] := by
  conv => whnf
  repeat' (first | ((first | refine sel_i (fun h => ?_) (fun h => ?_) | refine chk_c ?_ ?_) <;> conv => whnf) | refine And.intro ?_ rfl | (refine And.intro ?_ ?_ <;> conv => whnf))
  all_goals first | (refine ⟨?_⟩; exact hpre) | exact hpre | (rw [← idxOf_any]; rfl) | (rw [← idxOf_any])
theorem ok_slices_ContainsFunc_Entry__impl_CoreOk_1 : FunOk Tryz.prog c_slices_ContainsFunc_Entry__impl_CoreOk_1 := funOk (eK ok_slices_IndexFunc_Entry__impl_CoreOk_1 (eK ok_i_CoreOk_1 eN)) mixd Tryz.func62 (pf := pf_slices_ContainsFunc_Entry) (by kernel_rfl) fun ts K h => by
  obtain ⟨t0, t1, rfl, q0⟩ := as2_out h
  obtain ⟨xs, rfl, q1⟩ := arC_out (rd_l .entry) q0
  obtain ⟨g, rfl, q2⟩ := arF0_out q1
  obtain ⟨hpre, hk⟩ := chk_o q2
  exact ⟨_, _, hk, nb 2 Tryz.f62 (by kernel_rfl), _, run_slices_ContainsFunc_Entry__impl_CoreOk_1 xs g hpre⟩

theorem lenLe6 (n : Nat) : decide ((n : Int) ≤ 6) = decide (n ≤ 6) := decide_eq_decide.2 (by omega)

def pf_i_CoreOk : PF := ⟨[.t 2], .r [.box 1 0, .mv 2 .F] (.r [.f 3 1 0, .L 4 10 3, .c 5 61 [4], .m 6 5, .y 6 7 (.fa 7 1 10), .y 6 8 (.load 8 false 1 7), .y 6 9 (.len 9 false 8), .y 6 10 (.bin 10 .leq 9 (.i 6)), .pick 11 6 10 .F, .m 12 11, .y 12 13 (.fa 13 1 10), .y 12 14 (.load 14 false 1 13), .y 12 15 (.call (some 15) 62 [14, (.k (.fn 63 []))]), .y 12 16 (.bnot 16 15), .pick 17 12 16 .F, .m 18 17, .y 18 19 (.fa 19 1 11), .y 18 20 (.load 20 true 6 19), .y 18 21 (.call (some 21) 65 [20]), .pick 22 18 21 .F, .m 23 22, .y 23 24 (.fa 24 1 18), .y 23 25 (.load 25 false 1 24), .y 23 26 (.call (some 26) 66 [25]), .pick 27 23 26 .F, .m 2 27] .ret)⟩
def c_i_CoreOk : Fun := ⟨26, [], fun ts K => as1 ts fun t0 => arG pCoreT t0 fun c => chk (LCore c 2147483647) (K (tB (coreOk c)) [])⟩
theorem run_i_CoreOk (c : Core) (hpre : LCore c 2147483647) : runK [c_i_StateOk, c_slices_ContainsFunc_Entry__impl_CoreOk_1, c_i_CoreOk_1, c_i_WordOk, c_i_GuessOk] (0) [] pf_i_CoreOk [tG (c.tc false [])] fun r o => r = tB (coreOk c) ∧ o = [] := by
  obtain ⟨l1, l2, l3⟩ := hpre
  conv => whnf
  repeat' (first | ((first | refine sel_i (fun h => ?_) (fun h => ?_) | refine chk_c ?_ ?_) <;> conv => whnf) | refine And.intro ?_ rfl | (refine And.intro ?_ ?_ <;> conv => whnf))
  all_goals (simp only [etaKey, etaWord, etaMemory, etaState, all_any, Bool.not_not, Bool.not_eq_true', Bool.not_eq_false', lenLe6] at *)
  all_goals first
    | (refine ⟨?_⟩; assumption)
    | (simp only [coreOk, *, Bool.true_and, Bool.false_and, Bool.and_true, Bool.and_false]; done)
    | trace_state
theorem ok_i_CoreOk : FunOk Tryz.prog c_i_CoreOk := funOk (eK ok_i_StateOk (eK ok_slices_ContainsFunc_Entry__impl_CoreOk_1 (eK ok_i_CoreOk_1 (eK ok_i_WordOk (eK ok_i_GuessOk eN))))) mixd Tryz.func26 (pf := pf_i_CoreOk) (by kernel_rfl) fun ts K h => by
  obtain ⟨t0, rfl, q0⟩ := as1_out h
  obtain ⟨c, rfl, q1⟩ := arG_out rd_core q0
  obtain ⟨hpre, hk⟩ := chk_o q1
  exact ⟨_, _, hk, nb 1 Tryz.f26 (by kernel_rfl), _, run_i_CoreOk c hpre⟩

def lb_s_CoreOk_0 : PC := .seq (.r [.m 4 3, .f 5 1 10, .l 6 1 5, .len 7 false 6, .bin 8 .lss 4 7] (.cond 8 .skip (.exit 0))) (.seq (.blk 1 (.r [.f 11 1 10, .l 12 1 11, .m 13 3, .ia 14 .entry 12 13, .L 15 40 14, .c 16 40 [15], .bnot 17 16] (.cond 17 (.r [.mv 2 .F] .ret) .skip))) (.reg [.m 9 3, .bin 10 .add 9 (.i 1), .m 3 10]))
def pf_s_CoreOk : PF := ⟨[.t 2], .r [.box 1 0, .mv 2 .F] (.seq (.r [.mv 3 (.i 0)] (.blk 0 (.loop [1, 3] lb_s_CoreOk_0))) (.r [.f 18 1 0, .L 19 10 18, .c 20 41 [19], .m 21 20, .y 21 22 (.fa 22 1 10), .y 21 23 (.load 23 false 1 22), .y 21 24 (.len 24 false 23), .y 21 25 (.bin 25 .leq 24 (.i 6)), .pick 26 21 25 .F, .m 27 26, .y 27 28 (.fa 28 1 11), .y 27 29 (.load 29 true 6 28), .y 27 30 (.call (some 30) 42 [29]), .pick 31 27 30 .F, .m 32 31, .y 32 33 (.fa 33 1 18), .y 32 34 (.load 34 false 1 33), .y 32 35 (.call (some 35) 43 [34]), .pick 36 32 35 .F, .m 2 36] .ret))⟩
def c_s_CoreOk : Fun := ⟨15, [], fun ts K => as1 ts fun t0 => arG pCoreT t0 fun c => chk (LCore c 2147483647) (K (tB (coreOk c)) [])⟩
theorem run_s_CoreOk (c : Core) (hpre : LCore c 2147483647) : runK [c_s_l12Entry, c_s_StateOk, c_s_WordOk, c_s_GuessOk] (c.rob.length + 1) [] pf_s_CoreOk [tG (c.tc false [])] fun r o => r = tB (coreOk c) ∧ o = [] := by
  obtain ⟨l1, l2, l3⟩ := hpre
  conv => whnf
  refine loop (α := Nat) (fun i => ⟨[(1, .v (.c (.ptr 0 0))), (3, .v (.c (.int .i64 (i : Int))))],
      [(5, some (.flat false (.int .i64) none c.guesses)), (4, some (.flat false .entry none c.rob)), (3, some (.flat false .bool none c.s.mem.gone)), (2, some (.flat false .word none c.s.mem.words)), (1, some (.flat false .word none c.s.regs)),
       (0, some (.box true [.sl false .word 1, .int .i64 c.s.pc.n, .bool c.s.pc.is, .int .i64 c.s.pc.key.base, .int .i64 c.s.pc.key.top, .int .i64 c.s.pc.key.perms, .int .i64 c.s.pc.key.sealed, .sl false .word 2, .sl false .bool 3, .int .i64 c.s.trap,
         .sl false .entry 4, .int .i64 c.next.n, .bool c.next.is, .int .i64 c.next.key.base, .int .i64 c.next.key.top, .int .i64 c.next.key.perms, .int .i64 c.next.key.sealed, .bool c.stop, .sl false (.int .i64) 5]))], nums.tail.tail.tail.tail.tail.tail, [], false, []⟩)
    (fun i => i ≤ c.rob.length ∧ (c.rob.drop i).all entryOk = c.rob.all entryOk) (fun i => c.rob.length - i) (fun i R hI hR => ?_) 0 _ ⟨by omega, rfl⟩ (by omega)
  obtain ⟨hi, hx⟩ := hI
  have w3 : IntKind.i64.wrap ((i : Int) + 1) = ((i + 1 : Nat) : Int) := by rw [wrap_id (by omega) (by omega)]; rfl
  conv => whnf
  repeat' (first | ((first | refine sel_i (fun h => ?_) (fun h => ?_) | refine chk_c ?_ ?_) <;> conv => whnf) | refine And.intro ?_ rfl | (refine And.intro ?_ ?_ <;> conv => whnf))
  all_goals (simp only [w3, etaKey, etaWord, etaMemory, etaState, etaInst, etaEff, etaEntry, Int.toNat_natCast, Bool.not_eq_true', Bool.not_eq_false', decide_eq_true_eq, decide_eq_false_iff_not, lenLe6] at *)
  all_goals first
    | (refine ⟨?_⟩; omega)
    | (refine ⟨?_⟩; assumption)
    | (have e := all_no (z := FT.zero .entry) (by omega) (by assumption) hx; simp only [coreOk, e, Bool.false_and, Bool.and_false]; done)
    | (exact hR (i + 1) ⟨by omega, all_yes (z := FT.zero .entry) (by omega) (by assumption) hx⟩ (by omega))
    | (have e := all_end (by omega) hx; simp only [coreOk, e, *, Bool.true_and, Bool.false_and, Bool.and_true, Bool.and_false, decide_true, decide_false]; done)
    | trace_state
theorem ok_s_CoreOk : FunOk Tryz.prog c_s_CoreOk := funOk (eK ok_s_l12Entry (eK ok_s_StateOk (eK ok_s_WordOk (eK ok_s_GuessOk eN)))) mixd Tryz.func15 (pf := pf_s_CoreOk) (by kernel_rfl) fun ts K h => by
  obtain ⟨t0, rfl, q0⟩ := as1_out h
  obtain ⟨c, rfl, q1⟩ := arG_out rd_core q0
  obtain ⟨hpre, hk⟩ := chk_o q1
  exact ⟨_, _, hk, nb 1 Tryz.f15 (by kernel_rfl), _, run_s_CoreOk c hpre⟩

def pf_i_cloneCore : PF := ⟨[.c 2 true 19], .r [.box 1 0, .alloc 2 zcC] (.seq (.rgd [] [.f 3 1 0, .L 4 10 3, .c 5 108 [4], .f 6 1 10, .l 7 1 6, .c 8 109 [7], .f 9 1 18, .l 10 1 9, .c 11 60 [10], .f 12 1 0, .o 10 12 5, .f 13 1 10, .o 1 13 8, .f 14 1 18, .o 1 14 11] (.ts [0, 1, 3, 4, 6, 7] (.one 2 false (.tk 9 (.one 5 false (.one 8 true (.one 10 true (.tk 11 (.one 12 true (.tk 13 (.one 14 true .d))))))))))) (.r [.L 15 19 1, .o 19 2 15] .ret))⟩
def c_i_cloneCore : Fun := ⟨59, [], fun ts K => as1 ts fun t0 => arG pCoreT t0 fun c => chk (LCore c 2147483647) (K (tG (c.tc true [])) [])⟩
theorem run_i_cloneCore (c : Core) (hpre : LCore c 2147483647) : runK [c_slices_Clone_int, c_i_cloneState, c_slices_Clone_Entry] (0) [] pf_i_cloneCore [tG (c.tc false [])] fun r o => r = tG (c.tc true []) ∧ o = [] := by
  obtain ⟨l1, l2, l3⟩ := hpre
  conv => whnf
  repeat' (first | (refine chk_c ?_ ?_ <;> conv => whnf) | (refine And.intro ?_ ?_ <;> conv => whnf))
  all_goals first
    | (refine ⟨?_⟩; assumption)
    | trivial
    | rfl
    | trace_state
theorem ok_i_cloneCore : FunOk Tryz.prog c_i_cloneCore := funOk (eK ok_slices_Clone_int (eK ok_i_cloneState (eK ok_slices_Clone_Entry eN))) mixd Tryz.func59 (pf := pf_i_cloneCore) (by kernel_rfl) fun ts K h => by
  obtain ⟨t0, rfl, q0⟩ := as1_out h
  obtain ⟨c, rfl, q1⟩ := arG_out rd_core q0
  obtain ⟨hpre, hk⟩ := chk_o q1
  exact ⟨_, _, hk, nb 1 Tryz.f59 (by kernel_rfl), _, run_i_cloneCore c hpre⟩

def pf_s_l12Copy : PF := ⟨[.c 2 true 19], .r [.box 1 0, .alloc 2 zcC] (.seq (.rgd [] [.f 3 1 0, .L 4 10 3, .c 5 87 [4], .bs 6 .entry [], .f 7 1 10, .l 8 1 7, .app 9 .entry 6 8, .f 10 1 11, .L 11 6 10, .f 12 1 17, .l 13 1 12, .bs 14 (.int .i64) [], .f 15 1 18, .l 16 1 15, .app 17 (.int .i64) 14 16, .build 18 zcC [(0, 10, 5), (10, 1, 9), (11, 6, 11), (17, 1, 13), (18, 1, 17)], .o 19 2 18] (.ts [0, 1, 4, 5, 7, 8, 9, 10, 12, 13] (.alt 2 false (.alt 3 false (.alt 6 false (.one 11 false (.one 14 false (.tk 15 (.one 16 true (.done (some [2])))))) (.alt 11 false (.one 6 false (.one 14 false (.tk 15 (.one 16 true (.done (some [2])))))) .nil)) (.alt 11 false (.one 3 false (.one 6 false (.one 14 false (.tk 15 (.one 16 true (.done (some [2]))))))) .nil)) (.alt 3 false (.alt 2 false (.alt 6 false (.one 11 false (.one 14 false (.tk 15 (.one 16 true (.done (some [2])))))) (.alt 11 false (.one 6 false (.one 14 false (.tk 15 (.one 16 true (.done (some [2])))))) .nil)) (.alt 11 false (.one 2 false (.one 6 false (.one 14 false (.tk 15 (.one 16 true (.done (some [2]))))))) .nil)) (.alt 11 false (.alt 2 false (.one 3 false (.one 6 false (.one 14 false (.tk 15 (.one 16 true (.done (some [2]))))))) (.alt 3 false (.one 2 false (.one 6 false (.one 14 false (.tk 15 (.one 16 true (.done (some [2]))))))) .nil)) .nil))))) .ret)⟩
def c_s_l12Copy : Fun := ⟨39, [], fun ts K => as1 ts fun t0 => arG pCoreT t0 fun c => chk (LCore c 2147483647) (K (tG (c.tc true [])) [])⟩
theorem run_s_l12Copy (c : Core) (hpre : LCore c 2147483647) : runK [c_s_l9Copy] (0) [] pf_s_l12Copy [tG (c.tc false [])] fun r o => r = tG (c.tc true []) ∧ o = [] := by
  obtain ⟨l1, l2, l3⟩ := hpre
  conv => whnf
  repeat' (first | (refine chk_c ?_ ?_ <;> conv => whnf) | (refine And.intro ?_ ?_ <;> conv => whnf))
  all_goals first
    | (refine ⟨?_⟩; assumption)
    | (refine ⟨?_⟩; simp only [List.length_nil]; omega)
    | trivial
    | rfl
    | trace_state
theorem ok_s_l12Copy : FunOk Tryz.prog c_s_l12Copy := funOk (eK ok_s_l9Copy eN) mixd Tryz.func39 (pf := pf_s_l12Copy) (by kernel_rfl) fun ts K h => by
  obtain ⟨t0, rfl, q0⟩ := as1_out h
  obtain ⟨c, rfl, q1⟩ := arG_out rd_core q0
  obtain ⟨hpre, hk⟩ := chk_o q1
  exact ⟨_, _, hk, nb 1 Tryz.f39 (by kernel_rfl), _, run_s_l12Copy c hpre⟩

def pf_i_Sets : PF := ⟨[.t 2], .r [.box 1 0, .mv 2 (.i 0)] (.seq (.r [.L 3 5 1, .c 4 163 [3, (.k (.v (.c (.int .u8 82))))]] (.cond 4 (.r [.f 5 1 1, .l 6 1 5, .m 2 6] .ret) .skip)) (.r [.mv 2 (.i (-1))] .ret))⟩
def c_i_Sets : Fun := ⟨270, [], fun ts K => as1 ts fun t0 => arG pInstT t0 fun x => K (tN (setsI x)) []⟩
theorem run_i_Sets (x : Inst) : runK [c_i_hasPart] (0) [] pf_i_Sets [tG (x.tc [])] fun r o => r = tN (setsI x) ∧ o = [] := by
  conv => whnf
  repeat' (first | ((first | refine sel_i (fun h => ?_) (fun h => ?_) | refine chk_c ?_ ?_) <;> conv => whnf) | refine And.intro ?_ rfl | (refine And.intro ?_ ?_ <;> conv => whnf))
  all_goals first
    | (rw [setsI_yes (by assumption)]; done)
    | (rw [setsI_no (by assumption)]; done)
    | trace_state
theorem ok_i_Sets : FunOk Tryz.prog c_i_Sets := funOk (eK ok_i_hasPart eN) mixd Tryz.func270 (pf := pf_i_Sets) (by kernel_rfl) fun ts K h => by
  obtain ⟨t0, rfl, q0⟩ := as1_out h
  obtain ⟨x, rfl, q1⟩ := arG_out rd_inst q0
  exact ⟨_, _, q1, nb 1 Tryz.f270 (by kernel_rfl), _, run_i_Sets x⟩

def pf_i_setBy : PF := ⟨[.t 2], .r [.box 1 0, .mv 2 (.i 0)] (.seq (.r [.f 3 1 11, .l 4 1 3] (.cond 4 (.r [.f 5 1 12, .f 6 5 1, .l 7 1 6, .m 2 7] .ret) .skip)) (.r [.f 8 1 6, .L 9 5 8, .c 10 270 [9], .m 2 10] .ret))⟩
def c_i_setBy : Fun := ⟨260, [], fun ts K => as1 ts fun t0 => arG pEntryT t0 fun e => K (tN (setBy e)) []⟩
theorem run_i_setBy (e : Entry) : runK [c_i_Sets] (0) [] pf_i_setBy [tG (e.tc [])] fun r o => r = tN (setBy e) ∧ o = [] := by
  conv => whnf
  repeat' (first | ((first | refine sel_i (fun h => ?_) (fun h => ?_) | refine chk_c ?_ ?_) <;> conv => whnf) | refine And.intro ?_ rfl | (refine And.intro ?_ ?_ <;> conv => whnf))
  all_goals (try simp only [etaInst] at *)
  all_goals first
    | (simp only [setBy, *, if_true, if_false, Bool.false_eq_true]; done)
    | trace_state
theorem ok_i_setBy : FunOk Tryz.prog c_i_setBy := funOk (eK ok_i_Sets eN) mixd Tryz.func260 (pf := pf_i_setBy) (by kernel_rfl) fun ts K h => by
  obtain ⟨t0, rfl, q0⟩ := as1_out h
  obtain ⟨e, rfl, q1⟩ := arG_out rd_entry q0
  exact ⟨_, _, q1, nb 1 Tryz.f260 (by kernel_rfl), _, run_i_setBy e⟩

theorem srcGo_yes {rob : List Entry} {q : Int} {k : Nat} (h : setBy (rob.getD k (FT.zero .entry)) = q) : srcGo rob q (k + 1) = k := by unfold srcGo; rw [if_pos h]
theorem srcGo_no {rob : List Entry} {q : Int} {k : Nat} (h : ¬ setBy (rob.getD k (FT.zero .entry)) = q) : srcGo rob q (k + 1) = srcGo rob q k := by
  show (if setBy (rob.getD k (FT.zero .entry)) = q then (k : Int) else srcGo rob q k) = srcGo rob q k
  rw [if_neg h]

def lb_i_Source_0 : PC := .seq (.r [.m 13 7, .bin 14 .gtr 13 (.i 0), .m 15 14, .y 15 16 (.mv 16 2), .y 15 17 (.bin 17 .geq 16 (.i 0)), .pick 18 15 17 .F] (.cond 18 .skip (.exit 0))) (.seq (.blk 1 (.r [.f 21 3 10, .l 22 1 21, .m 23 7, .bin 24 .sub 23 (.i 1), .ia 25 .entry 22 24, .L 26 40 25, .c 27 260 [26], .m 28 2, .bin 29 .eql 27 28] (.cond 29 (.r [.m 30 7, .bin 31 .sub 30 (.i 1), .m 6 31] .ret) .skip))) (.reg [.m 19 7, .bin 20 .sub 19 (.i 1), .m 7 20]))
def pf_i_Source : PF := ⟨[.t 6], .r [.box 3 0, .mv 6 (.i 0)] (.seq (.r [.m 8 1, .f 9 3 10, .l 10 1 9, .len 11 false 10, .s (.mm 12 false 8 11), .m 7 12] (.blk 0 (.loop [2, 3, 7] lb_i_Source_0))) (.r [.mv 6 (.i (-1))] .ret))⟩
def c_i_Source : Fun := ⟨243, [], fun ts K => as3 ts fun t0 t1 t2 => arG pCoreT t0 fun c => arC (pI .i64) t1 fun i => arC (pI .i64) t2 fun q => chk (LCore c 2147483647) (K (tN (source c.rob i q)) [])⟩
theorem run_i_Source (c : Core) (i : Int) (q : Int) (hpre : LCore c 2147483647) : runK [c_i_setBy] (c.rob.length + 1) [] pf_i_Source [tG (c.tc false []), tI .i64 i, tI .i64 q] fun r o => r = tN (source c.rob i q) ∧ o = [] := by
  obtain ⟨l1, l2, l3⟩ := hpre
  conv => whnf
  refine loop (α := Int) (fun t => ⟨[(2, .v (.c (.int .i64 q))), (3, .v (.c (.ptr 0 0))), (7, .v (.c (.int .i64 t)))],
      [(5, some (.flat false (.int .i64) none c.guesses)), (4, some (.flat false .entry none c.rob)), (3, some (.flat false .bool none c.s.mem.gone)), (2, some (.flat false .word none c.s.mem.words)), (1, some (.flat false .word none c.s.regs)),
       (0, some (.box true [.sl false .word 1, .int .i64 c.s.pc.n, .bool c.s.pc.is, .int .i64 c.s.pc.key.base, .int .i64 c.s.pc.key.top, .int .i64 c.s.pc.key.perms, .int .i64 c.s.pc.key.sealed, .sl false .word 2, .sl false .bool 3, .int .i64 c.s.trap,
         .sl false .entry 4, .int .i64 c.next.n, .bool c.next.is, .int .i64 c.next.key.base, .int .i64 c.next.key.top, .int .i64 c.next.key.perms, .int .i64 c.next.key.sealed, .bool c.stop, .sl false (.int .i64) 5]))], nums.tail.tail.tail.tail.tail.tail, [], false, []⟩)
    (fun t => t ≤ c.rob.length ∧ srcGo c.rob q (min i c.rob.length).toNat = srcGo c.rob q t.toNat) (fun t => t.toNat) (fun t R hI hR => ?_) (min i c.rob.length) _ ⟨by omega, rfl⟩ (by omega)
  obtain ⟨hi, hx⟩ := hI
  have hs : 0 ≤ q → source c.rob i q = srcGo c.rob q t.toNat := fun h => by unfold source; rw [if_neg (by omega), hx]
  have hs0 : q < 0 → source c.rob i q = -1 := fun h => by unfold source; rw [if_pos h]
  have hz : t ≤ 0 → srcGo c.rob q t.toNat = -1 := fun h => by rw [show t.toNat = 0 by omega]; rfl
  have w3 : 0 < t → IntKind.i64.wrap (t - 1) = t - 1 := fun h => wrap_id (by omega) (by omega)
  have w4 : 0 < t → t.toNat = (t - 1).toNat + 1 := fun h => by omega
  conv => whnf
  repeat' (first | ((first | refine sel_i (fun h => ?_) (fun h => ?_) | refine chk_c ?_ ?_) <;> conv => whnf) | refine And.intro ?_ rfl | (refine And.intro ?_ ?_ <;> conv => whnf))
  all_goals (try simp only [etaKey, etaWord, etaInst, etaEff, etaEntry, decide_eq_true_eq, decide_eq_false_iff_not, ge_iff_le, gt_iff_lt, beq_iff_eq, beq_eq_false_iff_ne] at *)
  all_goals (try rw [w3 (by omega)] at *)
  all_goals first
    | (refine ⟨?_⟩; omega)
    | (rw [hs0 (by omega)]; done)
    | (rw [hs (by omega), hz (by omega)]; done)
    | (rcases Int.lt_or_le q 0 with hq | hq
       · rw [hs0 hq]
       · rw [hs hq, hz (by omega)])
    | (rw [hs (by omega), w4 (by omega), srcGo_yes (by assumption), Int.toNat_of_nonneg (by omega)]; done)
    | (refine hR (t - 1) ⟨by omega, ?_⟩ (by omega); rw [hx, w4 (by omega), srcGo_no (by assumption)])
    | trace_state
theorem ok_i_Source : FunOk Tryz.prog c_i_Source := funOk (eK ok_i_setBy eN) mixd Tryz.func243 (pf := pf_i_Source) (by kernel_rfl) fun ts K h => by
  obtain ⟨t0, t1, t2, rfl, q0⟩ := as3_out h
  obtain ⟨c, rfl, q1⟩ := arG_out rd_core q0
  obtain ⟨i, rfl, q2⟩ := arC_out (rd_int .i64) q1
  obtain ⟨q, rfl, q3⟩ := arC_out (rd_int .i64) q2
  obtain ⟨hpre, hk⟩ := chk_o q3
  exact ⟨_, _, hk, nb 3 Tryz.f243 (by kernel_rfl), _, run_i_Source c i q hpre⟩

def lb_s_Source_0 : PC := .seq (.r [.m 21 7, .bin 22 .geq 21 (.i 0)] (.cond 22 .skip (.exit 0))) (.seq (.blk 1 (.r [.f 25 3 10, .l 26 1 25, .m 27 7, .ia 28 .entry 26 27, .f 29 28 12, .f 30 29 1, .l 31 1 30, .m 8 31] (.seq (.r [.f 32 3 10, .l 33 1 32, .m 34 7, .ia 35 .entry 33 34, .f 36 35 11, .l 37 1 36, .bnot 38 37] (.cond 38 (.reg [.f 39 3 10, .l 40 1 39, .m 41 7, .ia 42 .entry 40 41, .f 43 42 6, .L 44 5 43, .c 45 198 [44], .m 8 45]) .skip)) (.r [.m 46 8, .m 47 2, .bin 48 .eql 46 47] (.cond 48 (.r [.m 49 7, .m 6 49] .ret) .skip))))) (.reg [.m 23 7, .bin 24 .sub 23 (.i 1), .m 7 24]))
def pf_s_Source : PF := ⟨[.t 6], .r [.box 3 0, .mv 6 (.i 0)] (.seq (.r [.m 9 2, .bin 10 .lss 9 (.i 0), .m 11 10, .n 11 12 (.mv 12 1), .n 11 13 (.bin 13 .lss 12 (.i 0)), .pick 14 11 .T 13] (.cond 14 (.r [.mv 6 (.i (-1))] .ret) .skip)) (.seq (.r [.m 15 1, .f 16 3 10, .l 17 1 16, .len 18 false 17, .c 19 195 [15, 18], .bin 20 .sub 19 (.i 1), .m 7 20] (.blk 0 (.loop [2, 3, 7] lb_s_Source_0))) (.r [.mv 6 (.i (-1))] .ret)))⟩
def c_s_Source : Fun := ⟨192, [], fun ts K => as3 ts fun t0 t1 t2 => arG pCoreT t0 fun c => arC (pI .i64) t1 fun i => arC (pI .i64) t2 fun q => chk (LCore c 2147483647) (K (tN (source c.rob i q)) [])⟩
theorem run_s_Source (c : Core) (i : Int) (q : Int) (hpre : LCore c 2147483647) : runK [c_s_l1Min, c_s_Sets] (c.rob.length + 1) [] pf_s_Source [tG (c.tc false []), tI .i64 i, tI .i64 q] fun r o => r = tN (source c.rob i q) ∧ o = [] := by
  obtain ⟨l1, l2, l3⟩ := hpre
  have hs0 : q < 0 → source c.rob i q = -1 := fun h => by unfold source; rw [if_pos h]
  have hs1 : i < 0 → source c.rob i q = -1 := fun h => by
    unfold source
    split
    · rfl
    · rw [show (min i (c.rob.length : Int)).toNat = 0 by omega]; rfl
  conv => whnf
  repeat' (first | ((first | refine sel_i (fun h => ?_) (fun h => ?_) | refine chk_c ?_ ?_) <;> conv => whnf) | refine And.intro ?_ rfl | (refine And.intro ?_ ?_ <;> conv => whnf))
  all_goals (try simp only [decide_eq_true_eq, decide_eq_false_iff_not] at *)
  all_goals first
    | (rw [hs0 (by assumption)]; done)
    | (rw [hs1 (by assumption)]; done)
    | skip
  rw [wrap_id (n := min i (c.rob.length : Int) - 1) (by omega) (by omega)]
  refine loop (α := Int) (fun t => ⟨[(2, .v (.c (.int .i64 q))), (3, .v (.c (.ptr 0 0))), (7, .v (.c (.int .i64 t)))],
      [(5, some (.flat false (.int .i64) none c.guesses)), (4, some (.flat false .entry none c.rob)), (3, some (.flat false .bool none c.s.mem.gone)), (2, some (.flat false .word none c.s.mem.words)), (1, some (.flat false .word none c.s.regs)),
       (0, some (.box true [.sl false .word 1, .int .i64 c.s.pc.n, .bool c.s.pc.is, .int .i64 c.s.pc.key.base, .int .i64 c.s.pc.key.top, .int .i64 c.s.pc.key.perms, .int .i64 c.s.pc.key.sealed, .sl false .word 2, .sl false .bool 3, .int .i64 c.s.trap,
         .sl false .entry 4, .int .i64 c.next.n, .bool c.next.is, .int .i64 c.next.key.base, .int .i64 c.next.key.top, .int .i64 c.next.key.perms, .int .i64 c.next.key.sealed, .bool c.stop, .sl false (.int .i64) 5]))], nums.tail.tail.tail.tail.tail.tail, [], false, []⟩)
    (fun t => -1 ≤ t ∧ t < c.rob.length ∧ srcGo c.rob q (min i c.rob.length).toNat = srcGo c.rob q (t + 1).toNat) (fun t => (t + 1).toNat) (fun t R hI hR => ?_) (min i c.rob.length - 1) _ ⟨by omega, by omega, by rw [show min i (c.rob.length : Int) - 1 + 1 = min i (c.rob.length : Int) by omega]⟩ (by omega)
  obtain ⟨hi, hi2, hx⟩ := hI
  have hs : source c.rob i q = srcGo c.rob q (t + 1).toNat := by unfold source; rw [if_neg (by omega), hx]
  have hz : t < 0 → srcGo c.rob q (t + 1).toNat = -1 := fun h => by rw [show (t + 1).toNat = 0 by omega]; rfl
  have w3 : IntKind.i64.wrap (t - 1) = t - 1 := wrap_id (by omega) (by omega)
  have w4 : 0 ≤ t → (t + 1).toNat = t.toNat + 1 := fun h => by omega
  have hy : ∀ k : Nat, (c.rob.getD k (FT.zero .entry)).done = true → (c.rob.getD k (FT.zero .entry)).e.r = setBy (c.rob.getD k (FT.zero .entry)) := fun k h => by unfold setBy; rw [if_pos h]
  have hn : ∀ k : Nat, (c.rob.getD k (FT.zero .entry)).done = false → setsI (c.rob.getD k (FT.zero .entry)).x = setBy (c.rob.getD k (FT.zero .entry)) := fun k h => by unfold setBy; rw [if_neg (by rw [h]; decide)]
  conv => whnf
  repeat' (first | ((first | refine sel_i (fun h => ?_) (fun h => ?_) | refine chk_c ?_ ?_) <;> conv => whnf) | refine And.intro ?_ rfl | (refine And.intro ?_ ?_ <;> conv => whnf))
  all_goals (try simp only [etaKey, etaWord, etaInst, etaEff, etaEntry, w3, Bool.not_eq_true', Bool.not_eq_false', decide_eq_true_eq, decide_eq_false_iff_not, ge_iff_le, gt_iff_lt] at *)
  all_goals first
    | (refine ⟨?_⟩; omega)
    | (rw [hs, hz (by omega)]; done)
    | (rw [hs, w4 (by omega), srcGo_yes (by rw [← hy _ (by assumption)]; exact eq_of_beq (by assumption)), Int.toNat_of_nonneg (by omega)]; done)
    | (rw [hs, w4 (by omega), srcGo_yes (by rw [← hn _ (by assumption)]; exact eq_of_beq (by assumption)), Int.toNat_of_nonneg (by omega)]; done)
    | (refine hR (t - 1) ⟨by omega, by omega, ?_⟩ (by omega); rw [hx, w4 (by omega), srcGo_no (by rw [← hy _ (by assumption)]; exact ne_of_beq_false (by assumption)), show t - 1 + 1 = t by omega])
    | (refine hR (t - 1) ⟨by omega, by omega, ?_⟩ (by omega); rw [hx, w4 (by omega), srcGo_no (by rw [← hn _ (by assumption)]; exact ne_of_beq_false (by assumption)), show t - 1 + 1 = t by omega])
    | trace_state
theorem ok_s_Source : FunOk Tryz.prog c_s_Source := funOk (eK ok_s_l1Min (eK ok_s_Sets eN)) mixd Tryz.func192 (pf := pf_s_Source) (by kernel_rfl) fun ts K h => by
  obtain ⟨t0, t1, t2, rfl, q0⟩ := as3_out h
  obtain ⟨c, rfl, q1⟩ := arG_out rd_core q0
  obtain ⟨i, rfl, q2⟩ := arC_out (rd_int .i64) q1
  obtain ⟨q, rfl, q3⟩ := arC_out (rd_int .i64) q2
  obtain ⟨hpre, hk⟩ := chk_o q3
  exact ⟨_, _, hk, nb 3 Tryz.f192 (by kernel_rfl), _, run_s_Source c i q hpre⟩

theorem valueC_no {c : Core} {i r : Int} (h : source c.rob i r < 0) : valueC c i r = (c.s.regs.getD r.toNat (FT.zero .word), true) := if_pos h
theorem valueC_d {c : Core} {i r : Int} (h : ¬ source c.rob i r < 0) (h2 : (c.rob.getD (source c.rob i r).toNat (FT.zero .entry)).done = true) : valueC c i r = ((c.rob.getD (source c.rob i r).toNat (FT.zero .entry)).e.val, true) := by
  unfold valueC; rw [if_neg h, if_pos h2]
theorem valueC_n {c : Core} {i r : Int} (h : ¬ source c.rob i r < 0) (h2 : (c.rob.getD (source c.rob i r).toNat (FT.zero .entry)).done = false) : valueC c i r = (zW, false) := by
  unfold valueC; rw [if_neg h, if_neg (by rw [h2]; decide)]
def valueT (p : Word × Bool) : Tree := .tup [.g (p.1.tc []), .c (.bool p.2)]
def valueR (c : Core) (i r : Int) : Word × Bool := if inR r 0 7 && coreOk c then valueC c i r else (zW, false)

def pf_s_l12Value : PF := ⟨[.c 6 true 6, .t 7], .r [.box 3 0, .alloc 6 zcW, .mv 7 .F] (.r [.L 9 19 3, .m 10 1, .m 11 2, .c 12 192 [9, 10, 11], .m 8 12] (.seq (.r [.m 13 8, .bin 14 .lss 13 (.i 0)] (.cond 14 (.r [.f 15 3 0, .f 16 15 0, .l 17 1 16, .m 18 2, .ia 19 .word 17 18, .L 20 6 19, .o 6 6 20, .mv 7 .T] .ret) .skip)) (.seq (.r [.f 21 3 10, .l 22 1 21, .m 23 8, .ia 24 .entry 22 23, .f 25 24 11, .l 26 1 25, .bnot 27 26] (.cond 27 (.r [.build 28 zcW [], .o 6 6 28, .mv 7 .F] .ret) .skip)) (.r [.f 29 3 10, .l 30 1 29, .m 31 8, .ia 32 .entry 30 31, .f 33 32 12, .f 34 33 2, .L 35 6 34, .o 6 6 35, .mv 7 .T] .ret))))⟩
def c_s_l12Value : Fun := ⟨146, [], fun ts K => as3 ts fun t0 t1 t2 => arG pCoreT t0 fun c => arC (pI .i64) t1 fun i => arC (pI .i64) t2 fun q => chk (LCore c 2147483647 ∧ c.s.regs.length = 8 ∧ 0 ≤ q ∧ q ≤ 7) (K (valueT (valueC c i q)) [])⟩
theorem run_s_l12Value (c : Core) (i : Int) (q : Int) (hpre : LCore c 2147483647 ∧ c.s.regs.length = 8 ∧ 0 ≤ q ∧ q ≤ 7) : runK [c_s_Source] (0) [] pf_s_l12Value [tG (c.tc false []), tI .i64 i, tI .i64 q] fun r o => r = valueT (valueC c i q) ∧ o = [] := by
  obtain ⟨l1, l2, l3, l4⟩ := hpre
  have hin := source_in c.rob i q
  have v1 := @valueC_no c i q
  have v2 := @valueC_d c i q
  have v3 := @valueC_n c i q
  conv => whnf
  repeat' (first | ((first | refine sel_i (fun h => ?_) (fun h => ?_) | refine chk_c ?_ ?_) <;> conv => whnf) | refine And.intro ?_ rfl | (refine And.intro ?_ ?_ <;> conv => whnf))
  all_goals (try simp only [etaKey, etaWord, etaMemory, etaState, etaCore, Bool.not_eq_true', Bool.not_eq_false', decide_eq_true_eq, decide_eq_false_iff_not] at *)
  all_goals first
    | (refine ⟨?_⟩; first | assumption | omega)
    | (rw [v1 (by assumption)]; rfl)
    | (rw [v2 (by assumption) (by assumption)]; rfl)
    | (rw [v3 (by assumption) (by assumption)]; rfl)
    | trace_state
theorem ok_s_l12Value : FunOk Tryz.prog c_s_l12Value := funOk (eK ok_s_Source eN) mixd Tryz.func146 (pf := pf_s_l12Value) (by kernel_rfl) fun ts K h => by
  obtain ⟨t0, t1, t2, rfl, q0⟩ := as3_out h
  obtain ⟨c, rfl, q1⟩ := arG_out rd_core q0
  obtain ⟨i, rfl, q2⟩ := arC_out (rd_int .i64) q1
  obtain ⟨q, rfl, q3⟩ := arC_out (rd_int .i64) q2
  obtain ⟨hpre, hk⟩ := chk_o q3
  exact ⟨_, _, hk, nb 3 Tryz.f146 (by kernel_rfl), _, run_s_l12Value c i q hpre⟩

theorem valueR_no {c : Core} {i r : Int} (h : inR r 0 7 = false) : valueR c i r = (zW, false) := by unfold valueR; rw [h]; rfl
theorem valueR_bad {c : Core} {i r : Int} (h : coreOk c = false) : valueR c i r = (zW, false) := by unfold valueR; rw [h, Bool.and_false]; rfl
theorem valueR_ok {c : Core} {i r : Int} (h : inR r 0 7 = true) (h2 : coreOk c = true) : valueR c i r = valueC c i r := by unfold valueR; rw [h, h2]; rfl

def pf_i_Value : PF := ⟨[.c 6 true 6, .t 7], .r [.box 3 0, .alloc 6 zcW, .mv 7 .F] (.seq (.r [.m 9 2, .c 10 112 [9, (.i 0), (.i 7)], .bnot 11 10, .m 12 11, .n 12 13 (.load 13 true 19 3), .n 12 14 (.call (some 14) 26 [13]), .n 12 15 (.bnot 15 14), .pick 16 12 .T 15] (.cond 16 (.r [.build 17 zcW [], .o 6 6 17, .mv 7 .F] .ret) .skip)) (.r [.L 18 19 3, .m 19 1, .m 20 2, .c 21 243 [18, 19, 20], .m 8 21] (.seq (.blk 0 (.r [.m 23 8, .bin 24 .lss 23 (.i 0), .m 22 24] (.cond 22 (.r [.f 25 3 0, .f 26 25 0, .l 27 1 26, .m 28 2, .ia 29 .word 27 28, .L 30 6 29, .o 6 6 30, .mv 7 .T] .ret) (.r [.f 32 3 10, .l 33 1 32, .m 34 8, .ia 35 .entry 33 34, .f 36 35 11, .l 37 1 36, .bnot 38 37, .m 31 38] (.cond 31 (.r [.build 39 zcW [], .o 6 6 39, .mv 7 .F] .ret) .skip))))) (.r [.f 40 3 10, .l 41 1 40, .m 42 8, .ia 43 .entry 41 42, .f 44 43 12, .f 45 44 2, .L 46 6 45, .o 6 6 46, .mv 7 .T] .ret))))⟩
def c_i_Value : Fun := ⟨212, [], fun ts K => as3 ts fun t0 t1 t2 => arG pCoreT t0 fun c => arC (pI .i64) t1 fun i => arC (pI .i64) t2 fun q => chk (LCore c 2147483647) (K (valueT (valueR c i q)) [])⟩
theorem run_i_Value (c : Core) (i : Int) (q : Int) (hpre : LCore c 2147483647) : runK [c_i_CoreOk, c_i_in, c_i_Source] (0) [] pf_i_Value [tG (c.tc false []), tI .i64 i, tI .i64 q] fun r o => r = valueT (valueR c i q) ∧ o = [] := by
  have hin := source_in c.rob i q
  have v1 := @valueC_no c i q
  have v2 := @valueC_d c i q
  have v3 := @valueC_n c i q
  conv => whnf
  repeat' (first | ((first | refine sel_i (fun h => ?_) (fun h => ?_) | refine chk_c ?_ ?_) <;> conv => whnf) | refine And.intro ?_ rfl | (refine And.intro ?_ ?_ <;> conv => whnf))
  all_goals (try simp only [etaKey, etaWord, etaMemory, etaState, etaCore, Bool.not_eq_true', Bool.not_eq_false', decide_eq_true_eq, decide_eq_false_iff_not] at *)
  all_goals first
    | (refine ⟨?_⟩; assumption)
    | (refine ⟨?_⟩; have hc := coreOk_len (by assumption); have hr := inR_t.1 (show inR q 0 7 = true by assumption); have := hc.1.1; omega)
    | (rw [valueR_no (by assumption)]; rfl)
    | (rw [valueR_bad (by assumption)]; rfl)
    | (rw [valueR_ok (by assumption) (by assumption), v1 (by assumption)]; rfl)
    | (rw [valueR_ok (by assumption) (by assumption), v2 (by assumption) (by assumption)]; rfl)
    | (rw [valueR_ok (by assumption) (by assumption), v3 (by assumption) (by assumption)]; rfl)
    | trace_state
theorem ok_i_Value : FunOk Tryz.prog c_i_Value := funOk (eK ok_i_CoreOk (eK ok_i_in (eK ok_i_Source eN))) mixd Tryz.func212 (pf := pf_i_Value) (by kernel_rfl) fun ts K h => by
  obtain ⟨t0, t1, t2, rfl, q0⟩ := as3_out h
  obtain ⟨c, rfl, q1⟩ := arG_out rd_core q0
  obtain ⟨i, rfl, q2⟩ := arC_out (rd_int .i64) q1
  obtain ⟨q, rfl, q3⟩ := arC_out (rd_int .i64) q2
  obtain ⟨hpre, hk⟩ := chk_o q3
  exact ⟨_, _, hk, nb 3 Tryz.f212 (by kernel_rfl), _, run_i_Value c i q hpre⟩
end Go.Pi
