/- Contracts of functions, each out of its run by PI. No conditions. -/
import Derived.Test.YtkiokbkbgjomeaaC3
namespace Go.Pi
open Go.Proofs
set_option linter.unusedVariables false
set_option linter.unusedSimpArgs false
set_option maxRecDepth 100000
attribute [local irreducible] iterN
/-! two that are apart -/
theorem twoOk_iff {t : Two} : twoOk t = true ↔ stateOk (sideState t 0) = true ∧ stateOk (sideState t 1) = true := by simp [twoOk]
theorem side0 (t : Two) : sideState t 0 = ⟨t.a.regs, t.a.pc, t.mem, t.a.trap⟩ := sideState_0 rfl
theorem side1 (t : Two) : sideState t 1 = ⟨t.b.regs, t.b.pc, t.mem, t.b.trap⟩ := sideState_1 rfl
theorem hold0 (t : Two) : hold (sideState t 0) = heldW t.a := by rw [side0]; rfl
theorem hold1 (t : Two) : hold (sideState t 1) = heldW t.b := by rw [side1]; rfl
theorem meetI_f {a b : List Int} : meetI a b = false ↔ ∀ c ∈ a, c ∉ b := by
  simp only [meetI, List.any_eq_false]
  constructor
  · intro h c hc hb
    exact h c hc (List.any_eq_true.2 ⟨c, hb, beq_iff_eq.2 rfl⟩)
  · intro h c hc hb
    obtain ⟨x, hx, e⟩ := List.any_eq_true.1 hb
    rw [beq_iff_eq.1 e] at hc
    exact h x hc hx
def Ap (C D : List Word) : Prop := ∀ j : Nat, j < 24 → coverP C 2 j = true → coverP D 1 j = false ∧ coverP D 2 j = false
theorem ap_of {m : Mem} {a b : List Word} (h : crossesB m a b = false) : Ap (closure m a) (closure m b) := fun j hj hc => by
  have h1 := meetI_f.1 h j (mem_cellsBy.2 ⟨j, hj, hc, rfl⟩)
  simp only [List.mem_append, not_or] at h1
  refine ⟨?_, ?_⟩
  · cases e : coverP (closure m b) 1 j with
    | false => rfl
    | true => exact absurd (mem_cellsBy.2 ⟨j, hj, e, rfl⟩) h1.1
  · cases e : coverP (closure m b) 2 j with
    | false => rfl
    | true => exact absurd (mem_cellsBy.2 ⟨j, hj, e, rfl⟩) h1.2
def NoSeal (C : List Word) : Prop := ∀ c ∈ C, hasP c 32 = false
theorem noSeal_of {m : Mem} {a : List Word} (h : canSeal m a = false) : NoSeal (closure m a) := fun c hc => by
  simp only [canSeal, List.any_eq_false] at h
  simpa using h c hc
structure Both (A B : List Word) (t : Two) : Prop where
  a : Inv A (sideState t 0)
  b : Inv B (sideState t 1)
  ab : Ap A B
  ba : Ap B A
  na : NoSeal A
  nb : NoSeal B
theorem both_first {t : Two} (h : apartB t = true) : Both (closure t.mem (heldW t.a)) (closure t.mem (heldW t.b)) t := by
  simp only [apartB, Bool.and_eq_true, Bool.not_eq_true'] at h
  obtain ⟨⟨⟨h1, h2⟩, h3⟩, h4, h5⟩ := h
  obtain ⟨o1, o2⟩ := twoOk_iff.1 h1
  have i1 := inv_first o1
  have i2 := inv_first o2
  rw [hold0] at i1
  rw [hold1] at i2
  have m0 : (sideState t 0).mem = t.mem := by rw [side0]
  have m1 : (sideState t 1).mem = t.mem := by rw [side1]
  rw [m0] at i1; rw [m1] at i2
  exact ⟨i1, i2, ap_of h4, ap_of h5, noSeal_of h2, noSeal_of h3⟩
theorem other_inv {A B : List Word} {l : List Inst} {s o : State} (hs : Inv A s) (ho : Inv B o) (hm : s.mem = o.mem) (hab : Ap A B) : Inv B ⟨o.regs, o.pc, (stepS l s).mem, o.trap⟩ := by
  obtain ⟨r1, r2, r3, r4, r5, r6⟩ := stateOk_iff.1 ho.ok
  obtain ⟨q1, q2, q3, q4, q5, q6⟩ := stateOk_iff.1 (stepS_ok (l := l) hs.ok)
  refine ⟨stateOk_iff.2 ⟨r1, r2, r3, q4, r5, r6⟩, ho.regs, ho.pc, fun c hc hi hop j h1 h2 h3 => ?_⟩
  have hcov : coverP B 1 j = true := coverP_iff.2 ⟨c, hc, hasP_iff.2 ⟨hi, (opens_iff.1 hop).1⟩, h1, by omega⟩
  have : (stepS l s).mem.words.getD j (FT.zero .word) = o.mem.words.getD j (FT.zero .word) := by
    rw [← hm]
    refine Classical.byContradiction fun hne => ?_
    obtain ⟨k1, k2⟩ := hs.cell hne
    rw [(hab j k1 k2).1] at hcov; cases hcov
  show Und B ((stepS l s).mem.words.getD j (FT.zero .word))
  rw [this]
  exact ho.mem c hc hi hop j h1 h2 h3
theorem setSide_0 (t : Two) (s : State) : sideState (setSide t s 0) 0 = ⟨s.regs, s.pc, s.mem, s.trap⟩ ∧ sideState (setSide t s 0) 1 = ⟨t.b.regs, t.b.pc, s.mem, t.b.trap⟩ := ⟨rfl, rfl⟩
theorem setSide_1 (t : Two) (s : State) : sideState (setSide t s 1) 0 = ⟨t.a.regs, t.a.pc, s.mem, t.a.trap⟩ ∧ sideState (setSide t s 1) 1 = ⟨s.regs, s.pc, s.mem, s.trap⟩ := ⟨rfl, rfl⟩
theorem Both.ok {A B : List Word} {t : Two} (h : Both A B t) : twoOk t = true := twoOk_iff.2 ⟨h.a.ok, h.b.ok⟩
theorem twoStep_who0 {a b : List Inst} {t : Two} (h : twoOk t = true) : twoStep a b t 0 = (setSide t (stepS a (sideState t 0)) 0, true) := by rw [twoStep_ok h (by decide)]; rfl
theorem twoStep_who1 {a b : List Inst} {t : Two} (h : twoOk t = true) : twoStep a b t 1 = (setSide t (stepS b (sideState t 1)) 1, true) := by rw [twoStep_ok h (by decide)]; rfl
theorem Both.step0 {A B : List Word} {a b : List Inst} {t : Two} (h : Both A B t) : Both A B (twoStep a b t 0).1 := by
  rw [twoStep_who0 h.ok]
  obtain ⟨e1, e2⟩ := setSide_0 t (stepS a (sideState t 0))
  refine ⟨?_, ?_, h.ab, h.ba, h.na, h.nb⟩
  · dsimp only; rw [e1]; exact h.a.step
  · dsimp only; rw [e2]
    have := other_inv (l := a) h.a h.b (by rw [side0, side1]) h.ab
    rw [side1] at this
    exact this
theorem Both.step1 {A B : List Word} {a b : List Inst} {t : Two} (h : Both A B t) : Both A B (twoStep a b t 1).1 := by
  rw [twoStep_who1 h.ok]
  obtain ⟨e1, e2⟩ := setSide_1 t (stepS b (sideState t 1))
  refine ⟨?_, ?_, h.ab, h.ba, h.na, h.nb⟩
  · dsimp only; rw [e1]
    have := other_inv (l := b) h.b h.a (by rw [side0, side1]) h.ba
    rw [side0] at this
    exact this
  · dsimp only; rw [e2]; exact h.b.step
theorem Both.apart {A B : List Word} {t : Two} (h : Both A B t) (ha : ∀ x ∈ closure t.mem (heldW t.a), Und A x) (hb : ∀ x ∈ closure t.mem (heldW t.b), Und B x) : apartB t = true := by
  have hs : ∀ {C : List Word} {l : List Word}, (∀ x ∈ closure t.mem l, Und C x) → NoSeal C → canSeal t.mem l = false := fun {C l} hu hn => by
    cases e : canSeal t.mem l with
    | false => rfl
    | true =>
      simp only [canSeal, List.any_eq_true] at e
      obtain ⟨w, h1, h2⟩ := e
      obtain ⟨p1, p2⟩ := hasP_iff.1 h2
      obtain ⟨d, d1, d2, d3⟩ := hu w h1 p1
      obtain ⟨q1, q2, q3, q4, q5⟩ := coversK_iff.1 d3
      have := hn d d1
      rw [hasP_iff.2 ⟨d2, andI_bit q5 p2⟩] at this
      cases this
  have hcov : ∀ {C : List Word} {l : List Word} {p : Int} {j : Nat}, (∀ x ∈ closure t.mem l, Und C x) → coverP (closure t.mem l) p j = true → coverP C p j = true := fun {C l p j} hu hc => by
    obtain ⟨w, w1, w2, w3, w4⟩ := coverP_iff.1 hc
    exact cover_up (hu w w1) w2 w3 w4
  have hx : ∀ {C D : List Word} {l k : List Word}, (∀ x ∈ closure t.mem l, Und C x) → (∀ x ∈ closure t.mem k, Und D x) → Ap C D → crossesB t.mem l k = false := fun {C D l k} hu hv hap => by
    refine meetI_f.2 fun c hc hc2 => ?_
    obtain ⟨j, h1, h2, rfl⟩ := mem_cellsBy.1 hc
    have := hap j h1 (hcov hu h2)
    rcases List.mem_append.1 hc2 with q | q
    · obtain ⟨i, i1, i2, i3⟩ := mem_cellsBy.1 q
      have : i = j := by omega
      subst this
      have := hcov hv i2
      simp_all
    · obtain ⟨i, i1, i2, i3⟩ := mem_cellsBy.1 q
      have : i = j := by omega
      subst this
      have := hcov hv i2
      simp_all
  simp only [apartB, Bool.and_eq_true, Bool.not_eq_true']
  exact ⟨⟨⟨h.ok, hs ha h.na⟩, hs hb h.nb⟩, hx ha hb h.ab, hx hb ha h.ba⟩
theorem Both.apart' {A B : List Word} {t : Two} (h : Both A B t) : apartB t = true := by
  have h1 := h.a.under
  have h2 := h.b.under
  rw [hold0, show (sideState t 0).mem = t.mem by rw [side0]] at h1
  rw [hold1, show (sideState t 1).mem = t.mem by rw [side1]] at h2
  exact h.apart h1 h2
theorem apart_step {a b : List Inst} {t : Two} {who : Int} (h : apartB t = true) (hw : who = 0 ∨ who = 1) : (twoStep a b t who).2 = true ∧ apartB (twoStep a b t who).1 = true := by
  have hb := both_first h
  rcases hw with rfl | rfl
  · exact ⟨by rw [twoStep_who0 hb.ok], (hb.step0 (a := a) (b := b)).apart'⟩
  · exact ⟨by rw [twoStep_who1 hb.ok], (hb.step1 (a := a) (b := b)).apart'⟩
/-! ### a step hangs on what it can load alone -/
structure SameL (C : List Word) (s u : State) : Prop where
  regs : s.regs = u.regs
  pc : s.pc = u.pc
  trap : s.trap = u.trap
  gone : s.mem.gone = u.mem.gone
  load : ∀ j : Nat, j < 24 → coverP C 1 j = true → s.mem.words.getD j (FT.zero .word) = u.mem.words.getD j (FT.zero .word)
theorem same_eff {C : List Word} {l : List Inst} {s u : State} (hs : Inv C s) (hu : Inv C u) (h : SameL C s u) : effE l s = effE l u := by
  obtain ⟨r1, r2, r3, r4, r5, r6⟩ := stateOk_iff.1 hs.ok
  obtain ⟨m1, m2, m3⟩ := memoryOk_iff.1 r4
  obtain ⟨q1, q2, q3, q4, q5, q6⟩ := stateOk_iff.1 hu.ok
  obtain ⟨n1, n2, n3⟩ := memoryOk_iff.1 q4
  have hm : ∀ (x : Inst) (a b : Word), Und C a → memE s.mem x a b = memE u.mem x a b := fun x a b ha => by
    have hr : readM s.mem a (IntKind.i64.wrap (a.n + x.n)) = readM u.mem a (IntKind.i64.wrap (a.n + x.n)) := by
      have hc : readC s.mem a (IntKind.i64.wrap (a.n + x.n)) = readC u.mem a (IntKind.i64.wrap (a.n + x.n)) := by unfold readC; rw [m1, n1]
      unfold readM
      rw [← hc]
      split
      · rfl
      · rename_i h0
        obtain ⟨t1, t2, t3⟩ := readC_00 (m := s.mem) (y := a) (n := IntKind.i64.wrap (a.n + x.n)) (by simpa using h0)
        obtain ⟨k1, k2, k3, k4, k5, k6⟩ := tryW_0 t1
        generalize IntKind.i64.wrap (a.n + x.n) = n at *
        obtain ⟨j, rfl⟩ := Int.eq_ofNat_of_zero_le t2
        rw [Int.toNat_natCast, h.gone, h.load j (by omega) (cover_up ha (hasP_iff.2 ⟨k2, by rw [k4]; decide⟩) k5 (by omega))]
    have hw : writeC s.mem a (IntKind.i64.wrap (a.n + x.n)) b = writeC u.mem a (IntKind.i64.wrap (a.n + x.n)) b := by unfold writeC; rw [m1, n1]
    unfold memE
    rw [hr, hw]
  unfold effE
  simp only
  rw [h.pc, h.regs, hm _ _ _ (getD_und hu.regs _)]
theorem same_step {C : List Word} {l : List Inst} {s u : State} (hs : Inv C s) (hu : Inv C u) (h : SameL C s u) : SameL C (stepS l s) (stepS l u) ∧
    ∀ j : Nat, s.mem.words.getD j (FT.zero .word) = u.mem.words.getD j (FT.zero .word) → (stepS l s).mem.words.getD j (FT.zero .word) = (stepS l u).mem.words.getD j (FT.zero .word) := by
  have he := same_eff (l := l) hs hu h
  have hl : s.mem.words.length = u.mem.words.length := by rw [(stateOk_len hs.ok).2.1, (stateOk_len hu.ok).2.1]
  have key : ∀ j : Nat, s.mem.words.getD j (FT.zero .word) = u.mem.words.getD j (FT.zero .word) → (stepS l s).mem.words.getD j (FT.zero .word) = (stepS l u).mem.words.getD j (FT.zero .word) := fun j hj => by
    by_cases ht : s.trap = 0
    · by_cases h0 : (effE l s).trap = 0
      · rw [stepS_0 hs.ok ht h0, stepS_0 hu.ok (by rw [← h.trap]; exact ht) (by rw [← he]; exact h0), ← he]
        unfold putE; dsimp only
        split
        · rw [getD_set2, getD_set2, hl, hj]
        · exact hj
      · rw [stepS_e hs.ok ht h0, stepS_e hu.ok (by rw [← h.trap]; exact ht) (by rw [← he]; exact h0)]; exact hj
    · rw [stepS_trap hs.ok ht, stepS_trap hu.ok (by rw [← h.trap]; exact ht)]; exact hj
  refine ⟨?_, key⟩
  have hload : ∀ j : Nat, j < 24 → coverP C 1 j = true → (stepS l s).mem.words.getD j (FT.zero .word) = (stepS l u).mem.words.getD j (FT.zero .word) := fun j h1 h2 => key j (h.load j h1 h2)
  by_cases ht : s.trap = 0
  · by_cases h0 : (effE l s).trap = 0
    · rw [stepS_0 hs.ok ht h0, stepS_0 hu.ok (by rw [← h.trap]; exact ht) (by rw [← he]; exact h0), ← he] at hload ⊢
      exact ⟨by unfold putE; dsimp only; rw [h.regs], rfl, h.trap, by unfold putE; dsimp only; rw [h.gone], hload⟩
    · rw [stepS_e hs.ok ht h0, stepS_e hu.ok (by rw [← h.trap]; exact ht) (by rw [← he]; exact h0)] at hload ⊢
      exact ⟨h.regs, h.pc, by dsimp only; rw [he], h.gone, hload⟩
  · rw [stepS_trap hs.ok ht, stepS_trap hu.ok (by rw [← h.trap]; exact ht)] at hload ⊢
    exact h
structure Alone (C : List Word) (u s : State) : Prop where
  inv : Inv C s
  same : SameL C s u
  mine : ∀ j : Nat, j < 24 → coverP C 1 j = true ∨ coverP C 2 j = true → s.mem.words.getD j (FT.zero .word) = u.mem.words.getD j (FT.zero .word)
theorem Alone.step {C : List Word} {l : List Inst} {u s : State} (h : Alone C u s) (hu : Inv C u) : Alone C (stepS l u) (stepS l s) := by
  obtain ⟨k1, k2⟩ := same_step (l := l) h.inv hu h.same
  exact ⟨h.inv.step, k1, fun j h1 h2 => k2 j (h.mine j h1 h2)⟩

structure Cur where
  b : List Int
  i : Int
  h : Int
def Cur.tc (c : Cur) (r : List TC) : List TC := tl false (.int .u8) c.b :: .int .i64 c.i :: .int .i64 c.h :: r
def pCurT : Prs Cur := fun l f => pL (.int .u8) l fun a l => pN l fun b l => pN l fun c l => f ⟨a, b, c⟩ l
theorem rd_cur : Rd pCurT Cur.tc := fun l f h0 => by
  obtain ⟨a, _, rfl, h1⟩ := rd_l (.int .u8) _ _ h0
  obtain ⟨b, _, rfl, h2⟩ := rd_int .i64 _ _ h1
  obtain ⟨c, _, rfl, h3⟩ := rd_int .i64 _ _ h2
  exact ⟨⟨a, b, c⟩, _, rfl, h3⟩
def CurOk (c : Cur) : Prop := 0 ≤ c.i ∧ c.b.length ≤ 1048576
abbrev curOut (d : Cur) : Tree := .v (.ptr true 0 (d.tc []))
theorem and255 (n : Int) : 0 ≤ andI n 255 ∧ andI n 255 ≤ 255 := andI_le n (by decide) (by decide)

def pf_laws_big : PF := ⟨[.t 2], .seq (.reg [.s (.mv 2 (.k (.v (.c .ff))))]) (.seq (.reg [.s (.mv 3 (.t 0)), .s (.len 4 false (.t 3)), .s (.bin 5 .gtr (.t 4) (.k (.v (.c (.int .i64 1048576))))), .s (.mv 2 (.t 5))]) (.ret))⟩
def c_laws_big : Fun := ⟨8, [], fun ts K => as1 ts fun t0 => arC (pL (.int .u8)) t0 fun c => K (tB (decide (1048576 < c.length))) []⟩
theorem run_laws_big (c : List (FT.Ty (.int .u8))) : runK [] (0) [] pf_laws_big [tL false (.int .u8) c] fun r o => r = tB (decide (1048576 < c.length)) ∧ o = [] := by
  conv => whnf
  repeat' (first | (refine sel_i (fun h => ?_) (fun h => ?_) <;> conv => whnf) | (refine chk_c ?_ ?_ <;> conv => whnf) | (refine And.intro ?_ rfl) | (refine And.intro ?_ ?_ <;> conv => whnf))
  have e : decide ((c.length : Int) > 1048576) = decide (1048576 < c.length) := decide_eq_decide.2 (by omega)
  rw [e]
theorem ok_laws_big : FunOk Try.prog c_laws_big := funOk (E := []) (envOk_nil) mixd Try.func8 (pf := pf_laws_big) (by kernel_rfl) fun ts K h => by
  obtain ⟨t0, e0, h⟩ := as1_out h
  subst e0
  obtain ⟨c, e1, hq⟩ := arC_out (rd_l (.int .u8)) h
  clear h
  subst e1
  have h := hq
  clear hq
  exact ⟨_, _, h, Nat.le_of_ble_eq_true (show Nat.ble 1 Try.f8.ntmps = true by kernel_rfl), _, run_laws_big c⟩

def lb_spec_l1New_0 : PC := .seq (.seq (.reg [.s (.mv 8 (.t 4)), .s (.mv 9 (.t 0)), .s (.len 10 false (.t 9)), .s (.bin 11 .lss (.t 8) (.t 10)), .s (.mv 12 (.t 11)), .g 12 true (some 13) (.mv 13 (.t 4)), .g 12 true (some 14) (.bin 14 .lss (.t 13) (.k (.v (.c (.int .i64 4000))))), .s (.pick 15 (.t 12) (.t 14) (.k (.v (.c .ff))))]) (.cond (.t 15) (.skip) (.exit 0))) (.seq (.blk 1 (.reg [.s (.mv 18 (.t 3)), .s (.bin 19 .mul (.t 18) (.k (.v (.c (.int .i64 131))))), .s (.mv 20 (.t 0)), .s (.mv 21 (.t 4)), .s (.ia 22 (.int .u8) (.t 20) (.t 21)), .s (.load 23 false 1 (.t 22)), .s (.conv 24 .i64 (.t 23)), .s (.bin 25 .add (.t 19) (.t 24)), .s (.bin 26 .add (.t 25) (.k (.v (.c (.int .i64 7))))), .s (.bin 27 .and (.t 26) (.k (.v (.c (.int .i64 1073741823))))), .s (.mv 3 (.t 27))])) (.reg [.s (.mv 16 (.t 4)), .s (.bin 17 .add (.t 16) (.k (.v (.c (.int .i64 1))))), .s (.mv 4 (.t 17))]))
def pf_spec_l1New : PF := ⟨[.t 2], .seq (.reg [.s (.mv 2 (.k (.v (.c .nilp))))]) (.seq (.reg [.s (.mv 5 (.t 0)), .s (.len 6 false (.t 5)), .s (.bin 7 .add (.k (.v (.c (.int .i64 19220)))) (.t 6)), .s (.mv 3 (.t 7))]) (.seq (.seq (.reg [.s (.mv 4 (.k (.v (.c (.int .i64 0)))))]) (.blk 0 (.loop [0, 3, 4] lb_spec_l1New_0))) (.seq (.reg [.s (.mv 28 (.t 0)), .s (.mv 29 (.t 3)), .s (.build 30 [.nils (.int .u8), .int .i64 0, .int .i64 0] [(0, 1, (.t 28)), (2, 1, (.t 29))]), .s (.box 31 (.t 30)), .s (.mv 2 (.t 31))]) (.ret))))⟩
def c_spec_l1New : Fun := ⟨61, [], fun ts K => as1 ts fun t0 => arC (pL (.int .u8)) t0 fun c => chk (c.length ≤ 1048576) (∀ (d : Cur), (CurOk d) → K (.v (.ptr true 0 (d.tc []))) [])⟩
theorem run_spec_l1New (c : List (FT.Ty (.int .u8))) (hpre : c.length ≤ 1048576) {K : Tree → List Tree → Prop} (hK : ∀ (d : Cur), (CurOk d) → K (.v (.ptr true 0 (d.tc []))) []) : runK [] (c.length + 1) [] pf_spec_l1New [tL false (.int .u8) c] K := by
  conv => whnf
  refine loop (α := Nat × Int) (fun q => ⟨[(0, .v (.c (.sl false (.int .u8) 0))), (3, .v (.c (.int .i64 q.2))), (4, .v (.c (.int .i64 (q.1 : Int))))], [(0, some (.flat false (.int .u8) none c))], nums.tail, [], false, []⟩)
    (fun q => q.1 ≤ c.length) (fun q => c.length - q.1) (fun q R hI hR => ?_) (0, IntKind.i64.wrap (19220 + (c.length : Int))) _ (Nat.zero_le _) (by simp)
  obtain ⟨i, n⟩ := q
  dsimp only at hI
  dsimp only
  conv => whnf
  repeat' (first | (refine sel_i (fun h => ?_) (fun h => ?_) <;> conv => whnf) | (refine chk_c ?_ ?_ <;> conv => whnf) | (refine And.intro ?_ rfl) | (refine And.intro ?_ ?_ <;> conv => whnf))
  all_goals first
    | (refine ⟨?_⟩; simp at *; omega)
    | (rw [wrap_id (n := (i : Int) + 1) (by omega) (by omega)]; refine hR (i + 1, _) (by simp at *; omega) (by simp at *; omega))
    | exact hK ⟨_, _, _⟩ ⟨Int.le_refl _, hpre⟩
    | trace_state
theorem ok_spec_l1New : FunOk Try.prog c_spec_l1New := funOkR (E := []) (envOk_nil) mixd Try.func61 (pf := pf_spec_l1New) (by kernel_rfl) fun ts K h => by
  obtain ⟨t0, e0, h⟩ := as1_out h
  subst e0
  obtain ⟨c, e1, hq⟩ := arC_out (rd_l (.int .u8)) h
  clear h
  subst e1
  have h := hq
  clear hq
  obtain ⟨hpre, h⟩ := chk_o h
  exact ⟨Nat.le_of_ble_eq_true (show Nat.ble 1 Try.f61.ntmps = true by kernel_rfl), _, run_spec_l1New c hpre h⟩

def pf_spec_l1Byte : PF := ⟨[.t 2], .seq (.reg [.s (.mv 2 (.k (.v (.c (.int .i64 0)))))]) (.seq (.reg [.s (.mv 4 (.t 0)), .s (.mv 5 (.t 0)), .s (.nchk 6 (.t 5)), .s (.fa 7 (.t 6) 2), .s (.load 8 false 1 (.t 7)), .s (.bin 9 .mul (.t 8) (.k (.v (.c (.int .i64 6364136223846793005))))), .s (.bin 10 .add (.t 9) (.k (.v (.c (.int .i64 1442695040888963407))))), .s (.nchk 11 (.t 4)), .s (.fa 12 (.t 11) 2), .s (.store 1 (.t 12) (.t 10))]) (.seq (.rgd [] [.s (.mv 13 (.t 0)), .s (.nchk 14 (.t 13)), .s (.fa 15 (.t 14) 2), .s (.load 16 false 1 (.t 15)), .s (.bin 17 .shr (.t 16) (.k (.v (.c (.int .u64 33))))), .s (.mv 18 (.t 0)), .s (.nchk 19 (.t 18)), .s (.fa 20 (.t 19) 2), .s (.load 21 false 1 (.t 20)), .s (.bin 22 .shr (.t 21) (.k (.v (.c (.int .u64 45))))), .s (.bin 23 .xor (.t 17) (.t 22)), .s (.bin 24 .and (.t 23) (.k (.v (.c (.int .i64 255))))), .s (.mv 3 (.t 24))] (.tk 0 (.tk 1 (.tk 2 (.tk 3 (.tk 4 (.tk 5 (.tk 6 (.tk 7 (.tk 8 (.tk 9 (.tk 10 (.tk 11 (.tk 12 (.done none))))))))))))))) (.seq (.seq (.rgd [] [.s (.mv 25 (.t 0)), .s (.nchk 26 (.t 25)), .s (.fa 27 (.t 26) 1), .s (.load 28 false 1 (.t 27)), .s (.mv 29 (.t 0)), .s (.nchk 30 (.t 29)), .s (.fa 31 (.t 30) 0), .s (.load 32 false 1 (.t 31)), .s (.len 33 false (.t 32)), .s (.bin 34 .lss (.t 28) (.t 33))] (.tk 0 (.tk 1 (.tk 2 (.tk 3 (.tk 4 (.tk 5 (.tk 6 (.tk 7 (.tk 8 (.tk 9 (.done none)))))))))))) (.cond (.t 34) (.seq (.rgd [] [.s (.mv 35 (.t 3)), .s (.mv 36 (.t 0)), .s (.nchk 37 (.t 36)), .s (.fa 38 (.t 37) 0), .s (.load 39 false 1 (.t 38)), .s (.mv 40 (.t 0)), .s (.nchk 41 (.t 40)), .s (.fa 42 (.t 41) 1), .s (.load 43 false 1 (.t 42)), .s (.ia 44 (.int .u8) (.t 39) (.t 43)), .s (.load 45 false 1 (.t 44)), .s (.conv 46 .i64 (.t 45)), .s (.bin 47 .add (.t 35) (.t 46)), .s (.bin 48 .and (.t 47) (.k (.v (.c (.int .i64 255))))), .s (.mv 3 (.t 48))] (.tk 0 (.tk 1 (.tk 2 (.tk 3 (.tk 4 (.tk 5 (.tk 6 (.tk 7 (.tk 8 (.tk 9 (.tk 10 (.tk 11 (.tk 12 (.tk 13 (.tk 14 (.done none))))))))))))))))) (.reg [.s (.mv 49 (.t 0)), .s (.mv 50 (.t 0)), .s (.nchk 51 (.t 50)), .s (.fa 52 (.t 51) 1), .s (.load 53 false 1 (.t 52)), .s (.bin 54 .add (.t 53) (.k (.v (.c (.int .i64 1))))), .s (.nchk 55 (.t 49)), .s (.fa 56 (.t 55) 1), .s (.store 1 (.t 56) (.t 54))])) (.skip))) (.seq (.reg [.s (.mv 57 (.t 3)), .s (.mv 2 (.t 57))]) (.ret)))))⟩
def c_spec_l1Byte : Fun := ⟨116, [true], fun ts K => as1 ts fun t0 => arQ pCurT t0 fun c => chk (CurOk c) (∀ (x : Int) (d : Cur), ((0 ≤ x ∧ x ≤ 255) ∧ CurOk d) → K (tN x) ([curOut d]))⟩
theorem run_spec_l1Byte (c : Cur) (hpre : CurOk c) {K : Tree → List Tree → Prop} (hK : ∀ (x : Int) (d : Cur), ((0 ≤ x ∧ x ≤ 255) ∧ CurOk d) → K (tN x) ([curOut d])) : runK [] (0) [true] pf_spec_l1Byte [.v (.ptr true 0 (c.tc []))] K := by
  obtain ⟨c1, c2⟩ := hpre
  conv => whnf
  repeat' (first | (refine sel_i (fun h => ?_) (fun h => ?_) <;> conv => whnf) | (refine chk_c ?_ ?_ <;> conv => whnf) | (refine And.intro ?_ rfl) | (refine And.intro ?_ ?_ <;> conv => whnf))
  all_goals (try simp only [andI_eq])
  all_goals first
    | (refine ⟨?_⟩; decide)
    | (refine ⟨?_⟩; simp at h; omega)
    | (have hc : c.i < c.b.length := by simpa using h
       rw [wrap_id (n := c.i + 1) (by omega) (by omega)]
       generalize hy : andI _ 255 = y
       exact hK y ⟨c.b, c.i + 1, _⟩ ⟨hy ▸ and255 _, by dsimp only; omega, c2⟩)
    | (generalize hy : andI _ 255 = y; generalize IntKind.i64.wrap (IntKind.i64.wrap (c.h * 6364136223846793005) + 1442695040888963407) = z; exact hK y ⟨c.b, c.i, z⟩ ⟨hy ▸ and255 _, c1, c2⟩)
    | trace_state
theorem ok_spec_l1Byte : FunOk Try.prog c_spec_l1Byte := funOkR (E := []) (envOk_nil) mixd Try.func116 (pf := pf_spec_l1Byte) (by kernel_rfl) fun ts K h => by
  obtain ⟨t0, e0, h⟩ := as1_out h
  subst e0
  obtain ⟨c, e1, hq⟩ := arQ_out rd_cur h
  clear h
  subst e1
  have h := hq
  clear hq
  obtain ⟨hpre, h⟩ := chk_o h
  exact ⟨Nat.le_of_ble_eq_true (show Nat.ble 1 Try.f116.ntmps = true by kernel_rfl), _, run_spec_l1Byte c hpre h⟩

theorem tmod_in {x n : Int} (hx : 0 ≤ x) (hn : 0 < n) : 0 ≤ x.tmod n ∧ x.tmod n < n := by
  rw [Int.tmod_eq_emod_of_nonneg hx]; exact ⟨Int.emod_nonneg _ (by omega), Int.emod_lt_of_pos _ hn⟩

def pf_spec_l1Below : PF := ⟨[.t 4], .seq (.reg [.s (.mv 4 (.k (.v (.c (.int .i64 0)))))]) (.seq (.seq (.reg [.s (.mv 9 (.t 1)), .s (.bin 10 .leq (.t 9) (.k (.v (.c (.int .i64 0)))))]) (.cond (.t 10) (.seq (.reg [.s (.mv 4 (.k (.v (.c (.int .i64 0)))))]) (.ret)) (.skip))) (.seq (.seq (.reg [.s (.mv 11 (.t 1)), .s (.bin 12 .leq (.t 11) (.k (.v (.c (.int .i64 256)))))]) (.cond (.t 12) (.seq (.reg [.s (.mv 13 (.t 0)), .s (.call (some 14) 116 [(.t 13)]), .s (.mv 15 (.t 1)), .s (.bin 16 .rem (.t 14) (.t 15)), .s (.mv 4 (.t 16))]) (.ret)) (.skip))) (.seq (.reg [.s (.mv 17 (.t 0)), .s (.call (some 18) 116 [(.t 17)]), .s (.mv 5 (.t 18))]) (.seq (.reg [.s (.mv 19 (.t 0)), .s (.call (some 20) 116 [(.t 19)]), .s (.mv 6 (.t 20))]) (.seq (.reg [.s (.mv 21 (.t 0)), .s (.call (some 22) 116 [(.t 21)]), .s (.mv 7 (.t 22))]) (.seq (.reg [.s (.mv 23 (.t 0)), .s (.call (some 24) 116 [(.t 23)]), .s (.mv 8 (.t 24))]) (.seq (.reg [.s (.mv 25 (.t 5)), .s (.bin 26 .mul (.t 25) (.k (.v (.c (.int .i64 16777216))))), .s (.mv 27 (.t 6)), .s (.bin 28 .mul (.t 27) (.k (.v (.c (.int .i64 65536))))), .s (.bin 29 .add (.t 26) (.t 28)), .s (.mv 30 (.t 7)), .s (.bin 31 .mul (.t 30) (.k (.v (.c (.int .i64 256))))), .s (.bin 32 .add (.t 29) (.t 31)), .s (.mv 33 (.t 8)), .s (.bin 34 .add (.t 32) (.t 33)), .s (.mv 35 (.t 1)), .s (.bin 36 .rem (.t 34) (.t 35)), .s (.mv 4 (.t 36))]) (.ret))))))))⟩
def c_spec_l1Below : Fun := ⟨63, [true, false], fun ts K => as2 ts fun t0 t1 => arQ pCurT t0 fun c => arC (pI .i64) t1 fun n => chk (CurOk c) (∀ (x : Int) (d : Cur), ((0 ≤ x ∧ (n ≤ 0 → x = 0) ∧ (0 < n → x < n)) ∧ CurOk d) → K (tN x) ([curOut d]))⟩
theorem run_spec_l1Below (c : Cur) (n : Int) (hpre : CurOk c) {K : Tree → List Tree → Prop} (hK : ∀ (x : Int) (d : Cur), ((0 ≤ x ∧ (n ≤ 0 → x = 0) ∧ (0 < n → x < n)) ∧ CurOk d) → K (tN x) ([curOut d])) : runK [c_spec_l1Byte] (0) [true, false] pf_spec_l1Below [.v (.ptr true 0 (c.tc [])), tI .i64 n] K := by
  conv => whnf
  repeat' (first | (refine sel_i (fun h => ?_) (fun h => ?_) <;> conv => whnf) | (refine chk_c ?_ ?_ <;> conv => whnf) | (refine And.intro ?_ rfl) | (refine And.intro ?_ ?_ <;> conv => whnf) | (intro x y z d hd; (try have g1 := And.left hd); (try have g2 := And.right hd); (try have g3 := And.left (And.right hd)); (try have g4 := And.right (And.right hd)); conv => whnf) | (intro x y d hd; (try have g1 := And.left hd); (try have g2 := And.right hd); (try have g3 := And.left (And.right hd)); (try have g4 := And.right (And.right hd)); conv => whnf) | (intro x d hd; (try have g1 := And.left hd); (try have g2 := And.right hd); (try have g3 := And.left (And.right hd)); (try have g4 := And.right (And.right hd)); conv => whnf) | (intro d hd; (try have g1 := And.left hd); (try have g2 := And.right hd); (try have g3 := And.left (And.right hd)); (try have g4 := And.right (And.right hd)); conv => whnf))
  all_goals first
    | (refine ⟨?_⟩; exact hd.2)
    | (refine ⟨?_⟩; exact hpre)
    | (refine ⟨?_⟩; simp at *; omega)
    | exact hK _ ⟨_, _, _⟩ ⟨⟨Int.le_refl _, fun _ => rfl, fun _ => by simp at h; omega⟩, hpre⟩
    | (have hn : 0 < n := by simp at *; omega
       have ht := tmod_in (n := n) hd.1.1 hn
       exact hK _ ⟨_, _, _⟩ ⟨⟨ht.1, fun _ => by omega, fun _ => ht.2⟩, hd.2⟩)
    | (have hn : 0 < n := by simp at *; omega
       rename_i x1 d1 hd1 _ _ _ _ x2 d2 hd2 _ _ _ _ x3 d3 hd3 _ _ _ _
       have q1 := hd1.1; have q2 := hd2.1; have q3 := hd3.1; have q4 := hd.1
       rw [wrap_id (n := x1 * 16777216) (by omega) (by omega), wrap_id (n := x2 * 65536) (by omega) (by omega), wrap_id (n := x1 * 16777216 + x2 * 65536) (by omega) (by omega), wrap_id (n := x3 * 256) (by omega) (by omega), wrap_id (n := x1 * 16777216 + x2 * 65536 + x3 * 256) (by omega) (by omega), wrap_id (n := x1 * 16777216 + x2 * 65536 + x3 * 256 + x) (by omega) (by omega)]
       have ht := tmod_in (x := x1 * 16777216 + x2 * 65536 + x3 * 256 + x) (n := n) (by omega) hn
       exact hK _ ⟨_, _, _⟩ ⟨⟨ht.1, fun _ => by omega, fun _ => ht.2⟩, hd.2⟩)
    | trace_state
theorem ok_spec_l1Below : FunOk Try.prog c_spec_l1Below := funOkR (E := [c_spec_l1Byte]) (envOk_cons ok_spec_l1Byte (envOk_nil)) mixd Try.func63 (pf := pf_spec_l1Below) (by kernel_rfl) fun ts K h => by
  obtain ⟨t0, t1, e0, h⟩ := as2_out h
  subst e0
  obtain ⟨c, e1, hq⟩ := arQ_out rd_cur h
  clear h
  subst e1
  have h := hq
  clear hq
  obtain ⟨n, e1, hq⟩ := arC_out (rd_int .i64) h
  clear h
  subst e1
  have h := hq
  clear hq
  obtain ⟨hpre, h⟩ := chk_o h
  exact ⟨Nat.le_of_ble_eq_true (show Nat.ble 2 Try.f63.ntmps = true by kernel_rfl), _, run_spec_l1Below c n hpre h⟩

def pf_spec_l1Once : PF := ⟨[.t 4], .seq (.reg [.s (.mv 4 (.k (.v (.c .ff))))]) (.seq (.reg [.s (.mv 5 (.t 0)), .s (.mv 6 (.t 1)), .s (.call (some 7) 63 [(.t 5), (.t 6)]), .s (.bin 8 .eql (.t 7) (.k (.v (.c (.int .i64 0))))), .s (.mv 4 (.t 8))]) (.ret))⟩
def c_spec_l1Once : Fun := ⟨123, [true, false], fun ts K => as2 ts fun t0 t1 => arQ pCurT t0 fun c => arC (pI .i64) t1 fun n => chk (CurOk c) (∀ (x : Bool) (d : Cur), (CurOk d) → K (tB x) ([curOut d]))⟩
theorem run_spec_l1Once (c : Cur) (n : Int) (hpre : CurOk c) {K : Tree → List Tree → Prop} (hK : ∀ (x : Bool) (d : Cur), (CurOk d) → K (tB x) ([curOut d])) : runK [c_spec_l1Below] (0) [true, false] pf_spec_l1Once [.v (.ptr true 0 (c.tc [])), tI .i64 n] K := by
  conv => whnf
  repeat' (first | (refine sel_i (fun h => ?_) (fun h => ?_) <;> conv => whnf) | (refine chk_c ?_ ?_ <;> conv => whnf) | (refine And.intro ?_ rfl) | (refine And.intro ?_ ?_ <;> conv => whnf) | (intro x y z d hd; (try have g1 := And.left hd); (try have g2 := And.right hd); (try have g3 := And.left (And.right hd)); (try have g4 := And.right (And.right hd)); conv => whnf) | (intro x y d hd; (try have g1 := And.left hd); (try have g2 := And.right hd); (try have g3 := And.left (And.right hd)); (try have g4 := And.right (And.right hd)); conv => whnf) | (intro x d hd; (try have g1 := And.left hd); (try have g2 := And.right hd); (try have g3 := And.left (And.right hd)); (try have g4 := And.right (And.right hd)); conv => whnf) | (intro d hd; (try have g1 := And.left hd); (try have g2 := And.right hd); (try have g3 := And.left (And.right hd)); (try have g4 := And.right (And.right hd)); conv => whnf))
  all_goals first
    | (refine ⟨?_⟩; exact hpre)
    | exact hK _ ⟨_, _, _⟩ hd.2
    | trace_state
theorem ok_spec_l1Once : FunOk Try.prog c_spec_l1Once := funOkR (E := [c_spec_l1Below]) (envOk_cons ok_spec_l1Below (envOk_nil)) mixd Try.func123 (pf := pf_spec_l1Once) (by kernel_rfl) fun ts K h => by
  obtain ⟨t0, t1, e0, h⟩ := as2_out h
  subst e0
  obtain ⟨c, e1, hq⟩ := arQ_out rd_cur h
  clear h
  subst e1
  have h := hq
  clear hq
  obtain ⟨n, e1, hq⟩ := arC_out (rd_int .i64) h
  clear h
  subst e1
  have h := hq
  clear hq
  obtain ⟨hpre, h⟩ := chk_o h
  exact ⟨Nat.le_of_ble_eq_true (show Nat.ble 2 Try.f123.ntmps = true by kernel_rfl), _, run_spec_l1Once c n hpre h⟩

theorem getD_memI {l : List Int} {i : Nat} (h : i < l.length) : l.getD i 0 ∈ l := by
  rw [List.getD_eq_getElem?_getD, List.getElem?_eq_getElem h]; exact List.getElem_mem h

def pf_spec_l1PickInt : PF := ⟨[.t 4], .seq (.reg [.s (.mv 4 (.k (.v (.c (.int .i64 0)))))]) (.seq (.reg [.s (.mv 5 (.t 1)), .s (.mv 6 (.t 0)), .s (.mv 7 (.t 1)), .s (.len 8 false (.t 7)), .s (.call (some 9) 63 [(.t 6), (.t 8)]), .s (.ia 10 (.int .i64) (.t 5) (.t 9)), .s (.load 11 false 1 (.t 10)), .s (.mv 4 (.t 11))]) (.ret))⟩
def c_spec_l1PickInt : Fun := ⟨86, [true, true], fun ts K => as2 ts fun t0 t1 => arQ pCurT t0 fun c => arC (pO (.int .i64)) t1 fun l => chk (CurOk c ∧ 0 < l.length ∧ l.length ≤ 1048576) (∀ (x : Int) (d : Cur), (x ∈ l ∧ CurOk d) → K (tN x) ([curOut d, tL true (.int .i64) l]))⟩
theorem run_spec_l1PickInt (c : Cur) (l : List (FT.Ty (.int .i64))) (hpre : CurOk c ∧ 0 < l.length ∧ l.length ≤ 1048576) {K : Tree → List Tree → Prop} (hK : ∀ (x : Int) (d : Cur), (x ∈ l ∧ CurOk d) → K (tN x) ([curOut d, tL true (.int .i64) l])) : runK [c_spec_l1Below] (0) [true, true] pf_spec_l1PickInt [.v (.ptr true 0 (c.tc [])), tL true (.int .i64) l] K := by
  obtain ⟨c1, c2⟩ := hpre
  conv => whnf
  repeat' (first | (refine sel_i (fun h => ?_) (fun h => ?_) <;> conv => whnf) | (refine chk_c ?_ ?_ <;> conv => whnf) | (refine And.intro ?_ rfl) | (refine And.intro ?_ ?_ <;> conv => whnf) | (intro x y z d hd; (try have g1 := And.left hd); (try have g2 := And.right hd); (try have g3 := And.left (And.right hd)); (try have g4 := And.right (And.right hd)); conv => whnf) | (intro x y d hd; (try have g1 := And.left hd); (try have g2 := And.right hd); (try have g3 := And.left (And.right hd)); (try have g4 := And.right (And.right hd)); conv => whnf) | (intro x d hd; (try have g1 := And.left hd); (try have g2 := And.right hd); (try have g3 := And.left (And.right hd)); (try have g4 := And.right (And.right hd)); conv => whnf) | (intro d hd; (try have g1 := And.left hd); (try have g2 := And.right hd); (try have g3 := And.left (And.right hd)); (try have g4 := And.right (And.right hd)); conv => whnf))
  all_goals first
    | (refine ⟨?_⟩; exact c1)
    | (refine ⟨?_⟩; have := hd.1; omega)
    | (exact hK _ ⟨_, _, _⟩ ⟨getD_memI (by have := hd.1; omega), hd.2⟩)
    | trace_state
theorem ok_spec_l1PickInt : FunOk Try.prog c_spec_l1PickInt := funOkR (E := [c_spec_l1Below]) (envOk_cons ok_spec_l1Below (envOk_nil)) mixd Try.func86 (pf := pf_spec_l1PickInt) (by kernel_rfl) fun ts K h => by
  obtain ⟨t0, t1, e0, h⟩ := as2_out h
  subst e0
  obtain ⟨c, e1, hq⟩ := arQ_out rd_cur h
  clear h
  subst e1
  have h := hq
  clear hq
  obtain ⟨l, e1, hq⟩ := arC_out (rd_o (.int .i64)) h
  clear h
  subst e1
  have h := hq
  clear hq
  obtain ⟨hpre, h⟩ := chk_o h
  exact ⟨Nat.le_of_ble_eq_true (show Nat.ble 2 Try.f86.ntmps = true by kernel_rfl), _, run_spec_l1PickInt c l hpre h⟩

def pf_spec_l1Long : PF := ⟨[.t 6], .seq (.reg [.s (.mv 6 (.k (.v (.c (.int .i64 0)))))]) (.seq (.reg [.s (.mv 8 (.t 1)), .s (.mv 9 (.t 0)), .s (.len 10 false (.t 9)), .s (.bin 11 .quo (.t 10) (.k (.v (.c (.int .i64 4))))), .s (.bin 12 .add (.t 8) (.t 11)), .s (.mv 7 (.t 12))]) (.seq (.seq (.reg [.s (.mv 13 (.t 7)), .s (.mv 14 (.t 2)), .s (.bin 15 .gtr (.t 13) (.t 14))]) (.cond (.t 15) (.seq (.reg [.s (.mv 16 (.t 2)), .s (.mv 6 (.t 16))]) (.ret)) (.skip))) (.seq (.reg [.s (.mv 17 (.t 7)), .s (.mv 6 (.t 17))]) (.ret))))⟩
def c_spec_l1Long : Fun := ⟨99, [], fun ts K => as3 ts fun t0 t1 t2 => arC (pL (.int .u8)) t0 fun c => arC (pI .i64) t1 fun a => arC (pI .i64) t2 fun b => ∀ (x : Int), (x ≤ b) → K (tN x) []⟩
theorem run_spec_l1Long (c : List (FT.Ty (.int .u8))) (a : Int) (b : Int) {K : Tree → List Tree → Prop} (hK : ∀ (x : Int), (x ≤ b) → K (tN x) []) : runK [] (0) [] pf_spec_l1Long [tL false (.int .u8) c, tI .i64 a, tI .i64 b] K := by
  conv => whnf
  repeat' (first | (refine sel_i (fun h => ?_) (fun h => ?_) <;> conv => whnf) | (refine chk_c ?_ ?_ <;> conv => whnf) | (refine And.intro ?_ rfl) | (refine And.intro ?_ ?_ <;> conv => whnf))
  all_goals first
    | (refine ⟨?_⟩; decide)
    | exact hK _ (Int.le_refl _)
    | exact hK _ (by have := of_decide_eq_false h; omega)
    | trace_state
theorem ok_spec_l1Long : FunOk Try.prog c_spec_l1Long := funOkR (E := []) (envOk_nil) mixd Try.func99 (pf := pf_spec_l1Long) (by kernel_rfl) fun ts K h => by
  obtain ⟨t0, t1, t2, e0, h⟩ := as3_out h
  subst e0
  obtain ⟨c, e1, hq⟩ := arC_out (rd_l (.int .u8)) h
  clear h
  subst e1
  have h := hq
  clear hq
  obtain ⟨a, e1, hq⟩ := arC_out (rd_int .i64) h
  clear h
  subst e1
  have h := hq
  clear hq
  obtain ⟨b, e1, hq⟩ := arC_out (rd_int .i64) h
  clear h
  subst e1
  have h := hq
  clear hq
  exact ⟨Nat.le_of_ble_eq_true (show Nat.ble 3 Try.f99.ntmps = true by kernel_rfl), _, run_spec_l1Long c a b h⟩

theorem kKey {K : Tree → List Tree → Prop} {o : List Tree} {P : Prop} (hK : ∀ w : Key, P → K (tG (w.tc [])) o) (a b c d : Int) (h : P) : K (.v (.g [.int .i64 a, .int .i64 b, .int .i64 c, .int .i64 d])) o := hK ⟨a, b, c, d⟩ h
theorem kInst {K : Tree → List Tree → Prop} {o : List Tree} {P : Prop} (hK : ∀ w : Inst, P → K (tG (w.tc [])) o) (e a b c d : Int) (h : P) : K (.v (.g [.int .i64 e, .int .i64 a, .int .i64 b, .int .i64 c, .int .i64 d])) o := hK ⟨e, a, b, c, d⟩ h

def pf_spec_Root : PF := ⟨[.c 0 true 4], .seq (.reg [.s (.alloc 0 [.int .i64 0, .int .i64 0, .int .i64 0, .int .i64 0])]) (.seq (.reg [.s (.build 1 [.int .i64 0, .int .i64 0, .int .i64 0, .int .i64 0] [(1, 1, (.k (.v (.c (.int .i64 4096))))), (2, 1, (.k (.v (.c (.int .i64 63)))))]), .s (.store 4 (.t 0) (.t 1))]) (.ret))⟩
def c_spec_Root : Fun := ⟨147, [], fun ts K => as0 ts (K (tG ((⟨0, 4096, 63, 0⟩ : Key).tc [])) [])⟩
theorem run_spec_Root  : runK [] (0) [] pf_spec_Root [] fun r o => r = tG ((⟨0, 4096, 63, 0⟩ : Key).tc []) ∧ o = [] := by
  conv => whnf
  repeat' (first | (refine sel_i (fun h => ?_) (fun h => ?_) <;> conv => whnf) | (refine chk_c ?_ ?_ <;> conv => whnf) | (refine And.intro ?_ rfl) | (refine And.intro ?_ ?_ <;> conv => whnf))
  rfl
theorem ok_spec_Root : FunOk Try.prog c_spec_Root := funOk (E := []) (envOk_nil) mixd Try.func147 (pf := pf_spec_Root) (by kernel_rfl) fun ts K h => by
  obtain ⟨e0, h⟩ := as0_out h
  subst e0
  exact ⟨_, _, h, Nat.le_of_ble_eq_true (show Nat.ble 0 Try.f147.ntmps = true by kernel_rfl), _, run_spec_Root ⟩

def pf_spec_l2DrawRight : PF := ⟨[.c 2 true 4], .seq (.reg [.s (.alloc 2 [.int .i64 0, .int .i64 0, .int .i64 0, .int .i64 0])]) (.seq (.reg [.s (.call (some 4) 147 []), .s (.alloc 3 [.int .i64 0, .int .i64 0, .int .i64 0, .int .i64 0]), .s (.store 4 (.t 3) (.t 4))]) (.seq (.seq (.reg [.s (.mv 5 (.t 0)), .s (.call (some 6) 63 [(.t 5), (.k (.v (.c (.int .i64 4))))])]) (.blk 0 (.seq (.reg [.s (.bin 8 .eql (.t 6) (.k (.v (.c (.int .i64 0))))), .s (.mv 7 (.t 8))]) (.cond (.t 7) (.seq (.reg [.s (.mv 9 (.t 0)), .s (.call (some 10) 63 [(.t 9), (.k (.v (.c (.int .i64 30))))]), .s (.fa 11 (.t 3) 0), .s (.store 1 (.t 11) (.t 10))]) (.rgd [0] [.s (.fa 12 (.t 3) 0), .s (.load 13 false 1 (.t 12)), .s (.mv 14 (.t 0)), .s (.call (some 15) 63 [(.t 14), (.k (.v (.c (.int .i64 33))))]), .s (.bin 16 .add (.t 13) (.t 15)), .s (.fa 17 (.t 3) 1), .s (.store 1 (.t 17) (.t 16))] (.tk 0 (.tk 1 (.tk 2 (.one 3 false (.tk 4 (.tk 5 (.one 6 true (.done none)))))))))) (.seq (.reg [.s (.bin 19 .eql (.t 6) (.k (.v (.c (.int .i64 1))))), .s (.mv 18 (.t 19))]) (.cond (.t 18) (.seq (.reg [.s (.mv 20 (.t 0)), .s (.call (some 21) 63 [(.t 20), (.k (.v (.c (.int .i64 20))))]), .s (.bin 22 .mul (.k (.v (.c (.int .i64 64)))) (.t 21)), .s (.fa 23 (.t 3) 0), .s (.store 1 (.t 23) (.t 22))]) (.rgd [0] [.s (.fa 24 (.t 3) 0), .s (.load 25 false 1 (.t 24)), .s (.mv 26 (.t 0)), .s (.call (some 27) 63 [(.t 26), (.k (.v (.c (.int .i64 9))))]), .s (.bin 28 .mul (.k (.v (.c (.int .i64 64)))) (.t 27)), .s (.bin 29 .add (.t 25) (.t 28)), .s (.fa 30 (.t 3) 1), .s (.store 1 (.t 30) (.t 29))] (.tk 0 (.tk 1 (.tk 2 (.one 3 false (.tk 4 (.tk 5 (.tk 6 (.one 7 true (.done none))))))))))) (.seq (.reg [.s (.bin 32 .eql (.t 6) (.k (.v (.c (.int .i64 2))))), .s (.mv 31 (.t 32))]) (.cond (.t 31) (.reg [.s (.fa 33 (.t 3) 1), .s (.store 1 (.t 33) (.k (.v (.c (.int .i64 32)))))]) (.skip))))))))) (.seq (.seq (.reg [.s (.mv 34 (.t 0)), .s (.call (some 35) 123 [(.t 34), (.k (.v (.c (.int .i64 2))))])]) (.cond (.t 35) (.reg [.s (.mv 36 (.t 0)), .s (.call (some 37) 63 [(.t 36), (.k (.v (.c (.int .i64 64))))]), .s (.fa 38 (.t 3) 2), .s (.store 1 (.t 38) (.t 37))]) (.skip))) (.seq (.seq (.reg [.s (.mv 39 (.t 0)), .s (.call (some 40) 123 [(.t 39), (.k (.v (.c (.int .i64 5))))])]) (.cond (.t 40) (.reg [.s (.mv 41 (.t 0)), .s (.call (some 42) 63 [(.t 41), (.k (.v (.c (.int .i64 7))))]), .s (.bin 43 .add (.k (.v (.c (.int .i64 1)))) (.t 42)), .s (.fa 44 (.t 3) 3), .s (.store 1 (.t 44) (.t 43))]) (.skip))) (.seq (.reg [.s (.load 45 true 4 (.t 3)), .s (.store 4 (.t 2) (.t 45))]) (.ret))))))⟩
def c_spec_l2DrawRight : Fun := ⟨125, [true], fun ts K => as1 ts fun t0 => arQ pCurT t0 fun c => chk (CurOk c) (∀ (k : Key) (d : Cur), (CurOk d) → K (tG (k.tc [])) ([curOut d]))⟩
theorem run_spec_l2DrawRight (c : Cur) (hpre : CurOk c) {K : Tree → List Tree → Prop} (hK : ∀ (k : Key) (d : Cur), (CurOk d) → K (tG (k.tc [])) ([curOut d])) : runK [c_spec_l1Below, c_spec_l1Once, c_spec_Root] (0) [true] pf_spec_l2DrawRight [.v (.ptr true 0 (c.tc []))] K := by
  conv => whnf
  repeat' (first | (refine sel_i (fun h => ?_) (fun h => ?_) <;> conv => whnf) | (refine chk_c ?_ ?_ <;> conv => whnf) | (refine And.intro ?_ rfl) | (refine And.intro ?_ ?_ <;> conv => whnf) | (intro x y z d hd; (try have g1 := And.left hd); (try have g2 := And.right hd); (try have g3 := And.left (And.right hd)); (try have g4 := And.right (And.right hd)); conv => whnf) | (intro x y d hd; (try have g1 := And.left hd); (try have g2 := And.right hd); (try have g3 := And.left (And.right hd)); (try have g4 := And.right (And.right hd)); conv => whnf) | (intro x d hd; (try have g1 := And.left hd); (try have g2 := And.right hd); (try have g3 := And.left (And.right hd)); (try have g4 := And.right (And.right hd)); conv => whnf) | (intro d hd; (try have g1 := And.left hd); (try have g2 := And.right hd); (try have g3 := And.left (And.right hd)); (try have g4 := And.right (And.right hd)); conv => whnf))
  all_goals first
    | (refine ⟨?_⟩; exact hd)
    | (refine ⟨?_⟩; exact hd.2)
    | (refine ⟨?_⟩; exact hpre)
    | (refine ⟨?_⟩; exact ⟨hd, by decide⟩)
    | (refine ⟨?_⟩; exact ⟨hd.2, by decide⟩)
    | (refine ⟨?_⟩; exact ⟨hd, by simp⟩)
    | (refine ⟨?_⟩; exact ⟨hd.2, by simp⟩)
    | (refine ⟨?_⟩; exact ⟨hpre, by simp⟩)
    | (refine ⟨?_⟩; decide)
    | (refine ⟨?_⟩; rfl)
    | ((try dsimp only); exact kKey (fun w hw => hK w _ hw) _ _ _ _  hd)
    | ((try dsimp only); exact kKey (fun w hw => hK w _ hw) _ _ _ _  hd.2)
    | trace_state
theorem ok_spec_l2DrawRight : FunOk Try.prog c_spec_l2DrawRight := funOkR (E := [c_spec_l1Below, c_spec_l1Once, c_spec_Root]) (envOk_cons ok_spec_l1Below (envOk_cons ok_spec_l1Once (envOk_cons ok_spec_Root (envOk_nil)))) mixd Try.func125 (pf := pf_spec_l2DrawRight) (by kernel_rfl) fun ts K h => by
  obtain ⟨t0, e0, h⟩ := as1_out h
  subst e0
  obtain ⟨c, e1, hq⟩ := arQ_out rd_cur h
  clear h
  subst e1
  have h := hq
  clear hq
  obtain ⟨hpre, h⟩ := chk_o h
  exact ⟨Nat.le_of_ble_eq_true (show Nat.ble 1 Try.f125.ntmps = true by kernel_rfl), _, run_spec_l2DrawRight c hpre h⟩

def pf_spec_l3DrawRight : PF := ⟨[.c 2 true 6], .seq (.reg [.s (.alloc 2 [.int .i64 0, .ff, .int .i64 0, .int .i64 0, .int .i64 0, .int .i64 0])]) (.seq (.seq (.reg [.s (.mv 4 (.t 0)), .s (.call (some 5) 123 [(.t 4), (.k (.v (.c (.int .i64 3))))])]) (.cond (.t 5) (.seq (.reg [.s (.mv 6 (.t 0)), .s (.bs 7 (.int .i64) [(.k (.v (.c (.int .i64 0)))), (.k (.v (.c (.int .i64 1)))), (.k (.v (.c (.int .i64 2)))), (.k (.v (.c (.int .i64 5)))), (.k (.v (.c (.int .i64 31)))), (.k (.v (.c (.int .i64 65535))))]), .s (.call (some 8) 86 [(.t 6), (.t 7)]), .s (.call (some 9) 124 [(.t 8)]), .s (.store 6 (.t 2) (.t 9))]) (.ret)) (.skip))) (.seq (.reg [.s (.mv 10 (.t 0)), .s (.call (some 11) 125 [(.t 10)]), .s (.alloc 3 [.int .i64 0, .int .i64 0, .int .i64 0, .int .i64 0]), .s (.store 4 (.t 3) (.t 11))]) (.seq (.rgd [0] [.s (.load 12 true 4 (.t 3)), .s (.mv 13 (.t 0)), .s (.fa 14 (.t 3) 0), .s (.load 15 false 1 (.t 14)), .s (.fa 16 (.t 3) 0), .s (.load 17 false 1 (.t 16)), .s (.fa 18 (.t 3) 0), .s (.load 19 false 1 (.t 18)), .s (.bin 20 .add (.t 19) (.k (.v (.c (.int .i64 1))))), .s (.fa 21 (.t 3) 1), .s (.load 22 false 1 (.t 21)), .s (.bs 23 (.int .i64) [(.t 15), (.t 17), (.t 20), (.t 22), (.k (.v (.c (.int .i64 3)))), (.k (.v (.c (.int .i64 1))))]), .s (.call (some 24) 86 [(.t 13), (.t 23)]), .s (.call (some 25) 126 [(.t 12), (.t 24)]), .s (.store 6 (.t 2) (.t 25))] (.tk 0 (.tk 1 (.tk 2 (.tk 3 (.tk 4 (.tk 5 (.tk 6 (.tk 7 (.tk 8 (.tk 9 (.tk 10 (.one 11 false (.one 12 false (.one 13 true (.one 14 true (.done none))))))))))))))))) (.ret))))⟩
def c_spec_l3DrawRight : Fun := ⟨84, [true], fun ts K => as1 ts fun t0 => arQ pCurT t0 fun c => chk (CurOk c) (∀ (w : Word) (d : Cur), (wordOk w = true ∧ CurOk d) → K (tG (w.tc [])) ([curOut d]))⟩
theorem run_spec_l3DrawRight (c : Cur) (hpre : CurOk c) {K : Tree → List Tree → Prop} (hK : ∀ (w : Word) (d : Cur), (wordOk w = true ∧ CurOk d) → K (tG (w.tc [])) ([curOut d])) : runK [c_spec_l1PickInt, c_spec_l1Once, c_spec_Plain, c_spec_l2DrawRight, c_spec_KeyWord] (0) [true] pf_spec_l3DrawRight [.v (.ptr true 0 (c.tc []))] K := by
  conv => whnf
  repeat' (first | (refine sel_i (fun h => ?_) (fun h => ?_) <;> conv => whnf) | (refine chk_c ?_ ?_ <;> conv => whnf) | (refine And.intro ?_ rfl) | (refine And.intro ?_ ?_ <;> conv => whnf) | (intro x y z d hd; (try have g1 := And.left hd); (try have g2 := And.right hd); (try have g3 := And.left (And.right hd)); (try have g4 := And.right (And.right hd)); conv => whnf) | (intro x y d hd; (try have g1 := And.left hd); (try have g2 := And.right hd); (try have g3 := And.left (And.right hd)); (try have g4 := And.right (And.right hd)); conv => whnf) | (intro x d hd; (try have g1 := And.left hd); (try have g2 := And.right hd); (try have g3 := And.left (And.right hd)); (try have g4 := And.right (And.right hd)); conv => whnf) | (intro d hd; (try have g1 := And.left hd); (try have g2 := And.right hd); (try have g3 := And.left (And.right hd)); (try have g4 := And.right (And.right hd)); conv => whnf))
  all_goals first
    | (refine ⟨?_⟩; exact hd)
    | (refine ⟨?_⟩; exact hd.2)
    | (refine ⟨?_⟩; exact hpre)
    | (refine ⟨?_⟩; exact ⟨hd, by decide⟩)
    | (refine ⟨?_⟩; exact ⟨hd.2, by decide⟩)
    | (refine ⟨?_⟩; exact ⟨hd, by simp⟩)
    | (refine ⟨?_⟩; exact ⟨hd.2, by simp⟩)
    | (refine ⟨?_⟩; exact ⟨hpre, by simp⟩)
    | (refine ⟨?_⟩; decide)
    | (refine ⟨?_⟩; rfl)
    | exact hK (plainW _) _ ⟨plainW_ok _, hd.2⟩
    | exact hK (keyWord _ _) _ ⟨keyWord_ok _ _, hd.2⟩
    | trace_state
theorem ok_spec_l3DrawRight : FunOk Try.prog c_spec_l3DrawRight := funOkR (E := [c_spec_l1PickInt, c_spec_l1Once, c_spec_Plain, c_spec_l2DrawRight, c_spec_KeyWord]) (envOk_cons ok_spec_l1PickInt (envOk_cons ok_spec_l1Once (envOk_cons ok_spec_Plain (envOk_cons ok_spec_l2DrawRight (envOk_cons ok_spec_KeyWord (envOk_nil)))))) mixd Try.func84 (pf := pf_spec_l3DrawRight) (by kernel_rfl) fun ts K h => by
  obtain ⟨t0, e0, h⟩ := as1_out h
  subst e0
  obtain ⟨c, e1, hq⟩ := arQ_out rd_cur h
  clear h
  subst e1
  have h := hq
  clear hq
  obtain ⟨hpre, h⟩ := chk_o h
  exact ⟨Nat.le_of_ble_eq_true (show Nat.ble 1 Try.f84.ntmps = true by kernel_rfl), _, run_spec_l3DrawRight c hpre h⟩

def pf_spec_l6DrawIns : PF := ⟨[.c 2 true 5], .seq (.reg [.s (.alloc 2 [.int .i64 0, .int .i64 0, .int .i64 0, .int .i64 0, .int .i64 0])]) (.seq (.reg [.s (.mv 9 (.t 0)), .s (.call (some 10) 63 [(.t 9), (.k (.v (.c (.int .i64 4))))]), .s (.bin 11 .add (.k (.v (.c (.int .i64 1)))) (.t 10)), .s (.mv 12 (.t 0)), .s (.call (some 13) 63 [(.t 12), (.k (.v (.c (.int .i64 4))))]), .s (.mv 14 (.t 0)), .s (.call (some 15) 63 [(.t 14), (.k (.v (.c (.int .i64 4))))]), .s (.mv 16 (.t 0)), .s (.bs 17 (.int .i64) [(.k (.v (.c (.int .i64 0)))), (.k (.v (.c (.int .i64 0)))), (.k (.v (.c (.int .i64 1)))), (.k (.v (.c (.int .i64 2)))), (.k (.v (.c (.int .i64 3)))), (.k (.v (.c (.int .i64 (-1))))), (.k (.v (.c (.int .i64 20))))]), .s (.call (some 18) 86 [(.t 16), (.t 17)]), .s (.mv 3 (.t 11)), .s (.mv 4 (.t 13)), .s (.mv 5 (.t 15)), .s (.mv 6 (.t 18))]) (.seq (.reg [.s (.mv 19 (.t 0)), .s (.bs 20 (.int .i64) [(.k (.v (.c (.int .i64 1)))), (.k (.v (.c (.int .i64 1)))), (.k (.v (.c (.int .i64 1)))), (.k (.v (.c (.int .i64 2)))), (.k (.v (.c (.int .i64 3)))), (.k (.v (.c (.int .i64 4)))), (.k (.v (.c (.int .i64 5)))), (.k (.v (.c (.int .i64 5)))), (.k (.v (.c (.int .i64 6)))), (.k (.v (.c (.int .i64 6)))), (.k (.v (.c (.int .i64 7)))), (.k (.v (.c (.int .i64 8)))), (.k (.v (.c (.int .i64 9)))), (.k (.v (.c (.int .i64 10)))), (.k (.v (.c (.int .i64 10)))), (.k (.v (.c (.int .i64 10)))), (.k (.v (.c (.int .i64 11)))), (.k (.v (.c (.int .i64 11)))), (.k (.v (.c (.int .i64 11)))), (.k (.v (.c (.int .i64 12)))), (.k (.v (.c (.int .i64 13)))), (.k (.v (.c (.int .i64 13)))), (.k (.v (.c (.int .i64 14)))), (.k (.v (.c (.int .i64 15))))]), .s (.call (some 21) 86 [(.t 19), (.t 20)]), .s (.build 22 [.int .i64 0, .int .i64 0, .int .i64 0, .int .i64 0, .int .i64 0] [(0, 1, (.t 21))]), .s (.alloc 7 [.int .i64 0, .int .i64 0, .int .i64 0, .int .i64 0, .int .i64 0]), .s (.store 5 (.t 7) (.t 22))]) (.seq (.reg [.s (.fa 23 (.t 7) 0), .s (.load 24 false 1 (.t 23)), .s (.call (some 25) 167 [(.t 24)]), .s (.mv 8 (.t 25))]) (.seq (.seq (.reg [.s (.mv 26 (.t 8)), .s (.bin 27 .and (.t 26) (.k (.v (.c (.int .i64 1))))), .s (.bin 28 .neq (.t 27) (.k (.v (.c (.int .i64 0)))))]) (.cond (.t 28) (.reg [.s (.mv 29 (.t 3)), .s (.fa 30 (.t 7) 1), .s (.store 1 (.t 30) (.t 29))]) (.skip))) (.seq (.seq (.reg [.s (.mv 31 (.t 8)), .s (.bin 32 .and (.t 31) (.k (.v (.c (.int .i64 2))))), .s (.bin 33 .neq (.t 32) (.k (.v (.c (.int .i64 0)))))]) (.cond (.t 33) (.reg [.s (.mv 34 (.t 4)), .s (.fa 35 (.t 7) 2), .s (.store 1 (.t 35) (.t 34))]) (.skip))) (.seq (.seq (.reg [.s (.mv 36 (.t 8)), .s (.bin 37 .and (.t 36) (.k (.v (.c (.int .i64 4))))), .s (.bin 38 .neq (.t 37) (.k (.v (.c (.int .i64 0)))))]) (.cond (.t 38) (.reg [.s (.mv 39 (.t 5)), .s (.fa 40 (.t 7) 3), .s (.store 1 (.t 40) (.t 39))]) (.skip))) (.seq (.seq (.reg [.s (.mv 41 (.t 8)), .s (.bin 42 .and (.t 41) (.k (.v (.c (.int .i64 8))))), .s (.bin 43 .neq (.t 42) (.k (.v (.c (.int .i64 0)))))]) (.cond (.t 43) (.reg [.s (.mv 44 (.t 6)), .s (.fa 45 (.t 7) 4), .s (.store 1 (.t 45) (.t 44))]) (.skip))) (.seq (.reg [.s (.load 46 true 5 (.t 7)), .s (.store 5 (.t 2) (.t 46))]) (.ret)))))))))⟩
def c_spec_l6DrawIns : Fun := ⟨148, [true], fun ts K => as1 ts fun t0 => arQ pCurT t0 fun c => chk (CurOk c) (∀ (x : Inst) (d : Cur), (CurOk d) → K (tG (x.tc [])) ([curOut d]))⟩
theorem run_spec_l6DrawIns (c : Cur) (hpre : CurOk c) {K : Tree → List Tree → Prop} (hK : ∀ (x : Inst) (d : Cur), (CurOk d) → K (tG (x.tc [])) ([curOut d])) : runK [c_spec_l1Below, c_spec_l1PickInt, c_spec_l6Has] (0) [true] pf_spec_l6DrawIns [.v (.ptr true 0 (c.tc []))] K := by
  conv => whnf
  repeat' (first | (refine sel_i (fun h => ?_) (fun h => ?_) <;> conv => whnf) | (refine chk_c ?_ ?_ <;> conv => whnf) | (refine And.intro ?_ rfl) | (refine And.intro ?_ ?_ <;> conv => whnf) | (intro x y z d hd; (try have g1 := And.left hd); (try have g2 := And.right hd); (try have g3 := And.left (And.right hd)); (try have g4 := And.right (And.right hd)); conv => whnf) | (intro x y d hd; (try have g1 := And.left hd); (try have g2 := And.right hd); (try have g3 := And.left (And.right hd)); (try have g4 := And.right (And.right hd)); conv => whnf) | (intro x d hd; (try have g1 := And.left hd); (try have g2 := And.right hd); (try have g3 := And.left (And.right hd)); (try have g4 := And.right (And.right hd)); conv => whnf) | (intro d hd; (try have g1 := And.left hd); (try have g2 := And.right hd); (try have g3 := And.left (And.right hd)); (try have g4 := And.right (And.right hd)); conv => whnf))
  all_goals first
    | (refine ⟨?_⟩; exact hd)
    | (refine ⟨?_⟩; exact hd.2)
    | (refine ⟨?_⟩; exact hpre)
    | (refine ⟨?_⟩; exact ⟨hd, by decide⟩)
    | (refine ⟨?_⟩; exact ⟨hd.2, by decide⟩)
    | (refine ⟨?_⟩; exact ⟨hd, by simp⟩)
    | (refine ⟨?_⟩; exact ⟨hd.2, by simp⟩)
    | (refine ⟨?_⟩; exact ⟨hpre, by simp⟩)
    | (refine ⟨?_⟩; decide)
    | (refine ⟨?_⟩; rfl)
    | ((try dsimp only); exact kInst (fun w hw => hK w _ hw) _ _ _ _ _  hd)
    | ((try dsimp only); exact kInst (fun w hw => hK w _ hw) _ _ _ _ _  hd.2)
    | trace_state
theorem ok_spec_l6DrawIns : FunOk Try.prog c_spec_l6DrawIns := funOkR (E := [c_spec_l1Below, c_spec_l1PickInt, c_spec_l6Has]) (envOk_cons ok_spec_l1Below (envOk_cons ok_spec_l1PickInt (envOk_cons ok_spec_l6Has (envOk_nil)))) mixd Try.func148 (pf := pf_spec_l6DrawIns) (by kernel_rfl) fun ts K h => by
  obtain ⟨t0, e0, h⟩ := as1_out h
  subst e0
  obtain ⟨c, e1, hq⟩ := arQ_out rd_cur h
  clear h
  subst e1
  have h := hq
  clear hq
  obtain ⟨hpre, h⟩ := chk_o h
  exact ⟨Nat.le_of_ble_eq_true (show Nat.ble 1 Try.f148.ntmps = true by kernel_rfl), _, run_spec_l6DrawIns c hpre h⟩

def lb_spec_l6DrawCode_0 : PC := .seq (.seq (.reg [.s (.mv 39 (.t 5)), .s (.mv 40 (.t 4)), .s (.bin 41 .lss (.t 39) (.t 40))]) (.cond (.t 41) (.skip) (.exit 1))) (.seq (.blk 2 (.reg [.s (.mv 44 (.t 3)), .s (.mv 45 (.t 0)), .s (.call (some 46) 148 [(.t 45)]), .s (.bs 47 .inst [(.t 46)]), .s (.app 48 .inst (.t 44) (.t 47)), .s (.mv 3 (.t 48))])) (.reg [.s (.mv 42 (.t 5)), .s (.bin 43 .add (.t 42) (.k (.v (.c (.int .i64 1))))), .s (.mv 5 (.t 43))]))
def pf_spec_l6DrawCode : PF := ⟨[.t 2], .seq (.reg [.s (.mv 2 (.k (.v (.c (.nils .inst)))))]) (.seq (.reg [.s (.bs 6 .inst []), .s (.mv 3 (.t 6))]) (.seq (.seq (.reg [.s (.mv 7 (.t 0)), .s (.call (some 8) 63 [(.t 7), (.k (.v (.c (.int .i64 4))))])]) (.blk 0 (.seq (.reg [.s (.bin 10 .eql (.t 8) (.k (.v (.c (.int .i64 0))))), .s (.mv 9 (.t 10))]) (.cond (.t 9) (.reg [.s (.mv 11 (.t 3)), .s (.build 12 [.int .i64 0, .int .i64 0, .int .i64 0, .int .i64 0, .int .i64 0] [(0, 1, (.k (.v (.c (.int .i64 1))))), (1, 1, (.k (.v (.c (.int .i64 1))))), (4, 1, (.k (.v (.c (.int .i64 3)))))]), .s (.build 13 [.int .i64 0, .int .i64 0, .int .i64 0, .int .i64 0, .int .i64 0] [(0, 1, (.k (.v (.c (.int .i64 5))))), (1, 1, (.k (.v (.c (.int .i64 2))))), (2, 1, (.k (.v (.c (.int .i64 0))))), (3, 1, (.k (.v (.c (.int .i64 1)))))]), .s (.build 14 [.int .i64 0, .int .i64 0, .int .i64 0, .int .i64 0, .int .i64 0] [(0, 1, (.k (.v (.c (.int .i64 11))))), (2, 1, (.k (.v (.c (.int .i64 0))))), (3, 1, (.k (.v (.c (.int .i64 2))))), (4, 1, (.k (.v (.c (.int .i64 1)))))]), .s (.build 15 [.int .i64 0, .int .i64 0, .int .i64 0, .int .i64 0, .int .i64 0] [(0, 1, (.k (.v (.c (.int .i64 10))))), (1, 1, (.k (.v (.c (.int .i64 3))))), (2, 1, (.k (.v (.c (.int .i64 0))))), (4, 1, (.k (.v (.c (.int .i64 1)))))]), .s (.bs 16 .inst [(.t 12), (.t 13), (.t 14), (.t 15)]), .s (.app 17 .inst (.t 11) (.t 16)), .s (.mv 3 (.t 17))]) (.seq (.reg [.s (.bin 19 .eql (.t 8) (.k (.v (.c (.int .i64 1))))), .s (.mv 18 (.t 19))]) (.cond (.t 18) (.reg [.s (.mv 20 (.t 3)), .s (.build 21 [.int .i64 0, .int .i64 0, .int .i64 0, .int .i64 0, .int .i64 0] [(0, 1, (.k (.v (.c (.int .i64 1))))), (1, 1, (.k (.v (.c (.int .i64 1))))), (4, 1, (.k (.v (.c (.int .i64 2)))))]), .s (.build 22 [.int .i64 0, .int .i64 0, .int .i64 0, .int .i64 0, .int .i64 0] [(0, 1, (.k (.v (.c (.int .i64 6))))), (1, 1, (.k (.v (.c (.int .i64 4))))), (2, 1, (.k (.v (.c (.int .i64 0))))), (3, 1, (.k (.v (.c (.int .i64 1)))))]), .s (.build 23 [.int .i64 0, .int .i64 0, .int .i64 0, .int .i64 0, .int .i64 0] [(0, 1, (.k (.v (.c (.int .i64 7))))), (1, 1, (.k (.v (.c (.int .i64 2))))), (2, 1, (.k (.v (.c (.int .i64 0))))), (3, 1, (.k (.v (.c (.int .i64 4)))))]), .s (.build 24 [.int .i64 0, .int .i64 0, .int .i64 0, .int .i64 0, .int .i64 0] [(0, 1, (.k (.v (.c (.int .i64 8))))), (1, 1, (.k (.v (.c (.int .i64 3))))), (2, 1, (.k (.v (.c (.int .i64 2))))), (3, 1, (.k (.v (.c (.int .i64 4)))))]), .s (.bs 25 .inst [(.t 21), (.t 22), (.t 23), (.t 24)]), .s (.app 26 .inst (.t 20) (.t 25)), .s (.mv 3 (.t 26))]) (.seq (.reg [.s (.bin 28 .eql (.t 8) (.k (.v (.c (.int .i64 2))))), .s (.mv 27 (.t 28))]) (.cond (.t 27) (.reg [.s (.mv 29 (.t 3)), .s (.build 30 [.int .i64 0, .int .i64 0, .int .i64 0, .int .i64 0, .int .i64 0] [(0, 1, (.k (.v (.c (.int .i64 1))))), (1, 1, (.k (.v (.c (.int .i64 1))))), (4, 1, (.k (.v (.c (.int .i64 5)))))]), .s (.build 31 [.int .i64 0, .int .i64 0, .int .i64 0, .int .i64 0, .int .i64 0] [(0, 1, (.k (.v (.c (.int .i64 1))))), (1, 1, (.k (.v (.c (.int .i64 2))))), (4, 1, (.k (.v (.c (.int .i64 (-1))))))]), .s (.build 32 [.int .i64 0, .int .i64 0, .int .i64 0, .int .i64 0, .int .i64 0] [(0, 1, (.k (.v (.c (.int .i64 2))))), (1, 1, (.k (.v (.c (.int .i64 1))))), (2, 1, (.k (.v (.c (.int .i64 1))))), (3, 1, (.k (.v (.c (.int .i64 2)))))]), .s (.build 33 [.int .i64 0, .int .i64 0, .int .i64 0, .int .i64 0, .int .i64 0] [(0, 1, (.k (.v (.c (.int .i64 13))))), (2, 1, (.k (.v (.c (.int .i64 1))))), (4, 1, (.k (.v (.c (.int .i64 2)))))]), .s (.build 34 [.int .i64 0, .int .i64 0, .int .i64 0, .int .i64 0, .int .i64 0] [(0, 1, (.k (.v (.c (.int .i64 13))))), (2, 1, (.k (.v (.c (.int .i64 5))))), (4, 1, (.k (.v (.c (.int .i64 (-2))))))]), .s (.bs 35 .inst [(.t 30), (.t 31), (.t 32), (.t 33), (.t 34)]), .s (.app 36 .inst (.t 29) (.t 35)), .s (.mv 3 (.t 36))]) (.skip))))))))) (.seq (.reg [.s (.mv 37 (.t 0)), .s (.call (some 38) 63 [(.t 37), (.k (.v (.c (.int .i64 14))))]), .s (.mv 4 (.t 38))]) (.seq (.seq (.reg [.s (.mv 5 (.k (.v (.c (.int .i64 0)))))]) (.blk 1 (.loop [0, 3, 4, 5] lb_spec_l6DrawCode_0))) (.seq (.reg [.s (.mv 49 (.t 3)), .s (.build 50 [.int .i64 0, .int .i64 0, .int .i64 0, .int .i64 0, .int .i64 0] [(0, 1, (.k (.v (.c (.int .i64 15)))))]), .s (.bs 51 .inst [(.t 50)]), .s (.app 52 .inst (.t 49) (.t 51)), .s (.mv 2 (.t 52))]) (.ret))))))⟩
def c_spec_l6DrawCode : Fun := ⟨128, [true], fun ts K => as1 ts fun t0 => arQ pCurT t0 fun c => chk (CurOk c) (∀ (l : List Inst) (d : Cur), (1 ≤ l.length ∧ l.length ≤ 20 ∧ CurOk d) → K (tL true .inst l) ([curOut d]))⟩
theorem run_spec_l6DrawCode (c : Cur) (hpre : CurOk c) {K : Tree → List Tree → Prop} (hK : ∀ (l : List Inst) (d : Cur), (1 ≤ l.length ∧ l.length ≤ 20 ∧ CurOk d) → K (tL true .inst l) ([curOut d])) : runK [c_spec_l1Below, c_spec_l6DrawIns] (20) [true] pf_spec_l6DrawCode [.v (.ptr true 0 (c.tc []))] K := by
  conv => whnf
  repeat' (first | (refine sel_i (fun h => ?_) (fun h => ?_) <;> conv => whnf) | (refine chk_c ?_ ?_ <;> conv => whnf) | (refine And.intro ?_ rfl) | (refine And.intro ?_ ?_ <;> conv => whnf) | (intro x y z d hd; (try have g1 := And.left hd); (try have g2 := And.right hd); (try have g3 := And.left (And.right hd)); (try have g4 := And.right (And.right hd)); conv => whnf) | (intro x y d hd; (try have g1 := And.left hd); (try have g2 := And.right hd); (try have g3 := And.left (And.right hd)); (try have g4 := And.right (And.right hd)); conv => whnf) | (intro x d hd; (try have g1 := And.left hd); (try have g2 := And.right hd); (try have g3 := And.left (And.right hd)); (try have g4 := And.right (And.right hd)); conv => whnf) | (intro d hd; (try have g1 := And.left hd); (try have g2 := And.right hd); (try have g3 := And.left (And.right hd)); (try have g4 := And.right (And.right hd)); conv => whnf))
  all_goals first
    | (refine ⟨?_⟩; exact hd)
    | (refine ⟨?_⟩; exact hd.2)
    | (refine ⟨?_⟩; exact hpre)
    | (refine ⟨?_⟩; exact ⟨hd, by decide⟩)
    | (refine ⟨?_⟩; exact ⟨hd.2, by decide⟩)
    | (refine ⟨?_⟩; exact ⟨hd, by simp⟩)
    | (refine ⟨?_⟩; exact ⟨hd.2, by simp⟩)
    | (refine ⟨?_⟩; exact ⟨hpre, by simp⟩)
    | (refine ⟨?_⟩; decide)
    | (refine ⟨?_⟩; rfl)
    | skip
  all_goals (
    have hx := hd.1
    refine loop (α := Nat × Cur × List Inst) (fun q => ⟨[(0, .v (.c (.ptr 0 0))), (3, .v (.c (.sl true .inst 2))), (4, .v (.c (.int .i64 x))), (5, .v (.c (.int .i64 (q.1 : Int))))],
        [(2, some (.flat true .inst none q.2.2)), (1, some (.flat false (.int .u8) none q.2.1.b)), (0, some (.box true [.sl false (.int .u8) 1, .int .i64 q.2.1.i, .int .i64 q.2.1.h]))], nums.tail.tail.tail, [.v (.c (.ptr 0 0))], false, []⟩)
      (fun q => (q.1 : Int) ≤ x ∧ CurOk q.2.1 ∧ q.2.2.length ≤ 5 + q.1) (fun q => 14 - q.1) (fun q R hI hR => ?_) (0, d, _) _ ⟨by simp; omega, hd.2, by simp⟩ (by simp)
    obtain ⟨i, e, l⟩ := q
    obtain ⟨hi, he, hl⟩ := hI
    dsimp only at hi he hl
    dsimp only
    conv => whnf
    repeat' (first | (refine sel_i (fun h => ?_) (fun h => ?_) <;> conv => whnf) | (refine chk_c ?_ ?_ <;> conv => whnf) | (refine And.intro ?_ rfl) | (refine And.intro ?_ ?_ <;> conv => whnf) | (intro x y z d hd; (try have g1 := And.left hd); (try have g2 := And.right hd); (try have g3 := And.left (And.right hd)); (try have g4 := And.right (And.right hd)); conv => whnf) | (intro x y d hd; (try have g1 := And.left hd); (try have g2 := And.right hd); (try have g3 := And.left (And.right hd)); (try have g4 := And.right (And.right hd)); conv => whnf) | (intro x d hd; (try have g1 := And.left hd); (try have g2 := And.right hd); (try have g3 := And.left (And.right hd)); (try have g4 := And.right (And.right hd)); conv => whnf) | (intro d hd; (try have g1 := And.left hd); (try have g2 := And.right hd); (try have g3 := And.left (And.right hd)); (try have g4 := And.right (And.right hd)); conv => whnf))
    all_goals first
      | (refine ⟨?_⟩; exact he)
      | (refine ⟨?_⟩; simp; omega)
      | (rw [wrap_id (n := (i : Int) + 1) (by omega) (by omega)]; exact hR (i + 1, _, _) ⟨by simp at h ⊢; omega, by exact hd, by simp; omega⟩ (by simp at h ⊢; omega))
      | exact hK _ ⟨_, _, _⟩ ⟨by simp, by simp; omega, he⟩
      | trace_state)
theorem ok_spec_l6DrawCode : FunOk Try.prog c_spec_l6DrawCode := funOkR (E := [c_spec_l1Below, c_spec_l6DrawIns]) (envOk_cons ok_spec_l1Below (envOk_cons ok_spec_l6DrawIns (envOk_nil))) mixd Try.func128 (pf := pf_spec_l6DrawCode) (by kernel_rfl) fun ts K h => by
  obtain ⟨t0, e0, h⟩ := as1_out h
  subst e0
  obtain ⟨c, e1, hq⟩ := arQ_out rd_cur h
  clear h
  subst e1
  have h := hq
  clear hq
  obtain ⟨hpre, h⟩ := chk_o h
  exact ⟨Nat.le_of_ble_eq_true (show Nat.ble 1 Try.f128.ntmps = true by kernel_rfl), _, run_spec_l6DrawCode c hpre h⟩

theorem kMem {K : Tree → List Tree → Prop} {o : List Tree} {P : Mem → Prop} (hK : ∀ w : Mem, P w → K (tG (w.tc true [])) o) (a : List Word) (b : List Bool) (h : P ⟨a, b⟩) : K (.v (.g [.ow .word a, .ow .bool b])) o := hK ⟨a, b⟩ h
def cuC (d : Cur) (k : Nat) : List Cell := [.sl false (.int .u8) k, .int .i64 d.i, .int .i64 d.h]
theorem memoryOk_setW {m : Mem} (h : memoryOk m = true) {i : Nat} {w : Word} (hw : wordOk w = true) : memoryOk ⟨m.words.set i w, m.gone⟩ = true := by
  obtain ⟨h1, h2, h3⟩ := memoryOk_iff.1 h
  refine memoryOk_iff.2 ⟨by simp [h1], h2, fun v hv => ?_⟩
  rcases mem_set hv with q | q
  · exact h3 v q
  · rw [q]; exact hw
theorem memoryOk_setG {m : Mem} (h : memoryOk m = true) {i : Nat} {b : Bool} : memoryOk ⟨m.words, m.gone.set i b⟩ = true := by
  obtain ⟨h1, h2, h3⟩ := memoryOk_iff.1 h
  exact memoryOk_iff.2 ⟨h1, by simp [h2], h3⟩
theorem memNew_ok : memoryOk memNew = true := by decide +kernel
theorem stateNew_ok : stateOk stateNew = true := by decide +kernel
def lb_spec_l8DrawRight_0 : PC := .seq (.seq (.reg [.s (.mv 7 (.t 4)), .s (.mv 8 (.t 0)), .s (.call (some 9) 63 [(.t 8), (.k (.v (.c (.int .i64 12))))]), .s (.bin 10 .lss (.t 7) (.t 9))]) (.cond (.t 10) (.skip) (.exit 0))) (.seq (.blk 1 (.rgd [0] [.s (.fa 13 (.t 3) 0), .s (.load 14 false 1 (.t 13)), .s (.mv 15 (.t 0)), .s (.call (some 16) 63 [(.t 15), (.k (.v (.c (.int .i64 24))))]), .s (.mv 17 (.t 0)), .s (.call (some 18) 84 [(.t 17)]), .s (.ia 19 .word (.t 14) (.t 16)), .s (.store 6 (.t 19) (.t 18))] (.tk 0 (.tk 1 (.tk 2 (.tk 4 (.one 3 false (.one 5 false (.tk 6 (.one 7 true (.done none))))))))))) (.reg [.s (.mv 11 (.t 4)), .s (.bin 12 .add (.t 11) (.k (.v (.c (.int .i64 1))))), .s (.mv 4 (.t 12))]))
def lb_spec_l8DrawRight_1 : PC := .seq (.seq (.reg [.s (.mv 20 (.t 5)), .s (.mv 21 (.t 0)), .s (.call (some 22) 63 [(.t 21), (.k (.v (.c (.int .i64 4))))]), .s (.bin 23 .lss (.t 20) (.t 22))]) (.cond (.t 23) (.skip) (.exit 2))) (.seq (.blk 3 (.rgd [0] [.s (.fa 26 (.t 3) 1), .s (.load 27 false 1 (.t 26)), .s (.mv 28 (.t 0)), .s (.call (some 29) 63 [(.t 28), (.k (.v (.c (.int .i64 24))))]), .s (.ia 30 .bool (.t 27) (.t 29)), .s (.store 1 (.t 30) (.k (.v (.c .tt))))] (.tk 0 (.tk 1 (.tk 2 (.one 3 false (.tk 4 (.one 5 true (.done none))))))))) (.reg [.s (.mv 24 (.t 5)), .s (.bin 25 .add (.t 24) (.k (.v (.c (.int .i64 1))))), .s (.mv 5 (.t 25))]))
def pf_spec_l8DrawRight : PF := ⟨[.c 2 true 2], .seq (.reg [.s (.alloc 2 [.nils .word, .nils .bool])]) (.seq (.reg [.s (.call (some 6) 91 []), .s (.alloc 3 [.nils .word, .nils .bool]), .s (.store 2 (.t 3) (.t 6))]) (.seq (.seq (.reg [.s (.mv 4 (.k (.v (.c (.int .i64 0)))))]) (.blk 0 (.loop [0, 2, 3, 4] lb_spec_l8DrawRight_0))) (.seq (.seq (.reg [.s (.mv 5 (.k (.v (.c (.int .i64 0)))))]) (.blk 2 (.loop [0, 2, 3, 5] lb_spec_l8DrawRight_1))) (.seq (.reg [.s (.load 31 true 2 (.t 3)), .s (.store 2 (.t 2) (.t 31))]) (.ret)))))⟩
def c_spec_l8DrawRight : Fun := ⟨113, [true], fun ts K => as1 ts fun t0 => arQ pCurT t0 fun c => chk (CurOk c) (∀ (m : Mem) (d : Cur), (memoryOk m = true ∧ CurOk d) → K (tG (m.tc true [])) ([curOut d]))⟩
theorem run_spec_l8DrawRight (c : Cur) (hpre : CurOk c) {K : Tree → List Tree → Prop} (hK : ∀ (m : Mem) (d : Cur), (memoryOk m = true ∧ CurOk d) → K (tG (m.tc true [])) ([curOut d])) : runK [c_spec_l1Below, c_spec_l3DrawRight, c_spec_MemoryNew] (20) [true] pf_spec_l8DrawRight [.v (.ptr true 0 (c.tc []))] K := by
  conv => whnf
  refine loop (α := Nat × Cur × Mem) (fun q => ⟨[(0, .v (.c (.ptr 0 0))), (2, .v (.c (.ptr 2 0))), (3, .v (.c (.ptr 3 0))), (4, .v (.c (.int .i64 (q.1 : Int))))],
        [(5, some (.flat true .bool none q.2.2.gone)), (4, some (.flat true .word none q.2.2.words)), (3, some (.box true [.sl false .word 4, .sl false .bool 5])), (2, some (.box true [.nils .word, .nils .bool])), (1, some (.flat false (.int .u8) none q.2.1.b)), (0, some (.box true (cuC q.2.1 1)))], nums.tail.tail.tail.tail.tail.tail, [.v (.c (.ptr 0 0))], false, []⟩)
    (fun q => q.1 ≤ 12 ∧ CurOk q.2.1 ∧ memoryOk q.2.2 = true) (fun q => 12 - q.1) (fun q R hI hR => ?_) (0, c, memNew) _ ⟨by simp, hpre, memNew_ok⟩ (by simp)
  obtain ⟨i, e, m⟩ := q
  obtain ⟨hi, he, hm⟩ := hI
  dsimp only at hi he hm
  dsimp only
  have hl := memoryOk_iff.1 hm
  conv => whnf
  repeat' (first | (refine sel_i (fun h => ?_) (fun h => ?_) <;> conv => whnf) | (refine chk_c ?_ ?_ <;> conv => whnf) | (refine And.intro ?_ rfl) | (refine And.intro ?_ ?_ <;> conv => whnf) | (intro x y z d hd; (try have g1 := And.left hd); (try have g2 := And.right hd); (try have g3 := And.left (And.right hd)); (try have g4 := And.right (And.right hd)); conv => whnf) | (intro x y d hd; (try have g1 := And.left hd); (try have g2 := And.right hd); (try have g3 := And.left (And.right hd)); (try have g4 := And.right (And.right hd)); conv => whnf) | (intro x d hd; (try have g1 := And.left hd); (try have g2 := And.right hd); (try have g3 := And.left (And.right hd)); (try have g4 := And.right (And.right hd)); conv => whnf) | (intro d hd; (try have g1 := And.left hd); (try have g2 := And.right hd); (try have g3 := And.left (And.right hd)); (try have g4 := And.right (And.right hd)); conv => whnf))
  all_goals first
    | (refine ⟨?_⟩; exact he)
    | (refine ⟨?_⟩; exact hd.2)
    | (refine ⟨?_⟩; simp at *; omega)
    | (rw [wrap_id (n := (i : Int) + 1) (by omega) (by omega)]; exact hR (i + 1, _, ⟨_, _⟩) ⟨by simp at h ⊢; omega, by exact hd.2, memoryOk_setW hm hd.1⟩ (by simp at h ⊢; omega))
    | skip
  clear hR he hl hi
  refine loop (α := Nat × Cur × Mem) (fun q => ⟨[(0, .v (.c (.ptr 0 0))), (2, .v (.c (.ptr 2 0))), (3, .v (.c (.ptr 3 0))), (5, .v (.c (.int .i64 (q.1 : Int))))],
        [(5, some (.flat true .bool none q.2.2.gone)), (4, some (.flat true .word none q.2.2.words)), (3, some (.box true [.sl false .word 4, .sl false .bool 5])), (2, some (.box true [.nils .word, .nils .bool])), (1, some (.flat false (.int .u8) none q.2.1.b)), (0, some (.box true (cuC q.2.1 1)))], nums.tail.tail.tail.tail.tail.tail, [.v (.c (.ptr 0 0))], false, []⟩)
    (fun q => q.1 ≤ 12 ∧ CurOk q.2.1 ∧ memoryOk q.2.2 = true) (fun q => 12 - q.1) (fun q R hI hR => ?_) (0, d, m) _ ⟨by simp, hd.2, hm⟩ (by simp)
  obtain ⟨i, e, m⟩ := q
  obtain ⟨hi, he, hm⟩ := hI
  dsimp only at hi he hm
  dsimp only
  have hl := memoryOk_iff.1 hm
  conv => whnf
  repeat' (first | (refine sel_i (fun h => ?_) (fun h => ?_) <;> conv => whnf) | (refine chk_c ?_ ?_ <;> conv => whnf) | (refine And.intro ?_ rfl) | (refine And.intro ?_ ?_ <;> conv => whnf) | (intro x y z d hd; (try have g1 := And.left hd); (try have g2 := And.right hd); (try have g3 := And.left (And.right hd)); (try have g4 := And.right (And.right hd)); conv => whnf) | (intro x y d hd; (try have g1 := And.left hd); (try have g2 := And.right hd); (try have g3 := And.left (And.right hd)); (try have g4 := And.right (And.right hd)); conv => whnf) | (intro x d hd; (try have g1 := And.left hd); (try have g2 := And.right hd); (try have g3 := And.left (And.right hd)); (try have g4 := And.right (And.right hd)); conv => whnf) | (intro d hd; (try have g1 := And.left hd); (try have g2 := And.right hd); (try have g3 := And.left (And.right hd)); (try have g4 := And.right (And.right hd)); conv => whnf))
  all_goals first
    | (refine ⟨?_⟩; exact he)
    | (refine ⟨?_⟩; exact hd.2)
    | (refine ⟨?_⟩; simp at *; omega)
    | (rw [wrap_id (n := (i : Int) + 1) (by omega) (by omega)]; have h := of_decide_eq_true h; exact hR (i + 1, d, ⟨m.words, m.gone.set x.toNat true⟩) ⟨by dsimp only; omega, hd.2, memoryOk_setG hm⟩ (by dsimp only; omega))
    | (exact kMem (fun m hm => hK m _ hm) _ _ ⟨hm, hd.2⟩)
    | trace_state
theorem ok_spec_l8DrawRight : FunOk Try.prog c_spec_l8DrawRight := funOkR (E := [c_spec_l1Below, c_spec_l3DrawRight, c_spec_MemoryNew]) (envOk_cons ok_spec_l1Below (envOk_cons ok_spec_l3DrawRight (envOk_cons ok_spec_MemoryNew (envOk_nil)))) mixd Try.func113 (pf := pf_spec_l8DrawRight) (by kernel_rfl) fun ts K h => by
  obtain ⟨t0, e0, h⟩ := as1_out h
  subst e0
  obtain ⟨c, e1, hq⟩ := arQ_out rd_cur h
  clear h
  subst e1
  have h := hq
  clear hq
  obtain ⟨hpre, h⟩ := chk_o h
  exact ⟨Nat.le_of_ble_eq_true (show Nat.ble 1 Try.f113.ntmps = true by kernel_rfl), _, run_spec_l8DrawRight c hpre h⟩


theorem U8s.app {a b : List Int} (ha : U8s a) (hb : U8s b) : U8s (a ++ b) := fun x hx => by
  rcases List.mem_append.1 hx with q | q
  · exact ha x q
  · exact hb x q
theorem U8s.put {a : List Int} (ha : U8s a) {i : Nat} {v : Int} (hv : 0 ≤ v ∧ v ≤ 255) : U8s (a.set i v) := fun x hx => by
  rcases mem_set hx with q | q
  · exact ha x q
  · rw [q]; exact hv




def SideOk (x : Side) : Prop := x.regs.length = 8 ∧ (∀ w ∈ x.regs, wordOk w = true) ∧ wordOk x.pc = true ∧ 0 ≤ x.trap ∧ x.trap ≤ 5
theorem twoOk_of {t : Two} (hm : memoryOk t.mem = true) (ha : SideOk t.a) (hb : SideOk t.b) : twoOk t = true := by
  refine twoOk_iff.2 ⟨?_, ?_⟩
  · rw [side0]; exact stateOk_iff.2 ⟨ha.1, ha.2.1, ha.2.2.1, hm, ha.2.2.2.1, ha.2.2.2.2⟩
  · rw [side1]; exact stateOk_iff.2 ⟨hb.1, hb.2.1, hb.2.2.1, hm, hb.2.2.2.1, hb.2.2.2.2⟩
theorem twoOk_parts {t : Two} (h : twoOk t = true) : memoryOk t.mem = true ∧ SideOk t.a ∧ SideOk t.b := by
  obtain ⟨h1, h2⟩ := twoOk_iff.1 h
  rw [side0] at h1; rw [side1] at h2
  obtain ⟨a1, a2, a3, a4, a5, a6⟩ := stateOk_iff.1 h1
  obtain ⟨b1, b2, b3, b4, b5, b6⟩ := stateOk_iff.1 h2
  exact ⟨a4, ⟨a1, a2, a3, a5, a6⟩, b1, b2, b3, b5, b6⟩
theorem sideNew_ok (k : Key) (n : Int) : SideOk ⟨stateNew.regs.set 0 (keyWord k n), stateNew.pc, 0⟩ := by
  obtain ⟨a1, a2, a3, a4, a5, a6⟩ := stateOk_iff.1 stateNew_ok
  refine ⟨by simp [a1], fun v hv => ?_, a3, Int.le_refl _, by show (0 : Int) ≤ 5; decide⟩
  rcases mem_set hv with q | q
  · exact a2 v q
  · rw [q]; exact keyWord_ok k n
theorem kSide {K : Tree → List Tree → Prop} {o : List Tree} {P : Side → Prop} (hK : ∀ x : Side, P x → K (tG (x.tc true [])) o) (r : List Word) (n : Int) (is : Bool) (a b c d : Int) (t : Int) (h : P ⟨r, ⟨n, is, ⟨a, b, c, d⟩⟩, t⟩) :
    K (.v (.g [.ow .word r, .int .i64 n, .bool is, .int .i64 a, .int .i64 b, .int .i64 c, .int .i64 d, .int .i64 t])) o := hK ⟨r, ⟨n, is, ⟨a, b, c, d⟩⟩, t⟩ h

def pf_spec_l22DrawSide : PF := ⟨[.c 6 true 8], .seq (.reg [.s (.alloc 6 [.nils .word, .int .i64 0, .ff, .int .i64 0, .int .i64 0, .int .i64 0, .int .i64 0, .int .i64 0])]) (.seq (.reg [.s (.call (some 9) 129 []), .s (.alloc 7 [.nils .word, .int .i64 0, .ff, .int .i64 0, .int .i64 0, .int .i64 0, .int .i64 0, .nils .word, .nils .bool, .int .i64 0]), .s (.store 10 (.t 7) (.t 9))]) (.seq (.reg [.s (.fa 10 (.t 7) 0), .s (.load 11 false 1 (.t 10)), .s (.fa 12 (.t 7) 1), .s (.load 13 true 6 (.t 12)), .s (.build 14 [.nils .word, .int .i64 0, .ff, .int .i64 0, .int .i64 0, .int .i64 0, .int .i64 0, .int .i64 0] [(0, 1, (.t 11)), (1, 6, (.t 13))]), .s (.alloc 8 [.nils .word, .int .i64 0, .ff, .int .i64 0, .int .i64 0, .int .i64 0, .int .i64 0, .int .i64 0]), .s (.store 8 (.t 8) (.t 14))]) (.seq (.rgd [0] [.s (.fa 15 (.t 8) 0), .s (.load 16 false 1 (.t 15)), .s (.mv 17 (.t 1)), .s (.mv 18 (.t 1)), .s (.mv 19 (.t 2)), .s (.bin 20 .add (.t 18) (.t 19)), .s (.mv 21 (.t 0)), .s (.bs 22 (.int .i64) [(.k (.v (.c (.int .i64 4)))), (.k (.v (.c (.int .i64 4)))), (.k (.v (.c (.int .i64 4)))), (.k (.v (.c (.int .i64 6)))), (.k (.v (.c (.int .i64 12)))), (.k (.v (.c (.int .i64 20))))]), .s (.call (some 23) 86 [(.t 21), (.t 22)]), .s (.bin 24 .sub (.k (.v (.c (.int .i64 31)))) (.t 23)), .s (.build 25 [.int .i64 0, .int .i64 0, .int .i64 0, .int .i64 0] [(0, 1, (.t 17)), (1, 1, (.t 20)), (2, 1, (.t 24))]), .s (.mv 26 (.t 1)), .s (.call (some 27) 126 [(.t 25), (.t 26)]), .s (.ia 28 .word (.t 16) (.k (.v (.c (.int .i64 0))))), .s (.store 6 (.t 28) (.t 27))] (.tk 0 (.tk 1 (.tk 2 (.tk 3 (.tk 4 (.tk 5 (.tk 6 (.tk 11 (.one 7 false (.one 8 false (.tk 9 (.tk 10 (.one 12 false (.tk 13 (.one 14 true (.done none))))))))))))))))) (.seq (.reg [.s (.load 29 true 8 (.t 8)), .s (.store 8 (.t 6) (.t 29))]) (.ret)))))⟩
def c_spec_l22DrawSide : Fun := ⟨132, [true, false, false], fun ts K => as3 ts fun t0 t1 t2 => arQ pCurT t0 fun c => arC (pI .i64) t1 fun p => arC (pI .i64) t2 fun n => chk (CurOk c) (∀ (x : Side) (d : Cur), (SideOk x ∧ CurOk d) → K (tG (x.tc true [])) ([curOut d]))⟩
theorem run_spec_l22DrawSide (c : Cur) (p : Int) (n : Int) (hpre : CurOk c) {K : Tree → List Tree → Prop} (hK : ∀ (x : Side) (d : Cur), (SideOk x ∧ CurOk d) → K (tG (x.tc true [])) ([curOut d])) : runK [c_spec_l1PickInt, c_spec_KeyWord, c_spec_StateNew] (0) [true, false, false] pf_spec_l22DrawSide [.v (.ptr true 0 (c.tc [])), tI .i64 p, tI .i64 n] K := by
  conv => whnf
  repeat' (first | (refine sel_i (fun h => ?_) (fun h => ?_) <;> conv => whnf) | (refine chk_c ?_ ?_ <;> conv => whnf) | (refine And.intro ?_ rfl) | (refine And.intro ?_ ?_ <;> conv => whnf) | (intro x y z d hd; (try have g1 := And.left hd); (try have g2 := And.right hd); (try have g3 := And.left (And.right hd)); (try have g4 := And.right (And.right hd)); conv => whnf) | (intro x y d hd; (try have g1 := And.left hd); (try have g2 := And.right hd); (try have g3 := And.left (And.right hd)); (try have g4 := And.right (And.right hd)); conv => whnf) | (intro x d hd; (try have g1 := And.left hd); (try have g2 := And.right hd); (try have g3 := And.left (And.right hd)); (try have g4 := And.right (And.right hd)); conv => whnf) | (intro d hd; (try have g1 := And.left hd); (try have g2 := And.right hd); (try have g3 := And.left (And.right hd)); (try have g4 := And.right (And.right hd)); conv => whnf))
  all_goals first
    | (refine ⟨?_⟩; exact ⟨hpre, by simp⟩)
    | (refine ⟨?_⟩; decide)
    | (refine ⟨?_⟩; rfl)
    | (exact kSide (fun s hs => hK s _ hs) _ _ _ _ _ _ _ _ ⟨sideNew_ok _ _, hd.2⟩)
    | trace_state
theorem ok_spec_l22DrawSide : FunOk Try.prog c_spec_l22DrawSide := funOkR (E := [c_spec_l1PickInt, c_spec_KeyWord, c_spec_StateNew]) (envOk_cons ok_spec_l1PickInt (envOk_cons ok_spec_KeyWord (envOk_cons ok_spec_StateNew (envOk_nil)))) mixd Try.func132 (pf := pf_spec_l22DrawSide) (by kernel_rfl) fun ts K h => by
  obtain ⟨t0, t1, t2, e0, h⟩ := as3_out h
  subst e0
  obtain ⟨c, e1, hq⟩ := arQ_out rd_cur h
  clear h
  subst e1
  have h := hq
  clear hq
  obtain ⟨p, e1, hq⟩ := arC_out (rd_int .i64) h
  clear h
  subst e1
  have h := hq
  clear hq
  obtain ⟨n, e1, hq⟩ := arC_out (rd_int .i64) h
  clear h
  subst e1
  have h := hq
  clear hq
  obtain ⟨hpre, h⟩ := chk_o h
  exact ⟨Nat.le_of_ble_eq_true (show Nat.ble 3 Try.f132.ntmps = true by kernel_rfl), _, run_spec_l22DrawSide c p n hpre h⟩

def twoC (m : Mem) (a b : Side) (i j k l : Nat) : List Cell := [.sl false .word i, .sl false .bool j, .sl false .word k, .int .i64 a.pc.n, .bool a.pc.is, .int .i64 a.pc.key.base, .int .i64 a.pc.key.top, .int .i64 a.pc.key.perms, .int .i64 a.pc.key.sealed, .int .i64 a.trap, .sl false .word l, .int .i64 b.pc.n, .bool b.pc.is, .int .i64 b.pc.key.base, .int .i64 b.pc.key.top, .int .i64 b.pc.key.perms, .int .i64 b.pc.key.sealed, .int .i64 b.trap]
def zTwoC : List Cell := [.nils .word, .nils .bool, .nils .word, .int .i64 0, .ff, .int .i64 0, .int .i64 0, .int .i64 0, .int .i64 0, .int .i64 0, .nils .word, .int .i64 0, .ff, .int .i64 0, .int .i64 0, .int .i64 0, .int .i64 0, .int .i64 0]
theorem kTwo {K : Tree → List Tree → Prop} {o : List Tree} {P : Two → Prop} {la lb : List Inst} (hK : ∀ t : Two, P t → K (.tup [.c (tl true .inst la), .c (tl true .inst lb), .g (t.tc true [])]) o) (w : List Word) (g : List Bool)
    (r : List Word) (n : Int) (is : Bool) (a b c d t : Int) (r' : List Word) (n' : Int) (is' : Bool) (a' b' c' d' t' : Int) (h : P ⟨⟨w, g⟩, ⟨r, ⟨n, is, ⟨a, b, c, d⟩⟩, t⟩, ⟨r', ⟨n', is', ⟨a', b', c', d'⟩⟩, t'⟩⟩) :
    K (.tup [.c (.ow .inst la), .c (.ow .inst lb), .g [.ow .word w, .ow .bool g, .ow .word r, .int .i64 n, .bool is, .int .i64 a, .int .i64 b, .int .i64 c, .int .i64 d, .int .i64 t, .ow .word r', .int .i64 n', .bool is', .int .i64 a', .int .i64 b', .int .i64 c', .int .i64 d', .int .i64 t']]) o :=
  hK ⟨⟨w, g⟩, ⟨r, ⟨n, is, ⟨a, b, c, d⟩⟩, t⟩, ⟨r', ⟨n', is', ⟨a', b', c', d'⟩⟩, t'⟩⟩ h

def lb_spec_l22DrawRight_0 : PC := .seq (.seq (.reg [.s (.mv 21 (.t 6)), .s (.mv 22 (.t 0)), .s (.call (some 23) 63 [(.t 22), (.k (.v (.c (.int .i64 8))))]), .s (.bin 24 .lss (.t 21) (.t 23))]) (.cond (.t 24) (.skip) (.exit 0))) (.seq (.blk 1 (.rgd [0] [.s (.fa 27 (.t 5) 0), .s (.fa 28 (.t 27) 0), .s (.load 29 false 1 (.t 28)), .s (.mv 30 (.t 0)), .s (.call (some 31) 63 [(.t 30), (.k (.v (.c (.int .i64 24))))]), .s (.mv 32 (.t 0)), .s (.call (some 33) 63 [(.t 32), (.k (.v (.c (.int .i64 9))))]), .s (.call (some 34) 124 [(.t 33)]), .s (.ia 35 .word (.t 29) (.t 31)), .s (.store 6 (.t 35) (.t 34))] (.tk 0 (.tk 1 (.tk 2 (.tk 3 (.tk 5 (.one 4 false (.one 6 false (.one 7 false (.tk 8 (.one 9 true (.done none))))))))))))) (.reg [.s (.mv 25 (.t 6)), .s (.bin 26 .add (.t 25) (.k (.v (.c (.int .i64 1))))), .s (.mv 6 (.t 26))]))
def pf_spec_l22DrawRight : PF := ⟨[.t 2, .t 3, .c 4 true 18], .seq (.reg [.s (.mv 2 (.k (.v (.c (.nils .inst))))), .s (.mv 3 (.k (.v (.c (.nils .inst))))), .s (.alloc 4 [.nils .word, .nils .bool, .nils .word, .int .i64 0, .ff, .int .i64 0, .int .i64 0, .int .i64 0, .int .i64 0, .int .i64 0, .nils .word, .int .i64 0, .ff, .int .i64 0, .int .i64 0, .int .i64 0, .int .i64 0, .int .i64 0])]) (.seq (.reg [.s (.call (some 8) 91 []), .s (.mv 9 (.t 0)), .s (.call (some 10) 132 [(.t 9), (.k (.v (.c (.int .i64 0)))), (.k (.v (.c (.int .i64 12))))]), .s (.mv 11 (.t 0)), .s (.call (some 12) 132 [(.t 11), (.k (.v (.c (.int .i64 12)))), (.k (.v (.c (.int .i64 12))))]), .s (.build 13 [.nils .word, .nils .bool, .nils .word, .int .i64 0, .ff, .int .i64 0, .int .i64 0, .int .i64 0, .int .i64 0, .int .i64 0, .nils .word, .int .i64 0, .ff, .int .i64 0, .int .i64 0, .int .i64 0, .int .i64 0, .int .i64 0] [(0, 2, (.t 8)), (2, 8, (.t 10)), (10, 8, (.t 12))]), .s (.alloc 5 [.nils .word, .nils .bool, .nils .word, .int .i64 0, .ff, .int .i64 0, .int .i64 0, .int .i64 0, .int .i64 0, .int .i64 0, .nils .word, .int .i64 0, .ff, .int .i64 0, .int .i64 0, .int .i64 0, .int .i64 0, .int .i64 0]), .s (.store 18 (.t 5) (.t 13))]) (.seq (.seq (.reg [.s (.mv 14 (.t 0)), .s (.call (some 15) 123 [(.t 14), (.k (.v (.c (.int .i64 4))))])]) (.cond (.t 15) (.reg [.s (.mv 16 (.t 0)), .s (.mv 17 (.t 0)), .s (.call (some 18) 63 [(.t 17), (.k (.v (.c (.int .i64 12))))]), .s (.call (some 19) 132 [(.t 16), (.t 18), (.k (.v (.c (.int .i64 6))))]), .s (.fa 20 (.t 5) 10), .s (.store 8 (.t 20) (.t 19))]) (.skip))) (.seq (.seq (.reg [.s (.mv 6 (.k (.v (.c (.int .i64 0)))))]) (.blk 0 (.loop [0, 4, 5, 6] lb_spec_l22DrawRight_0))) (.seq (.seq (.reg [.s (.mv 36 (.t 0)), .s (.call (some 37) 123 [(.t 36), (.k (.v (.c (.int .i64 4))))])]) (.cond (.t 37) (.reg [.s (.mv 38 (.t 0)), .s (.call (some 39) 113 [(.t 38)]), .s (.fa 40 (.t 5) 0), .s (.store 2 (.t 40) (.t 39))]) (.skip))) (.seq (.reg [.s (.mv 41 (.t 0)), .s (.call (some 42) 128 [(.t 41)]), .s (.mv 7 (.t 42))]) (.seq (.rgd [0] [.s (.mv 43 (.t 7)), .s (.mv 44 (.t 0)), .s (.call (some 45) 128 [(.t 44)]), .s (.load 46 true 18 (.t 5)), .s (.mv 2 (.t 43)), .s (.mv 3 (.t 45)), .s (.store 18 (.t 4) (.t 46))] (.tk 0 (.tk 1 (.tk 3 (.one 2 false (.tk 4 (.tk 5 (.one 6 true (.done none))))))))) (.ret)))))))⟩
def c_spec_l22DrawRight : Fun := ⟨97, [true], fun ts K => as1 ts fun t0 => arQ pCurT t0 fun c => chk (CurOk c) (∀ (a : List Inst) (b : List Inst) (t : Two) (d : Cur), ((a.length ≤ 20 ∧ b.length ≤ 20) ∧ twoOk t = true ∧ CurOk d) → K (.tup [.c (tl true .inst a), .c (tl true .inst b), .g (t.tc true [])]) ([curOut d]))⟩
theorem run_spec_l22DrawRight (FU : Nat) (c : Cur) (hpre : CurOk c) {K : Tree → List Tree → Prop} (hK : ∀ (a : List Inst) (b : List Inst) (t : Two) (d : Cur), ((a.length ≤ 20 ∧ b.length ≤ 20) ∧ twoOk t = true ∧ CurOk d) → K (.tup [.c (tl true .inst a), .c (tl true .inst b), .g (t.tc true [])]) ([curOut d])) : runK [c_spec_l1Below, c_spec_MemoryNew, c_spec_l8DrawRight, c_spec_l1Once, c_spec_Plain, c_spec_l6DrawCode, c_spec_l22DrawSide] (20 + FU) [true] pf_spec_l22DrawRight [.v (.ptr true 0 (c.tc []))] K := by
  conv => whnf
  repeat' (first | (refine sel_i (fun h => ?_) (fun h => ?_) <;> conv => whnf) | (refine chk_c ?_ ?_ <;> conv => whnf) | (refine And.intro ?_ rfl) | (refine And.intro ?_ ?_ <;> conv => whnf) | (intro x y z d hd; (try have g1 := And.left hd); (try have g2 := And.right hd); (try have g3 := And.left (And.right hd)); (try have g4 := And.right (And.right hd)); conv => whnf) | (intro x y d hd; (try have g1 := And.left hd); (try have g2 := And.right hd); (try have g3 := And.left (And.right hd)); (try have g4 := And.right (And.right hd)); conv => whnf) | (intro x d hd; (try have g1 := And.left hd); (try have g2 := And.right hd); (try have g3 := And.left (And.right hd)); (try have g4 := And.right (And.right hd)); conv => whnf) | (intro d hd; (try have g1 := And.left hd); (try have g2 := And.right hd); (try have g3 := And.left (And.right hd)); (try have g4 := And.right (And.right hd)); conv => whnf))
  all_goals first
    | (refine ⟨?_⟩; exact hd.2)
    | (refine ⟨?_⟩; exact hpre)
    | (refine ⟨?_⟩; exact hd)
    | skip
  · rename_i A _ hA _ _ _ _ _ _ _ _ _ _ _ _ _ _ _ _ _ _ _ _ _ _ _ 
    refine loop (α := Nat × Cur × Mem) (fun q => ⟨[(0, .v (.c (.ptr 0 0))), (4, .v (.c (.ptr 2 0))), (5, .v (.c (.ptr 3 0))), (6, .v (.c (.int .i64 (q.1 : Int))))],
        [(7, some (.flat true .word none x.regs)), (6, some (.flat true .word none A.regs)), (5, some (.flat true .bool none q.2.2.gone)), (4, some (.flat true .word none q.2.2.words)),
          (3, some (.box true (twoC q.2.2 A x 4 5 6 7))), (2, some (.box true zTwoC)), (1, some (.flat false (.int .u8) none q.2.1.b)), (0, some (.box true (cuC q.2.1 1)))], nums.tail.tail.tail.tail.tail.tail.tail.tail, [.v (.c (.ptr 0 0))], false, []⟩)
      (fun q => q.1 ≤ 8 ∧ CurOk q.2.1 ∧ memoryOk q.2.2 = true) (fun q => 8 - q.1) (fun q R hI hR => ?_) (0, d, memNew) _ ⟨by simp, hd.2, memNew_ok⟩ (by show 8 - 0 < 20 + FU; omega)
    have hA := hA.1
    have hB := hd.1
    obtain ⟨i, e, m⟩ := q
    obtain ⟨hi, he, hm⟩ := hI
    dsimp only at hi he hm
    dsimp only
    have hl := memoryOk_iff.1 hm
    conv => whnf
    repeat' (first | (refine sel_i (fun h => ?_) (fun h => ?_) <;> conv => whnf) | (refine chk_c ?_ ?_ <;> conv => whnf) | (refine And.intro ?_ rfl) | (refine And.intro ?_ ?_ <;> conv => whnf) | (intro x y z d hd; (try have g1 := And.left hd); (try have g2 := And.right hd); (try have g3 := And.left (And.right hd)); (try have g4 := And.right (And.right hd)); conv => whnf) | (intro x y d hd; (try have g1 := And.left hd); (try have g2 := And.right hd); (try have g3 := And.left (And.right hd)); (try have g4 := And.right (And.right hd)); conv => whnf) | (intro x d hd; (try have g1 := And.left hd); (try have g2 := And.right hd); (try have g3 := And.left (And.right hd)); (try have g4 := And.right (And.right hd)); conv => whnf) | (intro d hd; (try have g1 := And.left hd); (try have g2 := And.right hd); (try have g3 := And.left (And.right hd)); (try have g4 := And.right (And.right hd)); conv => whnf))
    all_goals first
      | (refine ⟨?_⟩; exact he)
      | (refine ⟨?_⟩; exact hd)
      | (refine ⟨?_⟩; exact hd.2)
      | (refine ⟨?_⟩; exact hd.2.2)
      | (refine ⟨?_⟩; simp at *; omega)
      | (rw [wrap_id (n := (i : Int) + 1) (by omega) (by omega)]; exact hR (i + 1, _, ⟨_, _⟩) ⟨by simp at h ⊢; omega, hd.2, memoryOk_setW hm (plainW_ok _)⟩ (by simp at h ⊢; omega))
      | (refine kTwo (fun t ht => hK _ _ t _ ht) _ _ _ _ _ _ _ _ _ _ _ _ _ _ _ _ _ _ ⟨⟨?_, ?_⟩, twoOk_of ?_ ?_ ?_, ?_⟩ <;> first | assumption | exact hA | exact hB | exact hd.2 | exact hd.1 | exact (by assumption : _ ∧ CurOk _).1 | trace_state)
      | trace_state
  · rename_i A _ hA _ _ _ _ B _ hB _ _
    refine loop (α := Nat × Cur × Mem) (fun q => ⟨[(0, .v (.c (.ptr 0 0))), (4, .v (.c (.ptr 2 0))), (5, .v (.c (.ptr 3 0))), (6, .v (.c (.int .i64 (q.1 : Int))))],
        [(7, some (.flat true .word none B.regs)), (6, some (.flat true .word none A.regs)), (5, some (.flat true .bool none q.2.2.gone)), (4, some (.flat true .word none q.2.2.words)),
          (3, some (.box true (twoC q.2.2 A B 4 5 6 7))), (2, some (.box true zTwoC)), (1, some (.flat false (.int .u8) none q.2.1.b)), (0, some (.box true (cuC q.2.1 1)))], nums.tail.tail.tail.tail.tail.tail.tail.tail, [.v (.c (.ptr 0 0))], false, []⟩)
      (fun q => q.1 ≤ 8 ∧ CurOk q.2.1 ∧ memoryOk q.2.2 = true) (fun q => 8 - q.1) (fun q R hI hR => ?_) (0, d, memNew) _ ⟨by simp, hd, memNew_ok⟩ (by show 8 - 0 < 20 + FU; omega)
    have hA := hA.1
    have hB := hB.1
    obtain ⟨i, e, m⟩ := q
    obtain ⟨hi, he, hm⟩ := hI
    dsimp only at hi he hm
    dsimp only
    have hl := memoryOk_iff.1 hm
    conv => whnf
    repeat' (first | (refine sel_i (fun h => ?_) (fun h => ?_) <;> conv => whnf) | (refine chk_c ?_ ?_ <;> conv => whnf) | (refine And.intro ?_ rfl) | (refine And.intro ?_ ?_ <;> conv => whnf) | (intro x y z d hd; (try have g1 := And.left hd); (try have g2 := And.right hd); (try have g3 := And.left (And.right hd)); (try have g4 := And.right (And.right hd)); conv => whnf) | (intro x y d hd; (try have g1 := And.left hd); (try have g2 := And.right hd); (try have g3 := And.left (And.right hd)); (try have g4 := And.right (And.right hd)); conv => whnf) | (intro x d hd; (try have g1 := And.left hd); (try have g2 := And.right hd); (try have g3 := And.left (And.right hd)); (try have g4 := And.right (And.right hd)); conv => whnf) | (intro d hd; (try have g1 := And.left hd); (try have g2 := And.right hd); (try have g3 := And.left (And.right hd)); (try have g4 := And.right (And.right hd)); conv => whnf))
    all_goals first
      | (refine ⟨?_⟩; exact he)
      | (refine ⟨?_⟩; exact hd)
      | (refine ⟨?_⟩; exact hd.2)
      | (refine ⟨?_⟩; exact hd.2.2)
      | (refine ⟨?_⟩; simp at *; omega)
      | (rw [wrap_id (n := (i : Int) + 1) (by omega) (by omega)]; exact hR (i + 1, _, ⟨_, _⟩) ⟨by simp at h ⊢; omega, hd.2, memoryOk_setW hm (plainW_ok _)⟩ (by simp at h ⊢; omega))
      | (refine kTwo (fun t ht => hK _ _ t _ ht) _ _ _ _ _ _ _ _ _ _ _ _ _ _ _ _ _ _ ⟨⟨?_, ?_⟩, twoOk_of ?_ ?_ ?_, ?_⟩ <;> first | assumption | exact hA | exact hB | exact hd.2 | exact hd.1 | exact (by assumption : _ ∧ CurOk _).1 | trace_state)
      | trace_state
theorem ok_spec_l22DrawRight : FunOk Try.prog c_spec_l22DrawRight := funOkR (E := [c_spec_l1Below, c_spec_MemoryNew, c_spec_l8DrawRight, c_spec_l1Once, c_spec_Plain, c_spec_l6DrawCode, c_spec_l22DrawSide]) (envOk_cons ok_spec_l1Below (envOk_cons ok_spec_MemoryNew (envOk_cons ok_spec_l8DrawRight (envOk_cons ok_spec_l1Once (envOk_cons ok_spec_Plain (envOk_cons ok_spec_l6DrawCode (envOk_cons ok_spec_l22DrawSide (envOk_nil)))))))) mixd Try.func97 (pf := pf_spec_l22DrawRight) (by kernel_rfl) fun ts K h => by
  obtain ⟨t0, e0, h⟩ := as1_out h
  subst e0
  obtain ⟨c, e1, hq⟩ := arQ_out rd_cur h
  clear h
  subst e1
  have h := hq
  clear hq
  obtain ⟨hpre, h⟩ := chk_o h
  exact ⟨Nat.le_of_ble_eq_true (show Nat.ble 1 Try.f97.ntmps = true by kernel_rfl), _, run_spec_l22DrawRight 0 c hpre h⟩

def lb_spec_l22DrawOrder_0 : PC := .seq (.seq (.reg [.s (.mv 8 (.t 6)), .s (.mv 9 (.t 0)), .s (.mv 10 (.t 1)), .s (.call (some 11) 63 [(.t 9), (.t 10)]), .s (.bin 12 .lss (.t 8) (.t 11))]) (.cond (.t 12) (.skip) (.exit 0))) (.seq (.blk 1 (.reg [.s (.mv 15 (.t 5)), .s (.mv 16 (.t 0)), .s (.call (some 17) 63 [(.t 16), (.k (.v (.c (.int .i64 2))))]), .s (.bs 18 (.int .i64) [(.t 17)]), .s (.app 19 (.int .i64) (.t 15) (.t 18)), .s (.mv 5 (.t 19))])) (.reg [.s (.mv 13 (.t 6)), .s (.bin 14 .add (.t 13) (.k (.v (.c (.int .i64 1))))), .s (.mv 6 (.t 14))]))
def pf_spec_l22DrawOrder : PF := ⟨[.t 4], .seq (.reg [.s (.mv 4 (.k (.v (.c (.nils (.int .i64))))))]) (.seq (.reg [.s (.bs 7 (.int .i64) []), .s (.mv 5 (.t 7))]) (.seq (.seq (.reg [.s (.mv 6 (.k (.v (.c (.int .i64 0)))))]) (.blk 0 (.loop [0, 1, 5, 6] lb_spec_l22DrawOrder_0))) (.seq (.reg [.s (.mv 20 (.t 5)), .s (.mv 4 (.t 20))]) (.ret))))⟩
def c_spec_l22DrawOrder : Fun := ⟨98, [true, false], fun ts K => as2 ts fun t0 t1 => arQ pCurT t0 fun c => arC (pI .i64) t1 fun most => chk (CurOk c ∧ most ≤ 80) (∀ (l : List Int) (d : Cur), ((l.length ≤ 80 ∧ ∀ v ∈ l, v = 0 ∨ v = 1) ∧ CurOk d) → K (tL true (.int .i64) l) ([curOut d]))⟩
theorem run_spec_l22DrawOrder (FU : Nat) (c : Cur) (most : Int) (hpre : CurOk c ∧ most ≤ 80) {K : Tree → List Tree → Prop} (hK : ∀ (l : List Int) (d : Cur), ((l.length ≤ 80 ∧ ∀ v ∈ l, v = 0 ∨ v = 1) ∧ CurOk d) → K (tL true (.int .i64) l) ([curOut d])) : runK [c_spec_l1Below] (100 + FU) [true, false] pf_spec_l22DrawOrder [.v (.ptr true 0 (c.tc [])), tI .i64 most] K := by
  obtain ⟨hp1, hp2⟩ := hpre
  refine loop (α := Nat × Cur × List Int) (fun q => ⟨[(0, .v (.c (.ptr 0 0))), (1, .v (.c (.int .i64 most))), (5, .v (.c (.sl true (.int .i64) 2))), (6, .v (.c (.int .i64 (q.1 : Int))))],
        [(2, some (.flat true (.int .i64) none q.2.2)), (1, some (.flat false (.int .u8) none q.2.1.b)), (0, some (.box true (cuC q.2.1 1)))], nums.tail.tail.tail, [.v (.c (.ptr 0 0))], false, []⟩)
      (fun q => q.1 ≤ 80 ∧ CurOk q.2.1 ∧ q.2.2.length = q.1 ∧ ∀ v ∈ q.2.2, v = 0 ∨ v = 1) (fun q => 80 - q.1) (fun q R hI hR => ?_) (0, c, []) _ ⟨by simp, hp1, rfl, fun v hv => by cases hv⟩ (by show 80 - 0 < 100 + FU; omega)
  obtain ⟨i, e, m⟩ := q
  obtain ⟨hi, he, hm, hv⟩ := hI
  dsimp only at hi he hm hv
  dsimp only
  conv => whnf
  repeat' (first | (refine sel_i (fun h => ?_) (fun h => ?_) <;> conv => whnf) | (refine chk_c ?_ ?_ <;> conv => whnf) | (refine And.intro ?_ rfl) | (refine And.intro ?_ ?_ <;> conv => whnf) | (intro x y z d hd; (try have g1 := And.left hd); (try have g2 := And.right hd); (try have g3 := And.left (And.right hd)); (try have g4 := And.right (And.right hd)); conv => whnf) | (intro x y d hd; (try have g1 := And.left hd); (try have g2 := And.right hd); (try have g3 := And.left (And.right hd)); (try have g4 := And.right (And.right hd)); conv => whnf) | (intro x d hd; (try have g1 := And.left hd); (try have g2 := And.right hd); (try have g3 := And.left (And.right hd)); (try have g4 := And.right (And.right hd)); conv => whnf) | (intro d hd; (try have g1 := And.left hd); (try have g2 := And.right hd); (try have g3 := And.left (And.right hd)); (try have g4 := And.right (And.right hd)); conv => whnf))
  all_goals first
    | (refine ⟨?_⟩; exact he)
    | (refine ⟨?_⟩; exact hd)
    | (refine ⟨?_⟩; exact hd.2)
    | (refine ⟨?_⟩; simp at *; omega)
    | (exact hK m d ⟨⟨by omega, hv⟩, hd.2⟩)
    | (rw [wrap_id (n := (i : Int) + 1) (by omega) (by omega)]
       have h := of_decide_eq_true h
       rename_i y _ hy _ _ _ _
       have hy := hy.1
       have hi3 : i < 80 := by omega
       refine hR (i + 1, _, _) ⟨?_, hd.2, ?_, ?_⟩ ?_
       · dsimp only; omega
       · simp [hm]
       · intro v hq
         rcases List.mem_append.1 hq with q | q
         · exact hv v q
         · rw [List.mem_singleton.1 q]; have := hd.1; omega
       · dsimp only; omega)
    | trace_state
theorem ok_spec_l22DrawOrder : FunOk Try.prog c_spec_l22DrawOrder := funOkR (E := [c_spec_l1Below]) (envOk_cons ok_spec_l1Below (envOk_nil)) mixd Try.func98 (pf := pf_spec_l22DrawOrder) (by kernel_rfl) fun ts K h => by
  obtain ⟨t0, t1, e0, h⟩ := as2_out h
  subst e0
  obtain ⟨c, e1, hq⟩ := arQ_out rd_cur h
  clear h
  subst e1
  have h := hq
  clear hq
  obtain ⟨most, e1, hq⟩ := arC_out (rd_int .i64) h
  clear h
  subst e1
  have h := hq
  clear hq
  obtain ⟨hpre, h⟩ := chk_o h
  exact ⟨Nat.le_of_ble_eq_true (show Nat.ble 2 Try.f98.ntmps = true by kernel_rfl), _, run_spec_l22DrawOrder 0 c most hpre h⟩

def pf_spec_DrawBoth : PF := ⟨[.t 2, .t 3, .c 4 true 18, .t 5], .seq (.reg [.s (.mv 2 (.k (.v (.c (.nils .inst))))), .s (.mv 3 (.k (.v (.c (.nils .inst))))), .s (.alloc 4 [.nils .word, .nils .bool, .nils .word, .int .i64 0, .ff, .int .i64 0, .int .i64 0, .int .i64 0, .int .i64 0, .int .i64 0, .nils .word, .int .i64 0, .ff, .int .i64 0, .int .i64 0, .int .i64 0, .int .i64 0, .int .i64 0]), .s (.mv 5 (.k (.v (.c (.nils (.int .i64))))))]) (.seq (.reg [.s (.mv 10 (.t 0)), .s (.call (some 11) 61 [(.t 10)]), .s (.mv 6 (.t 11))]) (.seq (.reg [.s (.mv 13 (.t 6)), .s (.call (some 14) 97 [(.t 13)]), .s (.mv 12 (.t 14)), .s (.ext 15 (.t 12) 0), .s (.ext 16 (.t 12) 1), .s (.ext 17 (.t 12) 2), .s (.alloc 9 [.nils .word, .nils .bool, .nils .word, .int .i64 0, .ff, .int .i64 0, .int .i64 0, .int .i64 0, .int .i64 0, .int .i64 0, .nils .word, .int .i64 0, .ff, .int .i64 0, .int .i64 0, .int .i64 0, .int .i64 0, .int .i64 0]), .s (.mv 7 (.t 15)), .s (.mv 8 (.t 16)), .s (.store 18 (.t 9) (.t 17))]) (.seq (.rgd [6] [.s (.mv 18 (.t 7)), .s (.mv 19 (.t 8)), .s (.load 20 true 18 (.t 9)), .s (.mv 21 (.t 6)), .s (.mv 22 (.t 0)), .s (.call (some 23) 99 [(.t 22), (.k (.v (.c (.int .i64 40)))), (.k (.v (.c (.int .i64 80))))]), .s (.call (some 24) 98 [(.t 21), (.t 23)]), .s (.mv 2 (.t 18)), .s (.mv 3 (.t 19)), .s (.store 18 (.t 4) (.t 20)), .s (.mv 5 (.t 24))] (.tk 0 (.tk 1 (.tk 2 (.tk 3 (.tk 4 (.one 5 false (.one 6 false (.tk 7 (.tk 8 (.one 9 true (.tk 10 (.done none))))))))))))) (.ret))))⟩
def c_spec_DrawBoth : Fun := ⟨41, [], fun ts K => as1 ts fun t0 => arC (pL (.int .u8)) t0 fun code => chk (code.length ≤ 1048576) (∀ (a : List Inst) (b : List Inst) (t : Two) (l : List Int), ((a.length ≤ 20 ∧ b.length ≤ 20) ∧ twoOk t = true ∧ l.length ≤ 80 ∧ ∀ v ∈ l, v = 0 ∨ v = 1) → K (.tup [.c (tl true .inst a), .c (tl true .inst b), .g (t.tc true []), .c (tl true (.int .i64) l)]) [])⟩
theorem run_spec_DrawBoth (code : List (FT.Ty (.int .u8))) (hpre : code.length ≤ 1048576) {K : Tree → List Tree → Prop} (hK : ∀ (a : List Inst) (b : List Inst) (t : Two) (l : List Int), ((a.length ≤ 20 ∧ b.length ≤ 20) ∧ twoOk t = true ∧ l.length ≤ 80 ∧ ∀ v ∈ l, v = 0 ∨ v = 1) → K (.tup [.c (tl true .inst a), .c (tl true .inst b), .g (t.tc true []), .c (tl true (.int .i64) l)]) []) : runK [c_spec_l1New, c_spec_l22DrawRight, c_spec_l22DrawOrder, c_spec_l1Long] (0) [] pf_spec_DrawBoth [tL false (.int .u8) code] K := by
  conv => whnf
  repeat' (first | (refine sel_i (fun h => ?_) (fun h => ?_) <;> conv => whnf) | (refine chk_c ?_ ?_ <;> conv => whnf) | (refine And.intro ?_ rfl) | (refine And.intro ?_ ?_ <;> conv => whnf) | (intro x y z d hd; (try have g1 := And.left hd); (try have g2 := And.right hd); (try have g3 := And.left (And.right hd)); (try have g4 := And.right (And.right hd)); conv => whnf) | (intro x y d hd; (try have g1 := And.left hd); (try have g2 := And.right hd); (try have g3 := And.left (And.right hd)); (try have g4 := And.right (And.right hd)); conv => whnf) | (intro x d hd; (try have g1 := And.left hd); (try have g2 := And.right hd); (try have g3 := And.left (And.right hd)); (try have g4 := And.right (And.right hd)); conv => whnf) | (intro d hd; (try have g1 := And.left hd); (try have g2 := And.right hd); (try have g3 := And.left (And.right hd)); (try have g4 := And.right (And.right hd)); conv => whnf))
  all_goals (try simp only [etaKey, etaWord, etaMemory, etaSide, etaTwo] at *)
  all_goals first
    | (refine ⟨?_⟩; exact hd)
    | (refine ⟨?_⟩; exact hd.2)
    | (refine ⟨?_⟩; exact hd.2.2)
    | (refine ⟨?_⟩; exact hpre)
    | (refine ⟨?_⟩; exact ⟨hd.2, by simp⟩)
    | (refine ⟨?_⟩; exact ⟨hd.2.2, by simp⟩)
    | (refine ⟨?_⟩; decide)
    | (refine ⟨?_⟩; rfl)
    | (refine ⟨?_⟩; refine ⟨by assumption, by assumption⟩)
    | (refine hK _ _ z _ ⟨⟨?_, ?_⟩, by assumption, hd.1.1, hd.1.2⟩ <;> omega)
    | trace_state
theorem ok_spec_DrawBoth : FunOk Try.prog c_spec_DrawBoth := funOkR (E := [c_spec_l1New, c_spec_l22DrawRight, c_spec_l22DrawOrder, c_spec_l1Long]) (envOk_cons ok_spec_l1New (envOk_cons ok_spec_l22DrawRight (envOk_cons ok_spec_l22DrawOrder (envOk_cons ok_spec_l1Long (envOk_nil))))) mixd Try.func41 (pf := pf_spec_DrawBoth) (by kernel_rfl) fun ts K h => by
  obtain ⟨t0, e0, h⟩ := as1_out h
  subst e0
  obtain ⟨code, e1, hq⟩ := arC_out (rd_l (.int .u8)) h
  clear h
  subst e1
  have h := hq
  clear hq
  obtain ⟨hpre, h⟩ := chk_o h
  exact ⟨Nat.le_of_ble_eq_true (show Nat.ble 1 Try.f41.ntmps = true by kernel_rfl), _, run_spec_DrawBoth code hpre h⟩

theorem LTwo.big {t : Two} (h : LTwo t 24) : LTwo t 2147483647 := h.mono (by decide)

theorem twoOk_l {t : Two} (h : twoOk t = true) : LTwo t 24 := by
  obtain ⟨p1, p2, p3⟩ := twoOk_parts h
  obtain ⟨m1, m2, m3⟩ := memoryOk_iff.1 p1
  have a1 := p2.1
  have b1 := p3.1
  exact ⟨⟨by omega, by omega⟩, by omega, by omega⟩

theorem apartB_ok {t : Two} (h : apartB t = true) : twoOk t = true := by
  simp only [apartB, Bool.and_eq_true] at h
  exact h.1.1.1
end Go.Pi
