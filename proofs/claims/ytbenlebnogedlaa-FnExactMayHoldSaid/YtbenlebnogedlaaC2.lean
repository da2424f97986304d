/- Contracts of functions, each out of its run by PI. No conditions. -/
import Derived.Test.YtbenlebnogedlaaC1
namespace Go.Pi
open Go.Proofs
set_option linter.unusedVariables false
set_option linter.unusedSimpArgs false
set_option maxRecDepth 100000
attribute [local irreducible] iterN
def codeOk (l : List Inst) : Bool := inR l.length 1 48 && l.all insOk

def pf_impl_CodeOk_1 : PF := ⟨[.t 2], .seq (.reg [.s (.box 1 (.t 0)), .s (.mv 2 (.k (.v (.c .ff))))]) (.seq (.reg [.s (.load 3 true 5 (.t 1)), .s (.call (some 4) 33 [(.t 3)]), .s (.bnot 5 (.t 4)), .s (.mv 2 (.t 5))]) (.ret))⟩
def c_impl_CodeOk_1 : Fun := ⟨32, [], fun ts K => as1 ts fun t0 => arG pInstT t0 fun x => K (tB (!insOk x)) []⟩
theorem run_impl_CodeOk_1 (x : Inst) : runK [c_impl_InsOk] (0) [] pf_impl_CodeOk_1 [tG (x.tc [])] fun r o => r = tB (!insOk x) ∧ o = [] := by
  conv => whnf
  repeat' (first | (refine sel_i (fun h => ?_) (fun h => ?_) <;> conv => whnf) | (refine chk_c ?_ ?_ <;> conv => whnf) | (refine And.intro ?_ rfl) | (refine And.intro ?_ ?_ <;> conv => whnf))
  all_goals (try simp only [etaInst] at *)
  all_goals first
    | rfl
    | trace_state
theorem ok_impl_CodeOk_1 : FunOk Try.prog c_impl_CodeOk_1 := funOk (E := [c_impl_InsOk]) (envOk_cons ok_impl_InsOk (envOk_nil)) mixd Try.func32 (pf := pf_impl_CodeOk_1) (by kernel_rfl) fun ts K h => by
  obtain ⟨t0, e0, h⟩ := as1_out h
  subst e0
  obtain ⟨x, e1, hq⟩ := arG_out rd_inst h
  clear h
  subst e1
  have h := hq
  clear hq
  exact ⟨_, _, h, Nat.le_of_ble_eq_true (show Nat.ble 1 Try.f32.ntmps = true by kernel_rfl), _, run_impl_CodeOk_1 x⟩

def lb_slices_IndexFunc_Ins_0 : PC := .seq (.reg [.s (.bin 9 .lss (.t 8) (.t 7))]) (.seq (.cond (.t 9) (.skip) (.exit 0)) (.seq (.blk 1 (.seq (.reg [.s (.mv 10 (.t 8)), .s (.mv 5 (.t 10))]) (.seq (.reg [.s (.mv 11 (.t 1)), .s (.mv 12 (.t 0)), .s (.mv 13 (.t 5)), .s (.ia 14 .inst (.t 12) (.t 13)), .s (.load 15 true 5 (.t 14)), .s (.callv (some 16) (.t 11) [(.t 15)])]) (.cond (.t 16) (.seq (.reg [.s (.mv 17 (.t 5)), .s (.mv 4 (.t 17))]) (.ret)) (.skip))))) (.reg [.s (.bin 18 .add (.t 8) (.k (.v (.c (.int .i64 1))))), .s (.mv 8 (.t 18))])))
def pf_slices_IndexFunc_Ins : PF := ⟨[.t 4], .seq (.reg [.s (.mv 4 (.k (.v (.c (.int .i64 0)))))]) (.seq (.seq (.reg [.s (.mv 6 (.t 0)), .s (.len 7 false (.t 6)), .s (.mv 8 (.k (.v (.c (.int .i64 0)))))]) (.blk 0 (.loop [0, 1, 7, 8] lb_slices_IndexFunc_Ins_0))) (.seq (.reg [.s (.mv 4 (.k (.v (.c (.int .i64 (-1))))))]) (.ret)))⟩
def c_slices_IndexFunc_Ins__impl_CodeOk_1 : Fun := ⟨39, [], fun ts K => as2 ts fun t0 t1 => arC (pL .inst) t0 fun xs => arF0 32 t1 fun g => chk (xs.length ≤ 2147483647) (K (tN (idxOf (fun x => !insOk x) xs)) [])⟩
theorem run_slices_IndexFunc_Ins__impl_CodeOk_1 (xs : List (FT.Ty .inst)) (g : Unit) (hpre : xs.length ≤ 2147483647) : runK [c_impl_CodeOk_1] (xs.length + 1) [] pf_slices_IndexFunc_Ins [tL false .inst xs, .fn 32 []] fun r o => r = tN (idxOf (fun x => !insOk x) xs) ∧ o = [] := by
  conv => whnf
  refine loop (α := Nat) (fun i => ⟨[(0, .v (.c (.sl false .inst 0))), (1, .fn 32 []), (7, .v (.c (.int .i64 (xs.length : Int)))), (8, .v (.c (.int .i64 (i : Int))))], [(0, some (.flat false .inst none xs))], nums.tail, [], false, []⟩)
      (fun i => i ≤ xs.length ∧ idxOf (fun x => !insOk x) xs = idxGo (fun x => !insOk x) (xs.drop i) i) (fun i => xs.length - i) (fun i R hI hR => ?_) 0 _ ⟨by simp, rfl⟩ (by simp)
  obtain ⟨hi, hx⟩ := hI
  conv => whnf
  refine sel_i (fun h2 => ?_) (fun h2 => ?_)
  · have hlt : i < xs.length := by simp at h2; omega
    conv => whnf
    repeat (refine chk_i (by first | omega | (simp; omega)) ?_; conv => whnf)
    refine sel_i (fun h3 => ?_) (fun h3 => ?_)
    · conv => whnf
      rw [hx, idxGo_yes (z := FT.zero .inst) hlt (by first | (simp only [keyEq] at h3; exact h3) | (simpa using h3))]
      exact ⟨rfl, rfl⟩
    · conv => whnf
      rw [wrap_id (n := (i : Int) + 1) (by omega) (by omega)]
      exact hR (i + 1) ⟨by omega, by rw [hx, idxGo_no (z := FT.zero .inst) hlt (by first | (simp only [keyEq] at h3; exact h3) | (simpa using h3))]⟩ (by omega)
  · conv => whnf
    rw [hx, idxGo_end (by simp at h2; omega)]
    exact ⟨rfl, rfl⟩
theorem ok_slices_IndexFunc_Ins__impl_CodeOk_1 : FunOk Try.prog c_slices_IndexFunc_Ins__impl_CodeOk_1 := funOk (E := [c_impl_CodeOk_1]) (envOk_cons ok_impl_CodeOk_1 (envOk_nil)) mixd Try.func39 (pf := pf_slices_IndexFunc_Ins) (by kernel_rfl) fun ts K h => by
  obtain ⟨t0, t1, e0, h⟩ := as2_out h
  subst e0
  obtain ⟨xs, e1, hq⟩ := arC_out (rd_l .inst) h
  clear h
  subst e1
  have h := hq
  clear hq
  obtain ⟨g, e1, hq⟩ := arF0_out h
  clear h
  subst e1
  have h := hq
  clear hq
  obtain ⟨hpre, h⟩ := chk_o h
  exact ⟨_, _, h, Nat.le_of_ble_eq_true (show Nat.ble 2 Try.f39.ntmps = true by kernel_rfl), _, run_slices_IndexFunc_Ins__impl_CodeOk_1 xs g hpre⟩

def pf_slices_ContainsFunc_Ins : PF := ⟨[.t 4], .seq (.reg [.s (.mv 4 (.k (.v (.c .ff))))]) (.seq (.reg [.s (.mv 5 (.t 0)), .s (.mv 6 (.t 1)), .s (.call (some 7) 39 [(.t 5), (.t 6)]), .s (.bin 8 .geq (.t 7) (.k (.v (.c (.int .i64 0))))), .s (.mv 4 (.t 8))]) (.ret))⟩
def c_slices_ContainsFunc_Ins__impl_CodeOk_1 : Fun := ⟨31, [], fun ts K => as2 ts fun t0 t1 => arC (pL .inst) t0 fun xs => arF0 32 t1 fun g => chk (xs.length ≤ 2147483647) (K (tB (xs.any (fun x => !insOk x))) [])⟩
theorem run_slices_ContainsFunc_Ins__impl_CodeOk_1 (xs : List (FT.Ty .inst)) (g : Unit) (hpre : xs.length ≤ 2147483647) : runK [c_slices_IndexFunc_Ins__impl_CodeOk_1, c_impl_CodeOk_1] (0) [] pf_slices_ContainsFunc_Ins [tL false .inst xs, .fn 32 []] fun r o => r = tB (xs.any (fun x => !insOk x)) ∧ o = [] := by
  conv => whnf
  repeat' (first | (refine sel_i (fun h => ?_) (fun h => ?_) <;> conv => whnf) | (refine chk_c ?_ ?_ <;> conv => whnf) | (refine And.intro ?_ rfl) | (refine And.intro ?_ ?_ <;> conv => whnf))
  all_goals first | (refine ⟨?_⟩; exact hpre) | exact hpre | (rw [← idxOf_any]; rfl) | (rw [← idxOf_any])
theorem ok_slices_ContainsFunc_Ins__impl_CodeOk_1 : FunOk Try.prog c_slices_ContainsFunc_Ins__impl_CodeOk_1 := funOk (E := [c_slices_IndexFunc_Ins__impl_CodeOk_1, c_impl_CodeOk_1]) (envOk_cons ok_slices_IndexFunc_Ins__impl_CodeOk_1 (envOk_cons ok_impl_CodeOk_1 (envOk_nil))) mixd Try.func31 (pf := pf_slices_ContainsFunc_Ins) (by kernel_rfl) fun ts K h => by
  obtain ⟨t0, t1, e0, h⟩ := as2_out h
  subst e0
  obtain ⟨xs, e1, hq⟩ := arC_out (rd_l .inst) h
  clear h
  subst e1
  have h := hq
  clear hq
  obtain ⟨g, e1, hq⟩ := arF0_out h
  clear h
  subst e1
  have h := hq
  clear hq
  obtain ⟨hpre, h⟩ := chk_o h
  exact ⟨_, _, h, Nat.le_of_ble_eq_true (show Nat.ble 2 Try.f31.ntmps = true by kernel_rfl), _, run_slices_ContainsFunc_Ins__impl_CodeOk_1 xs g hpre⟩

def pf_impl_CodeOk : PF := ⟨[.t 2], .seq (.reg [.s (.mv 2 (.k (.v (.c .ff))))]) (.seq (.reg [.s (.mv 3 (.t 0)), .s (.len 4 false (.t 3)), .s (.call (some 5) 30 [(.t 4), (.k (.v (.c (.int .i64 1)))), (.k (.v (.c (.int .i64 48))))]), .s (.mv 6 (.t 5)), .g 6 true (some 7) (.mv 7 (.t 0)), .g 6 true (some 8) (.call (some 8) 31 [(.t 7), (.k (.fn 32 []))]), .g 6 true (some 9) (.bnot 9 (.t 8)), .s (.pick 10 (.t 6) (.t 9) (.k (.v (.c .ff)))), .s (.mv 2 (.t 10))]) (.ret))⟩
def c_impl_CodeOk : Fun := ⟨22, [], fun ts K => as1 ts fun t0 => arC (pL .inst) t0 fun l => chk (l.length ≤ 2147483647) (K (tB (codeOk l)) [])⟩
theorem run_impl_CodeOk (l : List (FT.Ty .inst)) (hpre : l.length ≤ 2147483647) : runK [c_impl_in, c_slices_ContainsFunc_Ins__impl_CodeOk_1, c_impl_CodeOk_1] (0) [] pf_impl_CodeOk [tL false .inst l] fun r o => r = tB (codeOk l) ∧ o = [] := by
  conv => whnf
  repeat' (first | (refine sel_i (fun h => ?_) (fun h => ?_) <;> conv => whnf) | (refine chk_c ?_ ?_ <;> conv => whnf) | (refine And.intro ?_ rfl) | (refine And.intro ?_ ?_ <;> conv => whnf))
  all_goals (try simp only [etaInst] at *)
  all_goals first
    | (refine ⟨?_⟩; exact hpre)
    | (unfold codeOk; rw [h, all_any]; simp; done)
    | (unfold codeOk; rw [h]; rfl)
    | trace_state
theorem ok_impl_CodeOk : FunOk Try.prog c_impl_CodeOk := funOk (E := [c_impl_in, c_slices_ContainsFunc_Ins__impl_CodeOk_1, c_impl_CodeOk_1]) (envOk_cons ok_impl_in (envOk_cons ok_slices_ContainsFunc_Ins__impl_CodeOk_1 (envOk_cons ok_impl_CodeOk_1 (envOk_nil)))) mixd Try.func22 (pf := pf_impl_CodeOk) (by kernel_rfl) fun ts K h => by
  obtain ⟨t0, e0, h⟩ := as1_out h
  subst e0
  obtain ⟨l, e1, hq⟩ := arC_out (rd_l .inst) h
  clear h
  subst e1
  have h := hq
  clear hq
  obtain ⟨hpre, h⟩ := chk_o h
  exact ⟨_, _, h, Nat.le_of_ble_eq_true (show Nat.ble 1 Try.f22.ntmps = true by kernel_rfl), _, run_impl_CodeOk l hpre⟩

def lb_spec_CodeOk_0 : PC := .seq (.seq (.reg [.s (.mv 4 (.t 3)), .s (.mv 5 (.t 0)), .s (.len 6 false (.t 5)), .s (.bin 7 .lss (.t 4) (.t 6))]) (.cond (.t 7) (.skip) (.exit 0))) (.seq (.blk 1 (.seq (.reg [.s (.mv 10 (.t 0)), .s (.mv 11 (.t 3)), .s (.ia 12 .inst (.t 10) (.t 11)), .s (.load 13 true 5 (.t 12)), .s (.call (some 14) 26 [(.t 13)]), .s (.bnot 15 (.t 14))]) (.cond (.t 15) (.seq (.reg [.s (.mv 2 (.k (.v (.c .ff))))]) (.ret)) (.skip)))) (.reg [.s (.mv 8 (.t 3)), .s (.bin 9 .add (.t 8) (.k (.v (.c (.int .i64 1))))), .s (.mv 3 (.t 9))]))
def pf_spec_CodeOk : PF := ⟨[.t 2], .seq (.reg [.s (.mv 2 (.k (.v (.c .ff))))]) (.seq (.seq (.reg [.s (.mv 3 (.k (.v (.c (.int .i64 0)))))]) (.blk 0 (.loop [0, 3] lb_spec_CodeOk_0))) (.seq (.reg [.s (.mv 16 (.t 0)), .s (.len 17 false (.t 16)), .s (.call (some 18) 27 [(.t 17), (.k (.v (.c (.int .i64 1)))), (.k (.v (.c (.int .i64 48))))]), .s (.mv 2 (.t 18))]) (.ret)))⟩
def c_spec_CodeOk : Fun := ⟨19, [], fun ts K => as1 ts fun t0 => arC (pL .inst) t0 fun l => chk (l.length ≤ 2147483647) (K (tB (codeOk l)) [])⟩
theorem run_spec_CodeOk (l : List (FT.Ty .inst)) (hpre : l.length ≤ 2147483647) : runK [c_spec_InsOk, c_spec_l1In] (l.length + 1) [] pf_spec_CodeOk [tL false .inst l] fun r o => r = tB (codeOk l) ∧ o = [] := by
  conv => whnf
  refine loop (α := Nat) (fun i => ⟨[(0, .v (.c (.sl false .inst 0))), (3, .v (.c (.int .i64 (i : Int))))], [(0, some (.flat false .inst none l))], nums.tail, [], false, []⟩)
    (fun i => i ≤ l.length ∧ (l.drop i).all insOk = l.all insOk) (fun i => l.length - i) (fun i R hI hR => ?_) 0 _ ⟨by simp, rfl⟩ (by simp)
  obtain ⟨hi, hx⟩ := hI
  conv => whnf
  repeat' (first | (refine sel_i (fun h => ?_) (fun h => ?_) <;> conv => whnf) | (refine chk_c ?_ ?_ <;> conv => whnf) | (refine And.intro ?_ rfl) | (refine And.intro ?_ ?_ <;> conv => whnf))
  all_goals (try simp only [etaInst, Int.toNat_natCast, Bool.not_eq_true', Bool.not_eq_false', decide_eq_true_eq, decide_eq_false_iff_not] at *)
  all_goals first
    | (refine ⟨?_⟩; omega)
    | (unfold codeOk; rw [all_no (z := FT.zero .inst) (by omega) h hx, Bool.and_false]; done)
    | (rw [wrap_id (n := (i : Int) + 1) (by omega) (by omega)]; exact hR (i + 1) ⟨by omega, all_yes (z := FT.zero .inst) (by omega) h hx⟩ (by omega))
    | (unfold codeOk; rw [all_end (by omega) hx, Bool.and_true]; done)
    | trace_state
theorem ok_spec_CodeOk : FunOk Try.prog c_spec_CodeOk := funOk (E := [c_spec_InsOk, c_spec_l1In]) (envOk_cons ok_spec_InsOk (envOk_cons ok_spec_l1In (envOk_nil))) mixd Try.func19 (pf := pf_spec_CodeOk) (by kernel_rfl) fun ts K h => by
  obtain ⟨t0, e0, h⟩ := as1_out h
  subst e0
  obtain ⟨l, e1, hq⟩ := arC_out (rd_l .inst) h
  clear h
  subst e1
  have h := hq
  clear hq
  obtain ⟨hpre, h⟩ := chk_o h
  exact ⟨_, _, h, Nat.le_of_ble_eq_true (show Nat.ble 1 Try.f19.ntmps = true by kernel_rfl), _, run_spec_CodeOk l hpre⟩

/-! what is kept is read as it was -/

/-! two that are apart -/
theorem twoOk_iff {t : Two} : twoOk t = true ↔ stateOk (sideState t 0) = true ∧ stateOk (sideState t 1) = true := by simp [twoOk]
theorem meetI_f {a b : List Int} : meetI a b = false ↔ ∀ c ∈ a, c ∉ b := by
  simp only [meetI, List.any_eq_false]
  constructor
  · intro h c hc hb
    exact h c hc (List.any_eq_true.2 ⟨c, hb, beq_iff_eq.2 rfl⟩)
  · intro h c hc hb
    obtain ⟨x, hx, e⟩ := List.any_eq_true.1 hb
    rw [beq_iff_eq.1 e] at hc
    exact h x hc hx
def Ap (C D : List Word) : Prop := ∀ j : Nat, j < 24 → coverP C 2 j = true → coverP D 1 j = false ∧ coverP D 2 j = false
def NoSeal (C : List Word) : Prop := ∀ c ∈ C, hasP c 32 = false
structure Both (A B : List Word) (t : Two) : Prop where
  a : Inv A (sideState t 0)
  b : Inv B (sideState t 1)
  ab : Ap A B
  ba : Ap B A
  na : NoSeal A
  nb : NoSeal B
theorem Both.ok {A B : List Word} {t : Two} (h : Both A B t) : twoOk t = true := twoOk_iff.2 ⟨h.a.ok, h.b.ok⟩
theorem Both.apart {A B : List Word} {t : Two} (h : Both A B t) (ha : ∀ x ∈ closure t.mem (heldW t.a), Und A x) (hb : ∀ x ∈ closure t.mem (heldW t.b), Und B x) : apartB t = true := by
  have hs : ∀ {C : List Word} {l : List Word}, (∀ x ∈ closure t.mem l, Und C x) → NoSeal C → canSeal t.mem l = false := fun {C l} hu hn => by
    cases e : canSeal t.mem l with
    | false => rfl
    | true =>
      simp only [canSeal, List.any_eq_true] at e
      obtain ⟨w, h1, h2⟩ := e
      obtain ⟨p1, p2⟩ := hasP_iff.1 h2
      obtain ⟨d, d1, d2, d3⟩ := hu w h1 p1
      obtain ⟨q1, q2, q3, q4, q5⟩ := coversK_iff.1 d3
      have := hn d d1
      rw [hasP_iff.2 ⟨d2, andI_bit q5 p2⟩] at this
      cases this
  have hcov : ∀ {C : List Word} {l : List Word} {p : Int} {j : Nat}, (∀ x ∈ closure t.mem l, Und C x) → coverP (closure t.mem l) p j = true → coverP C p j = true := fun {C l p j} hu hc => by
    obtain ⟨w, w1, w2, w3, w4⟩ := coverP_iff.1 hc
    exact cover_up (hu w w1) w2 w3 w4
  have hx : ∀ {C D : List Word} {l k : List Word}, (∀ x ∈ closure t.mem l, Und C x) → (∀ x ∈ closure t.mem k, Und D x) → Ap C D → crossesB t.mem l k = false := fun {C D l k} hu hv hap => by
    refine meetI_f.2 fun c hc hc2 => ?_
    obtain ⟨j, h1, h2, rfl⟩ := mem_cellsBy.1 hc
    have := hap j h1 (hcov hu h2)
    rcases List.mem_append.1 hc2 with q | q
    · obtain ⟨i, i1, i2, i3⟩ := mem_cellsBy.1 q
      have : i = j := by omega
      subst this
      have := hcov hv i2
      simp_all
    · obtain ⟨i, i1, i2, i3⟩ := mem_cellsBy.1 q
      have : i = j := by omega
      subst this
      have := hcov hv i2
      simp_all
  simp only [apartB, Bool.and_eq_true, Bool.not_eq_true']
  exact ⟨⟨⟨h.ok, hs ha h.na⟩, hs hb h.nb⟩, hx ha hb h.ab, hx hb ha h.ba⟩

structure Cur where
  b : List Int
  i : Int
  h : Int
def Cur.tc (c : Cur) (r : List TC) : List TC := tl false (.int .u8) c.b :: .int .i64 c.i :: .int .i64 c.h :: r



theorem U8s.app {a b : List Int} (ha : U8s a) (hb : U8s b) : U8s (a ++ b) := fun x hx => by
  rcases List.mem_append.1 hx with q | q
  · exact ha x q
  · exact hb x q
theorem U8s.put {a : List Int} (ha : U8s a) {i : Nat} {v : Int} (hv : 0 ≤ v ∧ v ≤ 255) : U8s (a.set i v) := fun x hx => by
  rcases mem_set hx with q | q
  · exact ha x q
  · rw [q]; exact hv















/-! what the small programs do -/






theorem spanD_mem {l : List Span} {i : Nat} (h : i < l.length) : l.getD i (FT.zero .span) ∈ l := by
  rw [List.getD_eq_getElem?_getD, List.getElem?_eq_getElem h]; exact List.getElem_mem h

def Ord (l : List Span) : Prop := l.Pairwise (fun a b => a.at_ < b.at_)
theorem ord_of {l : List Span} (h : ∀ j, 0 < j → j < l.length → (l.getD (j - 1) (FT.zero .span)).at_ < (l.getD j (FT.zero .span)).at_) : Ord l := by
  have key : ∀ d i : Nat, i + d + 1 < l.length → (l.getD i (FT.zero .span)).at_ < (l.getD (i + d + 1) (FT.zero .span)).at_ := by
    intro d
    induction d with
    | zero => intro i hi; have := h (i + 1) (by omega) hi; simpa using this
    | succ d ih =>
      intro i hi
      have h1 := ih i (by omega)
      have h2 := h (i + (d + 1) + 1) (by omega) hi
      rw [show i + (d + 1) + 1 - 1 = i + d + 1 by omega] at h2
      omega
  refine List.pairwise_iff_getElem.2 fun i j hi hj hij => ?_
  have := key (j - i - 1) i (by omega)
  rw [show i + (j - i - 1) + 1 = j by omega] at this
  simpa [List.getD_eq_getElem?_getD, hi, hj] using this
theorem ord_step {l : List Span} (h : Ord l) {j : Nat} (h0 : 0 < j) (hj : j < l.length) : (l.getD (j - 1) (FT.zero .span)).at_ < (l.getD j (FT.zero .span)).at_ := by
  have := List.pairwise_iff_getElem.1 h (j - 1) j (by omega) hj (by omega)
  simpa [List.getD_eq_getElem?_getD, hj, show j - 1 < l.length by omega] using this
theorem spansOk_ord {l : List Span} : spansOk l = true ↔ (∀ s ∈ l, spanOk s = true) ∧ Ord l := by
  rw [spansOk_iff]
  constructor
  · intro h
    refine ⟨spansOk_mem (spansOk_iff.2 h), ord_of fun j h0 hj => ?_⟩
    have := ((spanChk_iff l j).1 (h j hj)).2
    omega
  · rintro ⟨h1, h2⟩ j hj
    have hs := h1 _ (spanD_mem hj)
    rw [spanChk_iff]
    simp only [spanOk, Bool.and_eq_true, inR_t] at hs
    refine ⟨hs, ?_⟩
    by_cases h0 : j = 0
    · exact .inl h0
    · exact .inr (ord_step h2 (by omega) hj)


theorem ord_ge {l : List Span} (h : spansOk l = true) : ∀ j : Nat, j < l.length → (j : Int) ≤ (l.getD j (FT.zero .span)).at_ := by
  obtain ⟨h1, h2⟩ := spansOk_ord.1 h
  intro j
  induction j with
  | zero =>
    intro hj
    have hs := h1 _ (spanD_mem hj)
    simp only [spanOk, Bool.and_eq_true, inR_t] at hs
    omega
  | succ j ih =>
    intro hj
    have := ih (by omega)
    have := ord_step h2 (show 0 < j + 1 by omega) hj
    rw [Nat.add_sub_cancel] at this
    omega
theorem spansOk_len {l : List Span} (h : spansOk l = true) : l.length ≤ 24 := by
  by_cases h0 : l.length = 0
  · omega
  · have hj : l.length - 1 < l.length := by omega
    have := ord_ge h (l.length - 1) hj
    have hs := (spansOk_ord.1 h).1 _ (spanD_mem hj)
    simp only [spanOk, Bool.and_eq_true, inR_t] at hs
    omega
theorem heapOk_iff {h : Heap} : heapOk h = true ↔ memoryOk h.mem = true ∧ spansOk h.live = true ∧ spansOk h.waits = true ∧ ∀ c, c < 24 → cnt h.live c + cnt h.waits c ≤ 1 ∧ h.mem.gone.getD c false = decide (0 < cnt h.waits c) := by
  simp only [heapOk, Bool.and_eq_true, allR_iff, decide_eq_true_eq, beq_iff_eq, and_assoc]
theorem heapOk_len {h : Heap} (k : heapOk h = true) : LHeap h 24 := by
  obtain ⟨h1, h2, h3, h4⟩ := heapOk_iff.1 k
  obtain ⟨m1, m2, m3⟩ := memoryOk_iff.1 h1
  exact ⟨⟨by omega, by omega⟩, spansOk_len h2, spansOk_len h3⟩
def InSpan (l : List Span) (w : Word) : Prop := w.is = true → w.key.base < w.key.top → ∃ s ∈ l, s.at_ ≤ w.key.base ∧ w.key.top ≤ s.at_ + s.len
structure Good (h : Heap) (rs : List Word) : Prop where
  ok : heapOk h = true
  regs : ∀ w ∈ rs, wordOk w = true ∧ InSpan (h.live ++ h.waits) w
  mem : ∀ w ∈ h.mem.words, InSpan (h.live ++ h.waits) w
theorem Good.len {h : Heap} {rs : List Word} (g : Good h rs) : LHeap h 24 := heapOk_len g.ok



theorem idxGo_out {α : Type} {p : α → Bool} (z : α) : ∀ (xs : List α) (i : Nat), 0 ≤ idxGo p xs i → ∃ k : Nat, idxGo p xs i = ((i + k : Nat) : Int) ∧ k < xs.length ∧ p (xs.getD k z) = true ∧ ∀ j, j < k → p (xs.getD j z) = false
  | [], i, h => by simp [idxGo] at h
  | x :: xs, i, h => by
    unfold idxGo at h ⊢
    split
    · exact ⟨0, rfl, by simp, by simpa using ‹p x = true›, fun j hj => absurd hj (Nat.not_lt_zero _)⟩
    · rename_i hp
      rw [if_neg hp] at h
      obtain ⟨k, e, hk, hk1, hk2⟩ := idxGo_out z xs (i + 1) h
      refine ⟨k + 1, by rw [e]; congr 1; omega, by simpa using hk, by simpa using hk1, fun j hj => ?_⟩
      cases j with
      | zero => simpa using hp
      | succ j => simpa using hk2 j (by omega)
theorem idxOf_cases {α : Type} (p : α → Bool) (z : α) (xs : List α) : (idxOf p xs < 0 ∧ ∀ j, j < xs.length → p (xs.getD j z) = false) ∨
    ∃ k : Nat, idxOf p xs = (k : Int) ∧ k < xs.length ∧ p (xs.getD k z) = true ∧ ∀ j, j < k → p (xs.getD j z) = false := by
  by_cases h : 0 ≤ idxOf p xs
  · obtain ⟨k, e, h1, h2, h3⟩ := idxGo_out z xs 0 h
    exact .inr ⟨k, by rw [show idxOf p xs = idxGo p xs 0 from rfl, e, Nat.zero_add], h1, h2, h3⟩
  · refine .inl ⟨by omega, fun j hj => ?_⟩
    have ha := idxOf_any p xs
    rw [decide_eq_false h] at ha
    have := List.any_eq_false.1 ha.symm (xs.getD j z) (by rw [List.getD_eq_getElem?_getD, List.getElem?_eq_getElem hj]; exact List.getElem_mem hj)
    simpa using this









def InI (n : Int) : Prop := -9223372036854775808 ≤ n ∧ n ≤ 9223372036854775807
def InS (x : Seen) : Prop := InI x.at_ ∧ InI x.r ∧ InI x.addr

/-! strictly ascending lists: they are what their members are -/
def Asc (l : List Int) : Prop := l.Pairwise (fun a b => a < b)
theorem asc_ext : ∀ {a b : List Int}, Asc a → Asc b → (∀ x, x ∈ a ↔ x ∈ b) → a = b
  | [], [], _, _, _ => rfl
  | [], y :: b, _, _, h => by have := (h y).2 (by simp); cases this
  | x :: a, [], _, _, h => by have := (h x).1 (by simp); cases this
  | x :: a, y :: b, ha, hb, h => by
    obtain ⟨ha1, ha2⟩ := List.pairwise_cons.1 ha
    obtain ⟨hb1, hb2⟩ := List.pairwise_cons.1 hb
    have e : x = y := by
      have h1 := (h x).1 (by simp)
      have h2 := (h y).2 (by simp)
      rcases List.mem_cons.1 h1 with h1 | h1
      · exact h1
      · rcases List.mem_cons.1 h2 with h2 | h2
        · exact h2.symm
        · have := ha1 y h2
          have := hb1 x h1
          omega
    subst e
    congr 1
    refine asc_ext ha2 hb2 fun z => ?_
    have hz := h z
    simp only [List.mem_cons] at hz
    constructor
    · intro hm
      have := ha1 z hm
      rcases hz.1 (.inr hm) with h3 | h3
      · omega
      · exact h3
    · intro hm
      have := hb1 z hm
      rcases hz.2 (.inr hm) with h3 | h3
      · omega
      · exact h3
def compGo (p : Int) : List Int → List Int
  | [] => []
  | y :: ys => if y = p then compGo p ys else y :: compGo y ys
def compI : List Int → List Int
  | [] => []
  | x :: xs => x :: compGo x xs
def Up (l : List Int) : Prop := l.Pairwise (fun a b => a ≤ b)
theorem compGo_mem : ∀ {l : List Int} {p x : Int}, x ∈ compGo p l → x ∈ l
  | y :: ys, p, x, h => by
    unfold compGo at h
    split at h
    · exact List.mem_cons_of_mem _ (compGo_mem h)
    · rcases List.mem_cons.1 h with h | h
      · rw [h]; simp
      · exact List.mem_cons_of_mem _ (compGo_mem h)
theorem compGo_in : ∀ {l : List Int} {p x : Int}, x ∈ l → x = p ∨ x ∈ compGo p l
  | y :: ys, p, x, h => by
    unfold compGo
    rcases List.mem_cons.1 h with h | h
    · split
      · left; omega
      · right; rw [h]; simp
    · split
      · exact compGo_in h
      · rcases compGo_in (p := y) h with h | h
        · right; rw [h]; simp
        · right; exact List.mem_cons_of_mem _ h
theorem compGo_asc : ∀ {l : List Int} {p : Int}, Up (p :: l) → Asc (p :: compGo p l)
  | [], p, _ => List.pairwise_singleton _ _
  | y :: ys, p, h => by
    obtain ⟨h1, h2⟩ := List.pairwise_cons.1 h
    unfold compGo
    split
    · rename_i e
      subst e
      exact compGo_asc h2
    · rename_i e
      have hy := h1 y (by simp)
      have ih := compGo_asc h2
      refine List.pairwise_cons.2 ⟨fun z hz => ?_, ih⟩
      rcases List.mem_cons.1 hz with hz | hz
      · omega
      · have := (List.pairwise_cons.1 ih).1 z hz
        omega
theorem compI_asc : ∀ {l : List Int}, Up l → Asc (compI l)
  | [], _ => List.Pairwise.nil
  | _ :: _, h => compGo_asc h
theorem compI_mem {l : List Int} {x : Int} : x ∈ compI l ↔ x ∈ l := by
  cases l with
  | nil => exact Iff.rfl
  | cons y ys =>
    unfold compI
    constructor
    · intro h
      rcases List.mem_cons.1 h with h | h
      · rw [h]; simp
      · exact List.mem_cons_of_mem _ (compGo_mem h)
    · intro h
      rcases List.mem_cons.1 h with h | h
      · rw [h]; simp
      · rcases compGo_in (p := y) h with h | h
        · rw [h]; simp
        · exact List.mem_cons_of_mem _ h

def sortedI (xs : List Int) : List Int := xs.mergeSort fun x y => decide (x ≤ y)
theorem sortedI_up (xs : List Int) : Up (sortedI xs) := by
  have := List.pairwise_mergeSort (le := fun x y : Int => decide (x ≤ y)) (fun a b c h1 h2 => by
    simp only [decide_eq_true_eq] at h1 h2 ⊢; omega) (fun a b => by
    simp only [Bool.or_eq_true, decide_eq_true_eq]; omega) xs
  exact this.imp (fun h => of_decide_eq_true h)
theorem sortedI_mem {xs : List Int} {x : Int} : x ∈ sortedI xs ↔ x ∈ xs := List.mem_mergeSort
def setI (xs : List Int) : List Int := compI (sortedI xs)
theorem setI_asc (xs : List Int) : Asc (setI xs) := compI_asc (sortedI_up xs)
theorem setI_mem {xs : List Int} {x : Int} : x ∈ setI xs ↔ x ∈ xs := by
  unfold setI; rw [compI_mem, sortedI_mem]
theorem setI_len (xs : List Int) : (setI xs).length ≤ xs.length := by
  have h1 : ∀ (l : List Int) (p : Int), (compGo p l).length ≤ l.length := by
    intro l
    induction l with
    | nil => intro p; exact Nat.le_refl _
    | cons y ys ih =>
      intro p
      unfold compGo
      split
      · have := ih p; simp only [List.length_cons]; omega
      · have := ih y; simp only [List.length_cons]; omega
  have h2 : (sortedI xs).length = xs.length := List.length_mergeSort xs
  unfold setI
  cases hs : sortedI xs with
  | nil => exact Nat.zero_le _
  | cons y ys =>
    rw [hs] at h2
    have := h1 ys y
    unfold compI
    simp only [List.length_cons] at h2 ⊢
    omega

def pf_slices_Sort_int : PF := ⟨[], .seq (.reg [.s (.mv 3 (.t 0)), .s (.len 4 false (.t 3)), .s (.mv 2 (.t 4))]) (.reg [.s (.mv 5 (.t 0)), .s (.mv 6 (.t 2)), .s (.mv 7 (.t 2)), .s (.conv 8 .u64 (.t 7)), .s (.call (some 9) 50 [(.t 8)]), .s (.call (some 10) 49 [(.t 5), (.k (.v (.c (.int .i64 0)))), (.t 6), (.t 9)])])⟩
def c_slices_Sort_int : Fun := sortFun 44
theorem ok_slices_Sort_int : FunOk Try.prog c_slices_Sort_int :=
  sort_ok (callable_of Try.func44 (pf := pf_slices_Sort_int) (by kernel_rfl)) (fun blk off cap zs w h1 h2 h3 => Try.slices_Sort_int blk off cap zs w h1 h2 h3) (fun p cap w => Try.slices_Sort_int_none p cap w)

/-! neighbours that are alike, in place -/
def endI (p : Int) : List Int → Int
  | [] => p
  | y :: ys => endI y ys
theorem compGo_snoc : ∀ (l : List Int) (p x : Int), compGo p (l ++ [x]) = if x = endI p l then compGo p l else compGo p l ++ [x]
  | [], p, x => by
    simp only [List.nil_append, compGo, endI]
    rfl
  | y :: ys, p, x => by
    have ih := compGo_snoc ys y x
    have e1 : compGo p (y :: ys ++ [x]) = if y = p then compGo p (ys ++ [x]) else y :: compGo y (ys ++ [x]) := rfl
    have e2 : compGo p (y :: ys) = if y = p then compGo p ys else y :: compGo y ys := rfl
    by_cases hx : x = endI y ys
    · rw [if_pos hx] at ih
      rw [if_pos (show x = endI p (y :: ys) from hx), e1, e2]
      by_cases h : y = p
      · rw [if_pos h, if_pos h, ← h, ih]
      · rw [if_neg h, if_neg h, ih]
    · rw [if_neg hx] at ih
      rw [if_neg (show ¬ x = endI p (y :: ys) from hx), e1, e2]
      by_cases h : y = p
      · rw [if_pos h, if_pos h, ← h, ih]
      · rw [if_neg h, if_neg h, ih, List.cons_append]
theorem endI_getD : ∀ (l : List Int) (p : Int), endI p l = (p :: l).getD l.length 0
  | [], p => rfl
  | y :: ys, p => by
    simp only [endI]
    rw [endI_getD ys y]
    simp
theorem compI_snoc {l : List Int} (x : Int) (h : 0 < l.length) : compI (l ++ [x]) = if x = l.getD (l.length - 1) 0 then compI l else compI l ++ [x] := by
  cases l with
  | nil => simp at h
  | cons y ys =>
    simp only [List.cons_append, compI]
    rw [compGo_snoc, endI_getD]
    simp only [List.length_cons, Nat.add_sub_cancel]
    split <;> rfl
theorem take_snoc {α : Type} {s : List α} {m : Nat} {z : α} (h : m < s.length) : s.take (m + 1) = s.take m ++ [s.getD m z] := by
  rw [List.take_add_one, List.getElem?_eq_getElem h, List.getD_eq_getElem?_getD, List.getElem?_eq_getElem h]; rfl
theorem compI_step {s : List Int} {m : Nat} (h0 : 0 < m) (h : m < s.length) : compI (s.take (m + 1)) = if s.getD m (FT.zero (.int .i64)) = s.getD (m - 1) (FT.zero (.int .i64)) then compI (s.take m) else compI (s.take m) ++ [s.getD m (FT.zero (.int .i64))] := by
  have hl : (s.take m).length = m := by rw [List.length_take]; omega
  rw [take_snoc (z := FT.zero (.int .i64)) h, compI_snoc _ (by omega), hl]
  have e : (s.take m).getD (m - 1) 0 = s.getD (m - 1) (FT.zero (.int .i64)) := by
    rw [List.getD_eq_getElem?_getD, List.getD_eq_getElem?_getD, List.getElem?_take, if_pos (by omega)]; rfl
  rw [e]
theorem over_take {α : Type} (c z : List α) (a : Nat) (h : a ≤ c.length) : win (over c (0 + a) z) 0 a = c.take a := by
  unfold win over
  rw [List.drop_zero, Nat.zero_add, List.append_assoc, List.take_append_of_le_length (by rw [List.length_take]; omega), List.take_take, Nat.min_self]
theorem over_len0 {α : Type} (c z : List α) (a : Nat) (h : a + z.length ≤ c.length) : (over c (0 + a) z).length = c.length := by
  unfold over
  simp only [List.length_append, List.length_take, List.length_drop]; omega
theorem dropK_getD {α : Type} {c s : List α} {k i : Nat} (z : α) (h : c.drop k = s.drop k) (hk : k ≤ i) : c.getD i z = s.getD i z := by
  have := congrArg (fun l => l.getD (i - k) z) h
  simp only [List.getD_eq_getElem?_getD, List.getElem?_drop] at this ⊢
  rw [show k + (i - k) = i by omega] at this
  exact this
theorem drop_set {α : Type} {c s : List α} {k : Nat} {v : α} (h : c.drop k = s.drop k) : (c.set k v).drop (k + 1) = s.drop (k + 1) := by
  have e : (c.set k v).drop (k + 1) = c.drop (k + 1) := by rw [List.drop_set]; simp
  rw [e]
  have := congrArg (List.drop 1) h
  simpa [List.drop_drop, Nat.add_comm] using this
theorem take_set_snoc {α : Type} {c : List α} {k : Nat} {v : α} (h : k < c.length) : (c.set k v).take (k + 1) = c.take k ++ [v] := by
  rw [take_snoc (z := v) (by simpa using h), List.take_set_of_le (Nat.le_refl _)]
  simp [List.getD_eq_getElem?_getD, h]

def lb_slices_Compact_int_0 : PC := .seq (.seq (.reg [.s (.mv 29 (.t 5)), .s (.mv 30 (.t 4)), .s (.len 31 false (.t 30)), .s (.bin 32 .lss (.t 29) (.t 31))]) (.cond (.t 32) (.skip) (.exit 2))) (.seq (.blk 3 (.seq (.rgd [] [.s (.mv 35 (.t 4)), .s (.mv 36 (.t 5)), .s (.ia 37 (.int .i64) (.t 35) (.t 36)), .s (.load 38 false 1 (.t 37)), .s (.mv 39 (.t 4)), .s (.mv 40 (.t 5)), .s (.bin 41 .sub (.t 40) (.k (.v (.c (.int .i64 1))))), .s (.ia 42 (.int .i64) (.t 39) (.t 41)), .s (.load 43 false 1 (.t 42)), .s (.bin 44 .neq (.t 38) (.t 43))] (.tk 0 (.tk 1 (.tk 2 (.tk 3 (.tk 4 (.tk 5 (.tk 6 (.tk 7 (.tk 8 (.tk 9 (.done none)))))))))))) (.cond (.t 44) (.seq (.reg [.s (.mv 45 (.t 0)), .s (.mv 46 (.t 3)), .s (.mv 47 (.t 4)), .s (.mv 48 (.t 5)), .s (.ia 49 (.int .i64) (.t 47) (.t 48)), .s (.load 50 false 1 (.t 49)), .s (.ia 51 (.int .i64) (.t 45) (.t 46)), .s (.store 1 (.t 51) (.t 50))]) (.reg [.s (.mv 52 (.t 3)), .s (.bin 53 .add (.t 52) (.k (.v (.c (.int .i64 1))))), .s (.mv 3 (.t 53))])) (.skip)))) (.reg [.s (.mv 33 (.t 5)), .s (.bin 34 .add (.t 33) (.k (.v (.c (.int .i64 1))))), .s (.mv 5 (.t 34))]))
def lb_slices_Compact_int_1 : PC := .seq (.seq (.reg [.s (.mv 10 (.t 3)), .s (.mv 11 (.t 0)), .s (.len 12 false (.t 11)), .s (.bin 13 .lss (.t 10) (.t 12))]) (.cond (.t 13) (.skip) (.exit 0))) (.seq (.blk 1 (.seq (.rgd [] [.s (.mv 16 (.t 0)), .s (.mv 17 (.t 3)), .s (.ia 18 (.int .i64) (.t 16) (.t 17)), .s (.load 19 false 1 (.t 18)), .s (.mv 20 (.t 0)), .s (.mv 21 (.t 3)), .s (.bin 22 .sub (.t 21) (.k (.v (.c (.int .i64 1))))), .s (.ia 23 (.int .i64) (.t 20) (.t 22)), .s (.load 24 false 1 (.t 23)), .s (.bin 25 .eql (.t 19) (.t 24))] (.tk 0 (.tk 1 (.tk 2 (.tk 3 (.tk 4 (.tk 5 (.tk 6 (.tk 7 (.tk 8 (.tk 9 (.done none)))))))))))) (.cond (.t 25) (.seq (.reg [.s (.mv 26 (.t 0)), .s (.mv 27 (.t 3)), .s (.slc 28 (.int .i64) (.t 26) (some (.t 27)) none), .s (.mv 4 (.t 28))]) (.seq (.seq (.reg [.s (.mv 5 (.k (.v (.c (.int .i64 1)))))]) (.blk 2 (.loop [0, 3, 4, 5] lb_slices_Compact_int_0))) (.seq (.reg [.s (.mv 54 (.t 0)), .s (.mv 55 (.t 3)), .s (.slc 56 (.int .i64) (.t 54) (some (.t 55)) none), .s (.clr (.int .i64) (.t 56))]) (.seq (.reg [.s (.mv 57 (.t 0)), .s (.mv 58 (.t 3)), .s (.slc 59 (.int .i64) (.t 57) none (some (.t 58))), .s (.mv 2 (.t 59))]) (.ret))))) (.skip)))) (.reg [.s (.mv 14 (.t 3)), .s (.bin 15 .add (.t 14) (.k (.v (.c (.int .i64 1))))), .s (.mv 3 (.t 15))]))
def pf_slices_Compact_int : PF := ⟨[.t 2], .seq (.reg [.s (.mv 2 (.k (.v (.c (.nils (.int .i64))))))]) (.seq (.seq (.reg [.s (.mv 6 (.t 0)), .s (.len 7 false (.t 6)), .s (.bin 8 .lss (.t 7) (.k (.v (.c (.int .i64 2)))))]) (.cond (.t 8) (.seq (.reg [.s (.mv 9 (.t 0)), .s (.mv 2 (.t 9))]) (.ret)) (.skip))) (.seq (.seq (.reg [.s (.mv 3 (.k (.v (.c (.int .i64 1)))))]) (.blk 0 (.loop [0, 3] lb_slices_Compact_int_1))) (.seq (.reg [.s (.mv 60 (.t 0)), .s (.mv 2 (.t 60))]) (.ret))))⟩
def c_slices_Compact_int : Fun := ⟨46, [true], fun ts K => as1 ts fun t0 => arC (pO (.int .i64)) t0 fun s => chk (s.length ≤ 2147483647) (K (tL true (.int .i64) (compI s)) ([.v (.c .unk)]))⟩
theorem run_slices_Compact_int (s : List (FT.Ty (.int .i64))) (hpre : s.length ≤ 2147483647) : runK [] (s.length + 1) [true] pf_slices_Compact_int [tL true (.int .i64) s] fun r o => r = tL true (.int .i64) (compI s) ∧ o = [.v (.c .unk)] := by
  conv => whnf
  repeat' (first | (refine sel_i (fun h => ?_) (fun h => ?_) <;> conv => whnf) | (refine chk_c ?_ ?_ <;> conv => whnf) | (refine And.intro ?_ rfl) | (refine And.intro ?_ ?_ <;> conv => whnf))
  · have hl : s.length < 2 := by have := of_decide_eq_true h; omega
    have e : compI s = s := by
      match s, hl with
      | [], _ => rfl
      | [x], _ => rfl
    rw [e]
  · have hl : 2 ≤ s.length := by have := of_decide_eq_false h; omega
    refine loop (α := Nat) (fun k => ⟨[(0, .v (.c (.sl false (.int .i64) 0))), (3, .v (.c (.int .i64 (k : Int))))], [(0, some (.flat true (.int .i64) none s))], nums.tail, [.v (.c (.sl false (.int .i64) 0))], false, []⟩)
      (fun k => 1 ≤ k ∧ k ≤ s.length ∧ compI (s.take k) = s.take k) (fun k => s.length - k) (fun k R hI hR => ?_) 1 _ ⟨by omega, by omega, by
        match s, hl with
        | x :: y :: xs, _ => rfl⟩ (by omega)
    obtain ⟨hk1, hk, hx⟩ := hI
    have w1 : IntKind.i64.wrap ((k : Int) - 1) = (k : Int) - 1 := wrap_id (by omega) (by omega)
    have t1 : ((k : Int) - 1).toNat = k - 1 := by omega
    conv => whnf
    repeat' (first | (refine sel_i (fun h => ?_) (fun h => ?_) <;> conv => whnf) | (refine chk_c ?_ ?_ <;> conv => whnf) | (refine And.intro ?_ rfl) | (refine And.intro ?_ ?_ <;> conv => whnf))
    all_goals (try simp only [w1, t1, Int.toNat_natCast, decide_eq_true_eq, decide_eq_false_iff_not, beq_iff_eq, beq_eq_false_iff_ne] at *)
    all_goals first
      | (refine ⟨?_⟩; omega)
      | (rw [List.take_of_length_le (by omega)] at hx; rw [hx]; done)
      | (rw [wrap_id (n := (k : Int) + 1) (by omega) (by omega)]; exact hR (k + 1) ⟨by omega, by omega, by rw [compI_step (by omega) (by omega), if_neg (by assumption), hx, take_snoc (z := FT.zero (.int .i64)) (by omega)]⟩ (by omega))
      | skip
    rename_i hlt
    have hs2 : ((s.length : Int) - k).toNat = s.length - k := by omega
    rw [Nat.zero_add, hs2]
    clear hR
    refine loop (α := Nat × Nat × List Int) (fun p => ⟨[(0, .v (.c (.sl false (.int .i64) 0))), (3, .v (.c (.int .i64 (p.1 : Int)))), (4, .v (.c (.slp false (.int .i64) 0 k (s.length - k)))), (5, .v (.c (.int .i64 (p.2.1 : Int))))], [(0, some (.flat true (.int .i64) none p.2.2))], nums.tail, [.v (.c (.sl false (.int .i64) 0))], false, []⟩)
      (fun p => k ≤ p.1 ∧ p.1 + 1 ≤ k + p.2.1 ∧ k + p.2.1 ≤ s.length ∧ p.2.2.length = s.length ∧ p.2.2.take p.1 = compI (s.take (k + p.2.1)) ∧ p.2.2.drop p.1 = s.drop p.1) (fun p => s.length - k - p.2.1) (fun p R hI hR => ?_) (k, 1, s) _
      ⟨by simp, by simp, by dsimp only; omega, rfl, by dsimp only; rw [compI_step (by omega) (by omega), if_pos h, hx], rfl⟩ (by dsimp only; omega)
    obtain ⟨a, b, c⟩ := p
    obtain ⟨h1, h2, h3, h4, h5, h6⟩ := hI
    dsimp only at h1 h2 h3 h4 h5 h6 ⊢
    have w2 : IntKind.i64.wrap ((b : Int) - 1) = (b : Int) - 1 := wrap_id (by omega) (by omega)
    have t2 : ((b : Int) - 1).toNat = b - 1 := by omega
    conv => whnf
    repeat' (first | (refine sel_i (fun h => ?_) (fun h => ?_) <;> conv => whnf) | (refine chk_c ?_ ?_ <;> conv => whnf) | (refine And.intro ?_ rfl) | (refine And.intro ?_ ?_ <;> conv => whnf))
    all_goals (try simp only [w2, t2, Int.toNat_natCast, decide_eq_true_eq, decide_eq_false_iff_not, bne_iff_ne, bne_eq_false_iff_eq, ne_eq] at *)
    all_goals first
      | (refine ⟨?_⟩; omega)
      | skip
    · rw [wrap_id (n := (a : Int) + 1) (by omega) (by omega), wrap_id (n := (b : Int) + 1) (by omega) (by omega)]
      refine hR (a + 1, b + 1, c.set a (c.getD (k + b) (FT.zero (.int .i64)))) ⟨by dsimp only; omega, by dsimp only; omega, by dsimp only; omega, by dsimp only; simpa using h4, ?_, drop_set h6⟩ (by dsimp only; omega)
      dsimp only
      have g1 := dropK_getD (FT.zero (.int .i64)) h6 (show a ≤ k + b by omega)
      have g2 := dropK_getD (FT.zero (.int .i64)) h6 (show a ≤ k + (b - 1) by omega)
      rw [g1, g2] at h
      rw [take_set_snoc (by omega), show k + (b + 1) = (k + b) + 1 by omega, compI_step (by omega) (by omega), show k + b - 1 = k + (b - 1) by omega, if_neg h, h5, g1]
    · rw [wrap_id (n := (b : Int) + 1) (by omega) (by omega)]
      refine hR (a, b + 1, c) ⟨h1, by dsimp only; omega, by dsimp only; omega, h4, ?_, h6⟩ (by dsimp only; omega)
      dsimp only
      have g1 := dropK_getD (FT.zero (.int .i64)) h6 (show a ≤ k + b by omega)
      have g2 := dropK_getD (FT.zero (.int .i64)) h6 (show a ≤ k + (b - 1) by omega)
      rw [g1, g2] at h
      rw [show k + (b + 1) = (k + b) + 1 by omega, compI_step (by omega) (by omega), show k + b - 1 = k + (b - 1) by omega, if_pos h, h5]
    · refine ⟨?_⟩
      rw [over_len0 _ _ _ (by rw [List.length_replicate]; omega)]; omega
    · rw [over_take _ _ _ (by omega), h5, List.take_of_length_le (by omega)]
theorem ok_slices_Compact_int : FunOk Try.prog c_slices_Compact_int := funOk (E := []) (envOk_nil) mixd Try.func46 (pf := pf_slices_Compact_int) (by kernel_rfl) fun ts K h => by
  obtain ⟨t0, e0, h⟩ := as1_out h
  subst e0
  obtain ⟨s, e1, hq⟩ := arC_out (rd_o (.int .i64)) h
  clear h
  subst e1
  have h := hq
  clear hq
  obtain ⟨hpre, h⟩ := chk_o h
  exact ⟨_, _, h, Nat.le_of_ble_eq_true (show Nat.ble 1 Try.f46.ntmps = true by kernel_rfl), _, run_slices_Compact_int s hpre⟩

def pf_impl_nextPlaces_1 : PF := ⟨[.t 3], .seq (.reg [.s (.mv 3 (.k (.v (.c .ff))))]) (.seq (.reg [.s (.mv 4 (.t 0)), .s (.load 5 false 1 (.t 1)), .s (.len 6 false (.t 5)), .s (.bin 7 .sub (.t 6) (.k (.v (.c (.int .i64 1))))), .s (.call (some 8) 30 [(.t 4), (.k (.v (.c (.int .i64 0)))), (.t 7)]), .s (.bnot 9 (.t 8)), .s (.mv 3 (.t 9))]) (.ret))⟩
def c_impl_nextPlaces_1 : Fun := ⟨47, [], fun ts K => as2 ts fun t0 t1 => arC (pI .i64) t0 fun n => arP (pL .inst) t1 fun g => chk (g.length ≤ 2147483647) (K (tB (!inR n 0 (g.length - 1))) [])⟩
theorem run_impl_nextPlaces_1 (n : Int) (g : List (FT.Ty .inst)) (hpre : g.length ≤ 2147483647) : runK [c_impl_in] (0) [] pf_impl_nextPlaces_1 [tI .i64 n, .v (.ptr false 0 [tl false .inst g])] fun r o => r = tB (!inR n 0 (g.length - 1)) ∧ o = [] := by
  have w1 : IntKind.i64.wrap ((g.length : Int) - 1) = (g.length : Int) - 1 := wrap_id (by omega) (by omega)
  conv => whnf
  repeat' (first | (refine sel_i (fun h => ?_) (fun h => ?_) <;> conv => whnf) | (refine chk_c ?_ ?_ <;> conv => whnf) | (refine And.intro ?_ rfl) | (refine And.intro ?_ ?_ <;> conv => whnf))
  all_goals (simp only [w1])
theorem ok_impl_nextPlaces_1 : FunOk Try.prog c_impl_nextPlaces_1 := funOk (E := [c_impl_in]) (envOk_cons ok_impl_in (envOk_nil)) mixd Try.func47 (pf := pf_impl_nextPlaces_1) (by kernel_rfl) fun ts K h => by
  obtain ⟨t0, t1, e0, h⟩ := as2_out h
  subst e0
  obtain ⟨n, e1, hq⟩ := arC_out (rd_int .i64) h
  clear h
  subst e1
  have h := hq
  clear hq
  obtain ⟨g, e1, hq⟩ := arP_out (rd_l .inst) h
  clear h
  subst e1
  have h := hq
  clear hq
  obtain ⟨hpre, h⟩ := chk_o h
  exact ⟨_, _, h, Nat.le_of_ble_eq_true (show Nat.ble 2 Try.f47.ntmps = true by kernel_rfl), _, run_impl_nextPlaces_1 n g hpre⟩

def lb_slices_IndexFunc_int_0 : PC := .seq (.reg [.s (.bin 9 .lss (.t 8) (.t 7))]) (.seq (.cond (.t 9) (.skip) (.exit 0)) (.seq (.blk 1 (.seq (.reg [.s (.mv 10 (.t 8)), .s (.mv 5 (.t 10))]) (.seq (.reg [.s (.mv 11 (.t 1)), .s (.mv 12 (.t 0)), .s (.mv 13 (.t 5)), .s (.ia 14 (.int .i64) (.t 12) (.t 13)), .s (.load 15 false 1 (.t 14)), .s (.callv (some 16) (.t 11) [(.t 15)])]) (.cond (.t 16) (.seq (.reg [.s (.mv 17 (.t 5)), .s (.mv 4 (.t 17))]) (.ret)) (.skip))))) (.reg [.s (.bin 18 .add (.t 8) (.k (.v (.c (.int .i64 1))))), .s (.mv 8 (.t 18))])))
def pf_slices_IndexFunc_int : PF := ⟨[.t 4], .seq (.reg [.s (.mv 4 (.k (.v (.c (.int .i64 0)))))]) (.seq (.seq (.reg [.s (.mv 6 (.t 0)), .s (.len 7 false (.t 6)), .s (.mv 8 (.k (.v (.c (.int .i64 0)))))]) (.blk 0 (.loop [0, 1, 7, 8] lb_slices_IndexFunc_int_0))) (.seq (.reg [.s (.mv 4 (.k (.v (.c (.int .i64 (-1))))))]) (.ret)))⟩
def c_slices_IndexFunc_int__impl_nextPlaces_1 : Fun := ⟨51, [], fun ts K => as2 ts fun t0 t1 => arC (pL (.int .i64)) t0 fun xs => arF1 47 (pL .inst) t1 fun g => chk (xs.length ≤ 2147483647 ∧ g.length ≤ 2147483647) (K (tN (idxOf (fun n => !inR n 0 (g.length - 1)) xs)) [])⟩
theorem run_slices_IndexFunc_int__impl_nextPlaces_1 (xs : List (FT.Ty (.int .i64))) (g : List (FT.Ty .inst)) (hpre : xs.length ≤ 2147483647 ∧ g.length ≤ 2147483647) : runK [c_impl_nextPlaces_1] (xs.length + 1) [] pf_slices_IndexFunc_int [tL false (.int .i64) xs, .fn 47 [.ptr false 0 [tl false .inst g]]] fun r o => r = tN (idxOf (fun n => !inR n 0 (g.length - 1)) xs) ∧ o = [] := by
  conv => whnf
  refine loop (α := Nat) (fun i => ⟨[(0, .v (.c (.sl false (.int .i64) 0))), (1, .fn 47 [.c (.ptr 1 0)]), (7, .v (.c (.int .i64 (xs.length : Int)))), (8, .v (.c (.int .i64 (i : Int))))], [(2, some (.flat false .inst none g)), (1, some (.box false [.sl false .inst 2])), (0, some (.flat false (.int .i64) none xs))], nums.tail.tail.tail, [], false, []⟩)
      (fun i => i ≤ xs.length ∧ idxOf (fun n => !inR n 0 (g.length - 1)) xs = idxGo (fun n => !inR n 0 (g.length - 1)) (xs.drop i) i) (fun i => xs.length - i) (fun i R hI hR => ?_) 0 _ ⟨by simp, rfl⟩ (by simp)
  obtain ⟨hi, hx⟩ := hI
  conv => whnf
  refine sel_i (fun h2 => ?_) (fun h2 => ?_)
  · have hlt : i < xs.length := by simp at h2; omega
    conv => whnf
    repeat (refine chk_i (by first | omega | (simp; omega)) ?_; conv => whnf)
    refine sel_i (fun h3 => ?_) (fun h3 => ?_)
    · conv => whnf
      rw [hx, idxGo_yes (z := FT.zero (.int .i64)) hlt (by first | (simp only [keyEq] at h3; exact h3) | (simpa using h3))]
      exact ⟨rfl, rfl⟩
    · conv => whnf
      rw [wrap_id (n := (i : Int) + 1) (by omega) (by omega)]
      exact hR (i + 1) ⟨by omega, by rw [hx, idxGo_no (z := FT.zero (.int .i64)) hlt (by first | (simp only [keyEq] at h3; exact h3) | (simpa using h3))]⟩ (by omega)
  · conv => whnf
    rw [hx, idxGo_end (by simp at h2; omega)]
    exact ⟨rfl, rfl⟩
theorem ok_slices_IndexFunc_int__impl_nextPlaces_1 : FunOk Try.prog c_slices_IndexFunc_int__impl_nextPlaces_1 := funOk (E := [c_impl_nextPlaces_1]) (envOk_cons ok_impl_nextPlaces_1 (envOk_nil)) mixd Try.func51 (pf := pf_slices_IndexFunc_int) (by kernel_rfl) fun ts K h => by
  obtain ⟨t0, t1, e0, h⟩ := as2_out h
  subst e0
  obtain ⟨xs, e1, hq⟩ := arC_out (rd_l (.int .i64)) h
  clear h
  subst e1
  have h := hq
  clear hq
  obtain ⟨g, e1, hq⟩ := arF1_out (rd_l .inst) h
  clear h
  subst e1
  have h := hq
  clear hq
  obtain ⟨hpre, h⟩ := chk_o h
  exact ⟨_, _, h, Nat.le_of_ble_eq_true (show Nat.ble 2 Try.f51.ntmps = true by kernel_rfl), _, run_slices_IndexFunc_int__impl_nextPlaces_1 xs g hpre⟩

theorem filter_snoc {α : Type} {s : List α} {m : Nat} {z : α} (p : α → Bool) (h : m < s.length) : (s.take (m + 1)).filter p = if p (s.getD m z) then (s.take m).filter p ++ [s.getD m z] else (s.take m).filter p := by
  rw [take_snoc (z := z) h, List.filter_append]
  generalize s.getD m z = v
  cases hp : p v <;> simp [hp]
theorem filter_all {α : Type} {s : List α} {p : α → Bool} (z : α) {m : Nat} (hm : m ≤ s.length) (h : ∀ j, j < m → p (s.getD j z) = true) : (s.take m).filter p = s.take m := by
  rw [List.filter_eq_self]
  intro a ha
  obtain ⟨j, hj, e⟩ := List.mem_iff_getElem.1 ha
  rw [List.length_take] at hj
  have := h j (by omega)
  rw [List.getD_eq_getElem?_getD, List.getElem?_eq_getElem (by omega)] at this
  rw [List.getElem_take] at e
  rw [← e]; exact this

def lb_slices_DeleteFunc_int_0 : PC := .seq (.seq (.reg [.s (.mv 16 (.t 6)), .s (.mv 17 (.t 0)), .s (.len 18 false (.t 17)), .s (.bin 19 .lss (.t 16) (.t 18))]) (.cond (.t 19) (.skip) (.exit 0))) (.seq (.blk 1 (.seq (.reg [.s (.mv 22 (.t 0)), .s (.mv 23 (.t 6)), .s (.ia 24 (.int .i64) (.t 22) (.t 23)), .s (.load 25 false 1 (.t 24)), .s (.mv 7 (.t 25))]) (.seq (.reg [.s (.mv 26 (.t 1)), .s (.mv 27 (.t 7)), .s (.callv (some 28) (.t 26) [(.t 27)]), .s (.bnot 29 (.t 28))]) (.cond (.t 29) (.seq (.reg [.s (.mv 30 (.t 0)), .s (.mv 31 (.t 5)), .s (.mv 32 (.t 7)), .s (.ia 33 (.int .i64) (.t 30) (.t 31)), .s (.store 1 (.t 33) (.t 32))]) (.reg [.s (.mv 34 (.t 5)), .s (.bin 35 .add (.t 34) (.k (.v (.c (.int .i64 1))))), .s (.mv 5 (.t 35))])) (.skip))))) (.reg [.s (.mv 20 (.t 6)), .s (.bin 21 .add (.t 20) (.k (.v (.c (.int .i64 1))))), .s (.mv 6 (.t 21))]))
def pf_slices_DeleteFunc_int : PF := ⟨[.t 4], .seq (.reg [.s (.mv 4 (.k (.v (.c (.nils (.int .i64))))))]) (.seq (.reg [.s (.mv 8 (.t 0)), .s (.mv 9 (.t 1)), .s (.call (some 10) 51 [(.t 8), (.t 9)]), .s (.mv 5 (.t 10))]) (.seq (.seq (.reg [.s (.mv 11 (.t 5)), .s (.bin 12 .eql (.t 11) (.k (.v (.c (.int .i64 (-1))))))]) (.cond (.t 12) (.seq (.reg [.s (.mv 13 (.t 0)), .s (.mv 4 (.t 13))]) (.ret)) (.skip))) (.seq (.seq (.reg [.s (.mv 14 (.t 5)), .s (.bin 15 .add (.t 14) (.k (.v (.c (.int .i64 1))))), .s (.mv 6 (.t 15))]) (.blk 0 (.loop [0, 1, 5, 6] lb_slices_DeleteFunc_int_0))) (.seq (.reg [.s (.mv 36 (.t 0)), .s (.mv 37 (.t 5)), .s (.slc 38 (.int .i64) (.t 36) (some (.t 37)) none), .s (.clr (.int .i64) (.t 38))]) (.seq (.reg [.s (.mv 39 (.t 0)), .s (.mv 40 (.t 5)), .s (.slc 41 (.int .i64) (.t 39) none (some (.t 40))), .s (.mv 4 (.t 41))]) (.ret))))))⟩
def c_slices_DeleteFunc_int__impl_nextPlaces_1 : Fun := ⟨45, [true, false], fun ts K => as2 ts fun t0 t1 => arC (pO (.int .i64)) t0 fun s => arF1 47 (pL .inst) t1 fun g => chk (s.length ≤ 1000000 ∧ g.length ≤ 2147483647) (K (tL true (.int .i64) (s.filter (fun n => inR n 0 (g.length - 1)))) ([.v (.c .unk)]))⟩
theorem run_slices_DeleteFunc_int__impl_nextPlaces_1 (s : List (FT.Ty (.int .i64))) (g : List (FT.Ty .inst)) (hpre : s.length ≤ 1000000 ∧ g.length ≤ 2147483647) : runK [c_slices_IndexFunc_int__impl_nextPlaces_1, c_impl_nextPlaces_1] (s.length + 1) [true, false] pf_slices_DeleteFunc_int [tL true (.int .i64) s, .fn 47 [.ptr false 0 [tl false .inst g]]] fun r o => r = tL true (.int .i64) (s.filter (fun n => inR n 0 (g.length - 1))) ∧ o = [.v (.c .unk)] := by
  obtain ⟨l1, l2⟩ := hpre
  generalize hF : s.length + 1 = FU
  have hc := idxOf_cases (fun n => !inR n 0 (g.length - 1)) (FT.zero (.int .i64)) s
  have hm1 : -1 ≤ idxOf (fun n => !inR n 0 (g.length - 1)) s := (idxGo_lt (fun n => !inR n 0 (g.length - 1)) s 0).1
  conv => whnf
  refine chk_i ⟨by omega, l2⟩ ?_
  generalize idxOf (fun n => !inR n 0 (g.length - 1)) s = I at hc hm1 ⊢
  conv => whnf
  refine sel_i (fun h => ?_) (fun h => ?_)
  · conv => whnf
    have h : I = -1 := by simpa using h
    rcases hc with ⟨_, h2⟩ | ⟨k, e, _⟩
    · have e := filter_all (p := fun n => inR n 0 (g.length - 1)) (FT.zero (.int .i64)) (Nat.le_refl s.length) (fun j hj => by simpa using h2 j hj)
      rw [List.take_length] at e
      rw [e]; exact ⟨rfl, rfl⟩
    · omega
  have h : ¬ I = -1 := by simpa using h
  rcases hc with ⟨hn, h2⟩ | ⟨k, rfl, hk, hk1, hk2⟩
  · exfalso; omega
  as_aux_lemma =>
    have w1 : IntKind.i64.wrap ((k : Int) + 1) = ((k + 1 : Nat) : Int) := by rw [wrap_id (by omega) (by omega)]; rfl
    conv => whnf
    rw [w1]
    refine loop (α := Nat × Nat × List Int) (fun p => ⟨[(0, .v (.c (.sl false (.int .i64) 0))), (1, .fn 47 [.c (.ptr 1 0)]), (5, .v (.c (.int .i64 (p.1 : Int)))), (6, .v (.c (.int .i64 (p.2.1 : Int))))],
          [(2, some (.flat false .inst none g)), (1, some (.box false [.sl false .inst 2])), (0, some (.flat true (.int .i64) none p.2.2))], nums.tail.tail.tail, [.v (.c (.sl false (.int .i64) 0))], false, []⟩)
      (fun p => p.1 < p.2.1 ∧ p.2.1 ≤ s.length ∧ p.2.2.length = s.length ∧ p.2.2.take p.1 = (s.take p.2.1).filter (fun n => inR n 0 (g.length - 1)) ∧ p.2.2.drop p.2.1 = s.drop p.2.1) (fun p => s.length - p.2.1) (fun p R hI hR => ?_) (k, k + 1, s) _
      ⟨by simp, by dsimp only; omega, rfl, by
        dsimp only
        rw [filter_snoc (z := FT.zero (.int .i64)) _ hk, if_neg (by simpa using hk1)]
        exact (filter_all (FT.zero (.int .i64)) (by omega) (fun j hj => by simpa using hk2 j hj)).symm, rfl⟩ (by dsimp only; omega)
    obtain ⟨a, b, c⟩ := p
    obtain ⟨h1, h2, h3, h4, h5⟩ := hI
    dsimp only at h1 h2 h3 h4 h5 ⊢
    have w2 : IntKind.i64.wrap ((a : Int) + 1) = ((a + 1 : Nat) : Int) := by rw [wrap_id (by omega) (by omega)]; rfl
    have w3 : IntKind.i64.wrap ((b : Int) + 1) = ((b + 1 : Nat) : Int) := by rw [wrap_id (by omega) (by omega)]; rfl
    conv => whnf
    refine sel_i (fun h => ?_) (fun h => ?_)
    · have hb : b < s.length := by have := of_decide_eq_true h; omega
      clear h
      conv => whnf
      refine chk_i ⟨by omega, by omega⟩ ?_
      conv => whnf
      refine chk_i (by rw [Int.toNat_natCast]; omega) ?_
      conv => whnf
      refine chk_i l2 ?_
      have g1 := dropK_getD (FT.zero (.int .i64)) h5 (show b ≤ b by omega)
      rw [Int.toNat_natCast, g1]
      have h4' := filter_snoc (z := FT.zero (.int .i64)) (fun n => inR n 0 (g.length - 1)) hb
      generalize hv : s.getD b (FT.zero (.int .i64)) = v at h4' g1 ⊢
      generalize inR v 0 (g.length - 1) = q at h4' ⊢
      conv => whnf
      refine sel_i (fun h => ?_) (fun h => ?_)
      · have hq : q = true := by simpa using h
        rw [hq, if_pos rfl] at h4'
        conv => whnf
        refine chk_i ⟨by omega, by omega⟩ ?_
        conv => whnf
        refine chk_i (by rw [Int.toNat_natCast]; omega) ?_
        conv => whnf
        rw [w2, w3, Int.toNat_natCast]
        exact hR (a + 1, b + 1, c.set a v) ⟨by dsimp only; omega, by dsimp only; omega, by dsimp only; rw [List.length_set]; exact h3, by dsimp only; rw [take_set_snoc (by omega), h4, h4'], by dsimp only; rw [List.drop_set, if_pos (by omega)]; exact (by have := congrArg (List.drop 1) h5; simpa [List.drop_drop, Nat.add_comm] using this)⟩ (by dsimp only; omega)
      · have hq : q = false := by simpa using h
        rw [hq, if_neg (by decide)] at h4'
        conv => whnf
        rw [w3]
        exact hR (a, b + 1, c) ⟨by dsimp only; omega, by dsimp only; omega, h3, by dsimp only; rw [h4, h4'], by dsimp only; exact (by have := congrArg (List.drop 1) h5; simpa [List.drop_drop, Nat.add_comm] using this)⟩ (by dsimp only; omega)
    · have hb : b = s.length := by have := of_decide_eq_false h; omega
      clear h
      conv => whnf
      refine chk_i ⟨by omega, by omega⟩ ?_
      conv => whnf
      refine chk_i ?_ ?_
      · rw [Int.toNat_natCast, over_len0 _ _ _ (by rw [List.length_replicate]; omega)]; omega
      conv => whnf
      rw [Int.toNat_natCast, over_take _ _ _ (by omega), h4, List.take_of_length_le (by omega)]
      exact ⟨rfl, rfl⟩
theorem ok_slices_DeleteFunc_int__impl_nextPlaces_1 : FunOk Try.prog c_slices_DeleteFunc_int__impl_nextPlaces_1 := funOk (E := [c_slices_IndexFunc_int__impl_nextPlaces_1, c_impl_nextPlaces_1]) (envOk_cons ok_slices_IndexFunc_int__impl_nextPlaces_1 (envOk_cons ok_impl_nextPlaces_1 (envOk_nil))) mixd Try.func45 (pf := pf_slices_DeleteFunc_int) (by kernel_rfl) fun ts K h => by
  obtain ⟨t0, t1, e0, h⟩ := as2_out h
  subst e0
  obtain ⟨s, e1, hq⟩ := arC_out (rd_o (.int .i64)) h
  clear h
  subst e1
  have h := hq
  clear hq
  obtain ⟨g, e1, hq⟩ := arF1_out (rd_l .inst) h
  clear h
  subst e1
  have h := hq
  clear hq
  obtain ⟨hpre, h⟩ := chk_o h
  exact ⟨_, _, h, Nat.le_of_ble_eq_true (show Nat.ble 2 Try.f45.ntmps = true by kernel_rfl), _, run_slices_DeleteFunc_int__impl_nextPlaces_1 s g hpre⟩

/-! where a place goes on -/
def rangeI (n : Nat) : List Int := (List.range n).map (fun j : Nat => (j : Int))
theorem rangeI_succ (n : Nat) : rangeI (n + 1) = rangeI n ++ [(n : Int)] := by simp [rangeI, List.range_succ]
theorem rangeI_len (n : Nat) : (rangeI n).length = n := by simp [rangeI]
theorem rangeI_mem {n : Nat} {x : Int} : x ∈ rangeI n ↔ 0 ≤ x ∧ x < n := by
  unfold rangeI
  rw [List.mem_map]
  constructor
  · rintro ⟨j, hj, rfl⟩
    have := List.mem_range.1 hj
    omega
  · rintro ⟨h0, h1⟩
    exact ⟨x.toNat, List.mem_range.2 (by omega), by omega⟩
theorem rangeI_asc (n : Nat) : Asc (rangeI n) := by
  induction n with
  | zero => exact List.Pairwise.nil
  | succ n ih =>
    rw [rangeI_succ]
    refine List.pairwise_append.2 ⟨ih, List.pairwise_singleton _ _, fun a ha b hb => ?_⟩
    have := (rangeI_mem.1 ha).2
    have hb := List.mem_singleton.1 hb
    omega
def atI (l : List Inst) (a : Int) : Inst := l.getD a.toNat (FT.zero .inst)
def goesB (x : Inst) (a i : Int) : Bool := (i == a + 1 && x.op != 15) || (x.op == 13 && i == a + x.n) || x.op == 12
def nextI (l : List Inst) (a : Int) : List Int := (rangeI l.length).filter (goesB (atI l a) a)
def nextP (l : List Inst) (a : Int) : List Int := if codeOk l && inR a 0 (l.length - 1) then nextI l a else []
theorem codeOk_out {l : List Inst} (h : codeOk l = true) : 1 ≤ l.length ∧ l.length ≤ 48 ∧ ∀ x ∈ l, insOk x = true := by
  simp only [codeOk, Bool.and_eq_true, List.all_eq_true] at h
  have := inR_t.1 h.1
  exact ⟨by omega, by omega, h.2⟩
theorem nextI_len (l : List Inst) (a : Int) : (nextI l a).length ≤ l.length := by
  unfold nextI
  have := List.length_filter_le (goesB (atI l a) a) (rangeI l.length)
  rw [rangeI_len] at this
  exact this
theorem insOk_n {x : Inst} (h : insOk x = true) : -128 ≤ x.n ∧ x.n ≤ 127 := by
  simp only [insOk, Bool.and_eq_true] at h
  exact inR_t.1 h.1.2
theorem atI_ok {l : List Inst} (h : ∀ x ∈ l, insOk x = true) {a : Int} (h0 : 0 ≤ a) (h1 : a < l.length) : insOk (atI l a) = true := by
  unfold atI
  rw [List.getD_eq_getElem?_getD, List.getElem?_eq_getElem (by omega)]
  exact h _ (List.getElem_mem _)
theorem next_halt {l : List Inst} {a : Int} (h : (atI l a).op = 15) : nextI l a = [] := by
  unfold nextI
  rw [List.filter_eq_nil_iff]
  intro i _
  simp [goesB, h]
theorem next_jump {l : List Inst} {a : Int} (h : (atI l a).op = 12) : nextI l a = rangeI l.length := by
  unfold nextI
  rw [List.filter_eq_self]
  intro i _
  simp [goesB, h]
theorem asc_filter {l : List Int} (p : Int → Bool) (h : Asc l) : Asc (l.filter p) := List.Pairwise.filter p h
theorem next_set {l : List Inst} {a : Int} {xs : List Int} (h : ∀ i : Int, 0 ≤ i → i < l.length → (goesB (atI l a) a i = true ↔ i ∈ xs)) : (setI xs).filter (fun n => inR n 0 (l.length - 1)) = nextI l a := by
  refine asc_ext (asc_filter _ (setI_asc xs)) (asc_filter _ (rangeI_asc _)) fun i => ?_
  unfold nextI
  rw [List.mem_filter, List.mem_filter, setI_mem, rangeI_mem]
  constructor
  · rintro ⟨h1, h2⟩
    have h2 := inR_t.1 h2
    exact ⟨⟨by omega, by omega⟩, (h i (by omega) (by omega)).2 h1⟩
  · rintro ⟨⟨h1, h2⟩, h3⟩
    exact ⟨(h i h1 h2).1 h3, inR_t.2 ⟨by omega, by omega⟩⟩
theorem next_zero {l : List Inst} {a : Int} (h : (atI l a).op = 13) : (setI [a + (atI l a).n, a + 1]).filter (fun n => inR n 0 (l.length - 1)) = nextI l a :=
  next_set fun i _ _ => by simp [goesB, h, or_comm]
theorem next_one {l : List Inst} {a : Int} (h : ¬ (atI l a).op = 15) (h2 : ¬ (atI l a).op = 12) (h3 : ¬ (atI l a).op = 13) : (setI [a + 1]).filter (fun n => inR n 0 (l.length - 1)) = nextI l a :=
  next_set fun i _ _ => by simp [goesB, h, h2, h3]

def lb_impl_nextPlaces_0 : PC := .seq (.reg [.s (.bin 23 .lss (.t 22) (.t 21))]) (.seq (.cond (.t 23) (.skip) (.exit 1)) (.seq (.blk 2 (.seq (.reg [.s (.mv 24 (.t 22)), .s (.mv 7 (.t 24))]) (.reg [.s (.mv 25 (.t 5)), .s (.mv 26 (.t 7)), .s (.bs 27 (.int .i64) [(.t 26)]), .s (.app 28 (.int .i64) (.t 25) (.t 27)), .s (.mv 5 (.t 28))]))) (.reg [.s (.bin 29 .add (.t 22) (.k (.v (.c (.int .i64 1))))), .s (.mv 22 (.t 29))])))
def pf_impl_nextPlaces : PF := ⟨[.t 4], .seq (.reg [.s (.box 2 (.t 0)), .s (.mv 4 (.k (.v (.c (.nils (.int .i64))))))]) (.seq (.reg [.s (.bs 8 (.int .i64) []), .s (.mv 5 (.t 8))]) (.seq (.reg [.s (.load 9 false 1 (.t 2)), .s (.mv 10 (.t 1)), .s (.ia 11 .inst (.t 9) (.t 10)), .s (.load 12 true 5 (.t 11)), .s (.alloc 6 [.int .i64 0, .int .i64 0, .int .i64 0, .int .i64 0, .int .i64 0]), .s (.store 5 (.t 6) (.t 12))]) (.seq (.seq (.reg [.s (.fa 13 (.t 6) 0), .s (.load 14 false 1 (.t 13))]) (.blk 0 (.seq (.reg [.s (.bin 16 .eql (.t 14) (.k (.v (.c (.int .i64 15))))), .s (.mv 15 (.t 16))]) (.cond (.t 15) (.seq (.reg [.s (.mv 17 (.t 5)), .s (.mv 4 (.t 17))]) (.ret)) (.seq (.reg [.s (.bin 19 .eql (.t 14) (.k (.v (.c (.int .i64 12))))), .s (.mv 18 (.t 19))]) (.cond (.t 18) (.seq (.seq (.reg [.s (.load 20 false 1 (.t 2)), .s (.len 21 false (.t 20)), .s (.mv 22 (.k (.v (.c (.int .i64 0)))))]) (.blk 1 (.loop [5, 21, 22] lb_impl_nextPlaces_0))) (.seq (.reg [.s (.mv 30 (.t 5)), .s (.mv 4 (.t 30))]) (.ret))) (.seq (.reg [.s (.bin 32 .eql (.t 14) (.k (.v (.c (.int .i64 13))))), .s (.mv 31 (.t 32))]) (.cond (.t 31) (.reg [.s (.mv 33 (.t 5)), .s (.mv 34 (.t 1)), .s (.fa 35 (.t 6) 4), .s (.load 36 false 1 (.t 35)), .s (.bin 37 .add (.t 34) (.t 36)), .s (.bs 38 (.int .i64) [(.t 37)]), .s (.app 39 (.int .i64) (.t 33) (.t 38)), .s (.mv 5 (.t 39))]) (.skip))))))))) (.seq (.reg [.s (.mv 40 (.t 5)), .s (.mv 41 (.t 1)), .s (.bin 42 .add (.t 41) (.k (.v (.c (.int .i64 1))))), .s (.bs 43 (.int .i64) [(.t 42)]), .s (.app 44 (.int .i64) (.t 40) (.t 43)), .s (.mv 5 (.t 44))]) (.seq (.reg [.s (.mv 45 (.t 5)), .s (.call (some 46) 44 [(.t 45)])]) (.seq (.reg [.s (.mv 47 (.t 5)), .s (.call (some 48) 46 [(.t 47)]), .s (.mkf 49 47 [(.t 2)]), .s (.call (some 50) 45 [(.t 48), (.t 49)]), .s (.mv 4 (.t 50))]) (.ret)))))))⟩
def c_impl_nextPlaces : Fun := ⟨36, [], fun ts K => as2 ts fun t0 t1 => arC (pL .inst) t0 fun l => arC (pI .i64) t1 fun a => chk (0 ≤ a ∧ a < l.length ∧ l.length ≤ 1000000 ∧ insOk (atI l a) = true) (K (tL true (.int .i64) (nextI l a)) [])⟩
theorem run_impl_nextPlaces (l : List (FT.Ty .inst)) (a : Int) (hpre : 0 ≤ a ∧ a < l.length ∧ l.length ≤ 1000000 ∧ insOk (atI l a) = true) : runK [c_slices_Sort_int, c_slices_DeleteFunc_int__impl_nextPlaces_1, c_slices_Compact_int, c_impl_nextPlaces_1] (l.length + 1) [] pf_impl_nextPlaces [tL false .inst l, tI .i64 a] fun r o => r = tL true (.int .i64) (nextI l a) ∧ o = [] := by
  obtain ⟨h0, h1, h2, h3⟩ := hpre
  have hn := insOk_n h3
  have w1 : IntKind.i64.wrap (a + 1) = a + 1 := wrap_id (by omega) (by omega)
  have w2 : IntKind.i64.wrap (a + (atI l a).n) = a + (atI l a).n := wrap_id (by omega) (by omega)
  have e1 := @next_halt l a
  have e2 := @next_jump l a
  have e3 := @next_zero l a
  have e4 := @next_one l a
  unfold atI at hn w2 e1 e2 e3 e4
  conv => whnf
  repeat' (first | (refine sel_i (fun h => ?_) (fun h => ?_) <;> conv => whnf) | (refine chk_c ?_ ?_ <;> conv => whnf) | (refine And.intro ?_ rfl) | (refine And.intro ?_ ?_ <;> conv => whnf))
  all_goals (simp only [w1, w2, List.nil_append, List.cons_append, beq_iff_eq, beq_eq_false_iff_ne, ne_eq] at *)
  all_goals first
    | (refine ⟨?_⟩; omega)
    | (refine ⟨?_⟩; rw [sortI_len]; done)
    | (refine ⟨?_⟩; rw [sortI_len]; simp only [List.length_cons, List.length_nil]; omega)
    | (refine ⟨?_⟩; refine ⟨Nat.le_trans (setI_len _) ?_, by omega⟩; simp only [List.length_cons, List.length_nil]; omega)
    | (refine ⟨?_⟩; simp only [List.length_cons, List.length_nil]; omega)
    | (rw [e1 (by assumption)]; done)
    | (rw [show compI (sortI _) = setI _ from rfl, e3 (by assumption)]; done)
    | (rw [show compI (sortI _) = setI _ from rfl, e4 (by assumption) (by assumption) (by assumption)]; done)
    | skip
  rw [e2 (by assumption)]
  refine loop (α := Nat) (fun k => ⟨[(5, .v (.c (.sl true (.int .i64) 0))), (21, .v (.c (.int .i64 (l.length : Int)))), (22, .v (.c (.int .i64 (k : Int))))], [(0, some (.flat true (.int .i64) none (rangeI k)))], nums.tail, [], false, []⟩)
    (fun k => k ≤ l.length) (fun k => l.length - k) (fun k R hI hR => ?_) 0 _ (by omega) (by omega)
  have hl := rangeI_len k
  have w3 : IntKind.i64.wrap ((k : Int) + 1) = ((k + 1 : Nat) : Int) := by rw [wrap_id (by omega) (by omega)]; rfl
  clear e1 e2 e3 e4
  conv => whnf
  repeat' (first | (refine sel_i (fun h => ?_) (fun h => ?_) <;> conv => whnf) | (refine chk_c ?_ ?_ <;> conv => whnf) | (refine And.intro ?_ rfl) | (refine And.intro ?_ ?_ <;> conv => whnf))
  all_goals (simp only [w3, decide_eq_true_eq, decide_eq_false_iff_not] at *)
  all_goals first
    | (refine ⟨?_⟩; simp only [List.length_cons, List.length_nil]; omega)
    | (rw [← rangeI_succ]; exact hR (k + 1) (by omega) (by omega))
    | (rw [show k = l.length by omega]; done)
    | trace_state
theorem ok_impl_nextPlaces : FunOk Try.prog c_impl_nextPlaces := funOk (E := [c_slices_Sort_int, c_slices_DeleteFunc_int__impl_nextPlaces_1, c_slices_Compact_int, c_impl_nextPlaces_1]) (envOk_cons ok_slices_Sort_int (envOk_cons ok_slices_DeleteFunc_int__impl_nextPlaces_1 (envOk_cons ok_slices_Compact_int (envOk_cons ok_impl_nextPlaces_1 (envOk_nil))))) mixd Try.func36 (pf := pf_impl_nextPlaces) (by kernel_rfl) fun ts K h => by
  obtain ⟨t0, t1, e0, h⟩ := as2_out h
  subst e0
  obtain ⟨l, e1, hq⟩ := arC_out (rd_l .inst) h
  clear h
  subst e1
  have h := hq
  clear hq
  obtain ⟨a, e1, hq⟩ := arC_out (rd_int .i64) h
  clear h
  subst e1
  have h := hq
  clear hq
  obtain ⟨hpre, h⟩ := chk_o h
  exact ⟨_, _, h, Nat.le_of_ble_eq_true (show Nat.ble 2 Try.f36.ntmps = true by kernel_rfl), _, run_impl_nextPlaces l a hpre⟩

def lb_spec_NextPlaces_0 : PC := .seq (.seq (.reg [.s (.mv 26 (.t 7)), .s (.mv 27 (.t 0)), .s (.len 28 false (.t 27)), .s (.bin 29 .lss (.t 26) (.t 28))]) (.cond (.t 29) (.skip) (.exit 0))) (.seq (.blk 1 (.seq (.reg [.s (.mv 32 (.t 7)), .s (.mv 33 (.t 1)), .s (.bin 34 .add (.t 33) (.k (.v (.c (.int .i64 1))))), .s (.bin 35 .eql (.t 32) (.t 34)), .s (.mv 36 (.t 35)), .g 36 true (some 37) (.fa 37 (.t 6) 0), .g 36 true (some 38) (.load 38 false 1 (.t 37)), .g 36 true (some 39) (.bin 39 .neq (.t 38) (.k (.v (.c (.int .i64 15))))), .s (.pick 40 (.t 36) (.t 39) (.k (.v (.c .ff)))), .s (.mv 8 (.t 40))]) (.seq (.seq (.reg [.s (.fa 41 (.t 6) 0), .s (.load 42 false 1 (.t 41)), .s (.bin 43 .eql (.t 42) (.k (.v (.c (.int .i64 13))))), .s (.mv 44 (.t 43)), .g 44 true (some 45) (.mv 45 (.t 7)), .g 44 true (some 46) (.mv 46 (.t 1)), .g 44 true (some 47) (.fa 47 (.t 6) 4), .g 44 true (some 48) (.load 48 false 1 (.t 47)), .g 44 true (some 49) (.bin 49 .add (.t 46) (.t 48)), .g 44 true (some 50) (.bin 50 .eql (.t 45) (.t 49)), .s (.pick 51 (.t 44) (.t 50) (.k (.v (.c .ff)))), .s (.mv 52 (.t 51)), .g 52 false (some 53) (.fa 53 (.t 6) 0), .g 52 false (some 54) (.load 54 false 1 (.t 53)), .g 52 false (some 55) (.bin 55 .eql (.t 54) (.k (.v (.c (.int .i64 12))))), .s (.pick 56 (.t 52) (.k (.v (.c .tt))) (.t 55))]) (.cond (.t 56) (.reg [.s (.mv 8 (.k (.v (.c .tt))))]) (.skip))) (.seq (.reg [.s (.mv 57 (.t 8))]) (.cond (.t 57) (.reg [.s (.mv 58 (.t 5)), .s (.mv 59 (.t 7)), .s (.bs 60 (.int .i64) [(.t 59)]), .s (.app 61 (.int .i64) (.t 58) (.t 60)), .s (.mv 5 (.t 61))]) (.skip)))))) (.reg [.s (.mv 30 (.t 7)), .s (.bin 31 .add (.t 30) (.k (.v (.c (.int .i64 1))))), .s (.mv 7 (.t 31))]))
def pf_spec_NextPlaces : PF := ⟨[.t 4], .seq (.reg [.s (.mv 4 (.k (.v (.c (.nils (.int .i64))))))]) (.seq (.reg [.s (.bs 9 (.int .i64) []), .s (.mv 5 (.t 9))]) (.seq (.seq (.reg [.s (.mv 10 (.t 0)), .s (.call (some 11) 19 [(.t 10)]), .s (.bnot 12 (.t 11)), .s (.mv 13 (.t 12)), .g 13 false (some 14) (.mv 14 (.t 1)), .g 13 false (some 15) (.mv 15 (.t 0)), .g 13 false (some 16) (.len 16 false (.t 15)), .g 13 false (some 17) (.bin 17 .sub (.t 16) (.k (.v (.c (.int .i64 1))))), .g 13 false (some 18) (.call (some 18) 27 [(.t 14), (.k (.v (.c (.int .i64 0)))), (.t 17)]), .g 13 false (some 19) (.bnot 19 (.t 18)), .s (.pick 20 (.t 13) (.k (.v (.c .tt))) (.t 19))]) (.cond (.t 20) (.seq (.reg [.s (.mv 21 (.t 5)), .s (.mv 4 (.t 21))]) (.ret)) (.skip))) (.seq (.reg [.s (.mv 22 (.t 0)), .s (.mv 23 (.t 1)), .s (.ia 24 .inst (.t 22) (.t 23)), .s (.load 25 true 5 (.t 24)), .s (.alloc 6 [.int .i64 0, .int .i64 0, .int .i64 0, .int .i64 0, .int .i64 0]), .s (.store 5 (.t 6) (.t 25))]) (.seq (.seq (.reg [.s (.mv 7 (.k (.v (.c (.int .i64 0)))))]) (.blk 0 (.loop [0, 1, 5, 6, 7] lb_spec_NextPlaces_0))) (.seq (.reg [.s (.mv 62 (.t 5)), .s (.mv 4 (.t 62))]) (.ret))))))⟩
def c_spec_NextPlaces : Fun := ⟨29, [], fun ts K => as2 ts fun t0 t1 => arC (pL .inst) t0 fun l => arC (pI .i64) t1 fun a => chk (l.length ≤ 2147483647) (K (tL true (.int .i64) (nextP l a)) [])⟩
theorem run_spec_NextPlaces (l : List (FT.Ty .inst)) (a : Int) (hpre : l.length ≤ 2147483647) : runK [c_spec_CodeOk, c_spec_l1In] (l.length + 1) [] pf_spec_NextPlaces [tL false .inst l, tI .i64 a] fun r o => r = tL true (.int .i64) (nextP l a) ∧ o = [] := by
  have w1 : IntKind.i64.wrap ((l.length : Int) - 1) = (l.length : Int) - 1 := wrap_id (by omega) (by omega)
  conv => whnf
  repeat' (first | (refine sel_i (fun h => ?_) (fun h => ?_) <;> conv => whnf) | (refine chk_c ?_ ?_ <;> conv => whnf) | (refine And.intro ?_ rfl) | (refine And.intro ?_ ?_ <;> conv => whnf))
  all_goals (try simp only [w1, Bool.not_eq_true', Bool.not_eq_false'] at *)
  all_goals first
    | (refine ⟨?_⟩; omega)
    | (unfold nextP; simp only [*, Bool.and_true, Bool.and_false, Bool.false_and, Bool.true_and, Bool.false_eq_true, if_true, if_false]; done)
    | (refine ⟨?_⟩; have hr := inR_t.1 (by assumption); omega)
    | skip
  have hc := codeOk_out (by assumption)
  have hr := inR_t.1 (by assumption)
  have hn := insOk_n (atI_ok hc.2.2 (a := a) (by omega) (by omega))
  have e : nextP l a = (rangeI l.length).filter (goesB (atI l a) a) := by
    unfold nextP; simp only [*, Bool.and_true, if_true]; rfl
  rw [e]
  rw [show l.getD a.toNat FT.inst.zero = atI l a from rfl]
  generalize atI l a = x at hn ⊢
  have w2 : IntKind.i64.wrap (a + 1) = a + 1 := wrap_id (by omega) (by omega)
  have w3 : IntKind.i64.wrap (a + x.n) = a + x.n := wrap_id (by omega) (by omega)
  refine loop (α := Nat) (fun k => ⟨[(0, .v (.c (.sl false .inst 0))), (1, .v (.c (.int .i64 a))), (5, .v (.c (.sl true (.int .i64) 1))), (6, .v (.c (.ptr 2 0))), (7, .v (.c (.int .i64 (k : Int))))],
      [(2, some (.box true [.int .i64 x.op, .int .i64 x.r, .int .i64 x.a, .int .i64 x.b, .int .i64 x.n])), (1, some (.flat true (.int .i64) none ((rangeI k).filter (goesB x a)))), (0, some (.flat false .inst none l))], nums.tail.tail.tail, [], false, []⟩)
    (fun k => k ≤ l.length) (fun k => l.length - k) (fun k R hI hR => ?_) 0 _ (by omega) (by omega)
  have hl := List.length_filter_le (goesB x a) (rangeI k)
  rw [rangeI_len] at hl
  have w4 : IntKind.i64.wrap ((k : Int) + 1) = ((k + 1 : Nat) : Int) := by rw [wrap_id (by omega) (by omega)]; rfl
  have gt : goesB x a k = true → (rangeI (k + 1)).filter (goesB x a) = (rangeI k).filter (goesB x a) ++ [(k : Int)] := fun h => by
    rw [rangeI_succ, List.filter_append]; simp [h]
  have gf : goesB x a k = false → (rangeI (k + 1)).filter (goesB x a) = (rangeI k).filter (goesB x a) := fun h => by
    rw [rangeI_succ, List.filter_append]; simp [h]
  have hR := hR (k + 1)
  generalize (rangeI (k + 1)).filter (goesB x a) = Y at *
  have hend : l.length ≤ k → (rangeI l.length).filter (goesB x a) = (rangeI k).filter (goesB x a) := fun h => by rw [show k = l.length by omega]
  generalize (rangeI k).filter (goesB x a) = X at *
  have hg : goesB x a k = (((k : Int) == a + 1 && x.op != 15) || (x.op == 13 && (k : Int) == a + x.n) || x.op == 12) := rfl
  generalize goesB x a k = gg at *
  conv => whnf
  repeat' (first | (refine sel_i (fun h => ?_) (fun h => ?_) <;> conv => whnf) | (refine chk_c ?_ ?_ <;> conv => whnf) | (refine And.intro ?_ rfl) | (refine And.intro ?_ ?_ <;> conv => whnf))
  all_goals (simp only [w2, w3, w4] at *)
  all_goals first
    | (refine ⟨?_⟩; simp only [List.length_cons, List.length_nil]; omega)
    | (rw [hend (by have := of_decide_eq_false (show decide ((k : Int) < (l.length : Int)) = false by assumption); omega)]; done)
    | (have q : gg = true := (by rw [hg]; simp only [*, Bool.and_true, Bool.true_and, Bool.and_false, Bool.false_and, Bool.or_true, Bool.true_or, Bool.or_false, Bool.false_or]; done)
       rw [gt q] at hR; have ql := of_decide_eq_true (show decide ((k : Int) < (l.length : Int)) = true by assumption)
       exact hR (by omega) (by omega))
    | (have q : gg = false := (by rw [hg]; simp only [*, Bool.and_true, Bool.true_and, Bool.and_false, Bool.false_and, Bool.or_true, Bool.true_or, Bool.or_false, Bool.false_or]; done)
       rw [gf q] at hR; have ql := of_decide_eq_true (show decide ((k : Int) < (l.length : Int)) = true by assumption)
       exact hR (by omega) (by omega))
    | trace_state
theorem ok_spec_NextPlaces : FunOk Try.prog c_spec_NextPlaces := funOk (E := [c_spec_CodeOk, c_spec_l1In]) (envOk_cons ok_spec_CodeOk (envOk_cons ok_spec_l1In (envOk_nil))) mixd Try.func29 (pf := pf_spec_NextPlaces) (by kernel_rfl) fun ts K h => by
  obtain ⟨t0, t1, e0, h⟩ := as2_out h
  subst e0
  obtain ⟨l, e1, hq⟩ := arC_out (rd_l .inst) h
  clear h
  subst e1
  have h := hq
  clear hq
  obtain ⟨a, e1, hq⟩ := arC_out (rd_int .i64) h
  clear h
  subst e1
  have h := hq
  clear hq
  obtain ⟨hpre, h⟩ := chk_o h
  exact ⟨_, _, h, Nat.le_of_ble_eq_true (show Nat.ble 2 Try.f29.ntmps = true by kernel_rfl), _, run_spec_NextPlaces l a hpre⟩

/-! what was touched -/
def addrS (l : List Seen) : List Int := (l.filter (fun x => decide (0 ≤ x.addr))).map (fun x => x.addr)
def touched (l : List Seen) : List Int := setI (addrS l)

/-! the core: what it is made of -/
def LCore (c : Core) (n : Nat) : Prop := LState c.s n ∧ c.rob.length ≤ n ∧ c.guesses.length ≤ n





def Fit (c : Core) : Prop := LenOk c.s ∧ c.rob.length ≤ 7 ∧ c.guesses.length = 48
theorem Fit.l {c : Core} (h : Fit c) : LCore c 2147483647 := by
  obtain ⟨h1, h2, h3⟩ := h
  exact ⟨h1.l, by omega, by omega⟩



/-! costs grow -/

/-! a core that is right stays so -/
theorem insOk_r {x : Inst} (h : insOk x = true) : 0 ≤ x.r ∧ x.r ≤ 7 := by
  simp only [insOk, Bool.and_eq_true] at h
  exact fld_in h.1.1.1.1.2


def Sm (x : Seen) : Prop := (-1 ≤ x.at_ ∧ x.at_ ≤ 10) ∧ (-1 ≤ x.r ∧ x.r ≤ 10) ∧ (-1 ≤ x.addr ∧ x.addr ≤ 10)
theorem Sm.inS {x : Seen} (h : Sm x) : InS x := by
  obtain ⟨h1, h2, h3⟩ := h
  exact ⟨⟨by omega, by omega⟩, ⟨by omega, by omega⟩, ⟨by omega, by omega⟩⟩

/-! a core is settled -/

/-! out of order comes to what in order comes to -/
theorem insOk_ab {x : Inst} (h : insOk x = true) : (0 ≤ x.a ∧ x.a ≤ 7) ∧ (0 ≤ x.b ∧ x.b ≤ 7) := by
  simp only [insOk, Bool.and_eq_true, fld, inR_t] at h
  omega




/-! which registers may hold a key: what is known of the places of a program -/
def behindB (x : Inst) (may : List Bool) : List Bool :=
  if x.op = 1 ∨ x.op = 2 ∨ x.op = 9 then may.set x.r.toNat false else if x.op = 10 ∨ x.op = 12 then may.set x.r.toNat true else
  if x.op = 3 ∨ x.op = 4 ∨ x.op = 5 ∨ x.op = 6 ∨ x.op = 7 ∨ x.op = 8 then may.set x.r.toNat (may.getD x.a.toNat (FT.zero .bool)) else may
theorem behindB_len (x : Inst) (may : List Bool) : (behindB x may).length = may.length := by
  unfold behindB
  repeat' split
  all_goals first | rfl | exact List.length_set ..
structure Flow where
  come : List Bool
  may : List (List Bool)
def Flow.tc (f : Flow) (r : List TC) : List TC := .ow .bool f.come :: .rows true .bool f.may :: r
def pV (τ : FT) : Prs (List (List τ.Ty)) := fun l f => match l with | .rows true σ xs :: r => castR σ τ xs fun ys => f ys r | _ => False
def pW (τ : FT) : Prs (List (List τ.Ty)) := fun l f => match l with | .rows false σ xs :: r => castR σ τ xs fun ys => f ys r | _ => False
theorem rd_v (τ : FT) : Rd (pV τ) (fun x r => .rows true τ x :: r) := fun l f h => by
  unfold pV at h
  split at h
  · obtain ⟨e, h1⟩ := castR_out h
    subst e
    exact ⟨_, _, rfl, h1⟩
  · exact h.elim
theorem rd_w (τ : FT) : Rd (pW τ) (fun x r => .rows false τ x :: r) := fun l f h => by
  unfold pW at h
  split at h
  · obtain ⟨e, h1⟩ := castR_out h
    subst e
    exact ⟨_, _, rfl, h1⟩
  · exact h.elim
def pFlowO : Prs Flow := fun l f => pO .bool l fun a l => pV .bool l fun b l => f ⟨a, b⟩ l
theorem rd_flow : Rd pFlowO Flow.tc := fun l f h0 => by
  obtain ⟨a, _, rfl, h1⟩ := rd_o .bool _ _ h0
  obtain ⟨b, _, rfl, h2⟩ := rd_v .bool _ _ h1
  exact ⟨⟨a, b⟩, _, rfl, h2⟩
abbrev fB : Bool := FT.zero .bool
def orTo (x y : List Bool) : Nat → List Bool
  | 0 => x
  | k + 1 => (orTo x y k).set k (x.getD k fB || y.getD k fB)
def newTo (x y : List Bool) : Nat → Bool
  | 0 => false
  | k + 1 => newTo x y k || (y.getD k fB && !x.getD k fB)
theorem orTo_len (x y : List Bool) : ∀ k, (orTo x y k).length = x.length
  | 0 => rfl
  | k + 1 => by unfold orTo; rw [List.length_set]; exact orTo_len x y k
theorem orTo_get (x y : List Bool) : ∀ k j, (orTo x y k).getD j fB = if j < k ∧ j < x.length then x.getD j fB || y.getD j fB else x.getD j fB
  | 0, j => by rw [if_neg (by omega)]; rfl
  | k + 1, j => by
    unfold orTo
    rw [getD_set2, orTo_len, orTo_get x y k j]
    by_cases h : k = j ∧ j < x.length
    · rw [if_pos h, if_pos (by omega), h.1]
    · rw [if_neg h]
      by_cases h2 : j < k ∧ j < x.length
      · rw [if_pos h2, if_pos (by omega)]
      · rw [if_neg h2, if_neg (by omega)]
theorem orTo_at {x y : List Bool} {k : Nat} : (orTo x y k).getD k fB = x.getD k fB := by rw [orTo_get, if_neg (by omega)]
theorem set_same {xs : List Bool} {k : Nat} {b : Bool} (h : k < xs.length → xs.getD k fB = b) : xs.set k b = xs := by
  rcases Nat.lt_or_ge k xs.length with q | q
  · have h := h q
    apply List.ext_getElem?
    intro j
    rw [List.getElem?_set]
    split
    · rename_i e; subst e
      have hb : b = xs[k] := by rw [← h, List.getD_eq_getElem?_getD, List.getElem?_eq_getElem q]; rfl
      rw [hb, List.getElem?_eq_getElem q]
      try rw [if_pos q]
    · rfl
  · exact List.set_eq_of_length_le q
theorem orTo_yes {x y : List Bool} {k : Nat} (h : y.getD k fB = true) : orTo x y (k + 1) = (orTo x y k).set k true := by
  show (orTo x y k).set k (x.getD k fB || y.getD k fB) = _
  rw [h, Bool.or_true]
theorem orTo_no {x y : List Bool} {k : Nat} (h : y.getD k fB = false ∨ x.getD k fB = true) : orTo x y (k + 1) = orTo x y k := by
  show (orTo x y k).set k (x.getD k fB || y.getD k fB) = _
  refine set_same fun _ => ?_
  rw [orTo_at]
  rcases h with h | h
  · rw [h, Bool.or_false]
  · rw [h, Bool.true_or]
def comeM (f : Flow) (a : Nat) (y : List Bool) : Flow := ⟨f.come.set a true, f.may.set a (orTo (f.may.getD a []) y 8)⟩
def freshM (f : Flow) (a : Nat) (y : List Bool) : Bool := !(f.come.getD a fB) || newTo (f.may.getD a []) y 8
def FlowOk (f : Flow) (n : Nat) : Prop := f.come.length = n ∧ f.may.length = n ∧ ∀ i, i < n → (f.may.getD i []).length = 8
theorem comeM_ok {f : Flow} {n a : Nat} {y : List Bool} (h : FlowOk f n) : FlowOk (comeM f a y) n := by
  obtain ⟨h1, h2, h3⟩ := h
  refine ⟨by unfold comeM; simpa using h1, by unfold comeM; simpa using h2, fun i hi => ?_⟩
  unfold comeM
  dsimp only
  rw [getD_set2]
  split
  · rename_i e; rw [orTo_len, e.1]; exact h3 i hi
  · exact h3 i hi

def pf_impl_behind : PF := ⟨[.t 4], .seq (.reg [.s (.box 2 (.t 0)), .s (.mv 4 (.k (.v (.c (.nils .bool)))))]) (.seq (.reg [.s (.mv 6 (.t 1)), .s (.call (some 7) 43 [(.t 6)]), .s (.mv 5 (.t 7))]) (.seq (.seq (.reg [.s (.fa 8 (.t 2) 0), .s (.load 9 false 1 (.t 8))]) (.blk 0 (.seq (.seq (.reg [.s (.bin 11 .eql (.t 9) (.k (.v (.c (.int .i64 1))))), .s (.mv 10 (.t 11))]) (.cond (.t 10) (.skip) (.seq (.reg [.s (.bin 12 .eql (.t 9) (.k (.v (.c (.int .i64 2))))), .s (.mv 10 (.t 12))]) (.cond (.t 10) (.skip) (.reg [.s (.bin 13 .eql (.t 9) (.k (.v (.c (.int .i64 9))))), .s (.mv 10 (.t 13))]))))) (.cond (.t 10) (.reg [.s (.mv 14 (.t 5)), .s (.fa 15 (.t 2) 1), .s (.load 16 false 1 (.t 15)), .s (.ia 17 .bool (.t 14) (.t 16)), .s (.store 1 (.t 17) (.k (.v (.c .ff))))]) (.seq (.seq (.reg [.s (.bin 19 .eql (.t 9) (.k (.v (.c (.int .i64 10))))), .s (.mv 18 (.t 19))]) (.cond (.t 18) (.skip) (.reg [.s (.bin 20 .eql (.t 9) (.k (.v (.c (.int .i64 12))))), .s (.mv 18 (.t 20))]))) (.cond (.t 18) (.reg [.s (.mv 21 (.t 5)), .s (.fa 22 (.t 2) 1), .s (.load 23 false 1 (.t 22)), .s (.ia 24 .bool (.t 21) (.t 23)), .s (.store 1 (.t 24) (.k (.v (.c .tt))))]) (.seq (.seq (.reg [.s (.bin 26 .eql (.t 9) (.k (.v (.c (.int .i64 3))))), .s (.mv 25 (.t 26))]) (.cond (.t 25) (.skip) (.seq (.reg [.s (.bin 27 .eql (.t 9) (.k (.v (.c (.int .i64 4))))), .s (.mv 25 (.t 27))]) (.cond (.t 25) (.skip) (.seq (.reg [.s (.bin 28 .eql (.t 9) (.k (.v (.c (.int .i64 5))))), .s (.mv 25 (.t 28))]) (.cond (.t 25) (.skip) (.seq (.reg [.s (.bin 29 .eql (.t 9) (.k (.v (.c (.int .i64 6))))), .s (.mv 25 (.t 29))]) (.cond (.t 25) (.skip) (.seq (.reg [.s (.bin 30 .eql (.t 9) (.k (.v (.c (.int .i64 7))))), .s (.mv 25 (.t 30))]) (.cond (.t 25) (.skip) (.reg [.s (.bin 31 .eql (.t 9) (.k (.v (.c (.int .i64 8))))), .s (.mv 25 (.t 31))]))))))))))) (.cond (.t 25) (.rgd [] [.s (.mv 32 (.t 5)), .s (.fa 33 (.t 2) 1), .s (.load 34 false 1 (.t 33)), .s (.mv 35 (.t 1)), .s (.fa 36 (.t 2) 2), .s (.load 37 false 1 (.t 36)), .s (.ia 38 .bool (.t 35) (.t 37)), .s (.load 39 false 1 (.t 38)), .s (.ia 40 .bool (.t 32) (.t 34)), .s (.store 1 (.t 40) (.t 39))] (.tk 0 (.tk 1 (.tk 2 (.tk 3 (.tk 4 (.tk 5 (.tk 6 (.tk 7 (.tk 8 (.one 9 true (.done none)))))))))))) (.skip))))))))) (.seq (.reg [.s (.mv 41 (.t 5)), .s (.mv 4 (.t 41))]) (.ret))))⟩
def c_impl_behind : Fun := ⟨35, [], fun ts K => as2 ts fun t0 t1 => arG pInstT t0 fun x => arC (pL .bool) t1 fun may => chk (insOk x = true ∧ may.length = 8) (K (tL true .bool (behindB x may)) [])⟩
theorem run_impl_behind (x : Inst) (may : List (FT.Ty .bool)) (hpre : insOk x = true ∧ may.length = 8) : runK [c_slices_Clone_bool] (0) [] pf_impl_behind [tG (x.tc []), tL false .bool may] fun r o => r = tL true .bool (behindB x may) ∧ o = [] := by
  obtain ⟨hx, hl⟩ := hpre
  have hr := insOk_r hx
  have hab := insOk_ab hx
  conv => whnf
  repeat' (first | (refine sel_i (fun h => ?_) (fun h => ?_) <;> conv => whnf) | (refine chk_c ?_ ?_ <;> conv => whnf) | (refine And.intro ?_ rfl) | (refine And.intro ?_ ?_ <;> conv => whnf))
  all_goals (try simp only [etaInst, beq_iff_eq, beq_eq_false_iff_ne, ne_eq] at *)
  all_goals first
    | (exfalso; omega)
    | (refine ⟨?_⟩; omega)
    | (unfold behindB; rw [if_pos (by omega)]; done)
    | (unfold behindB; rw [if_neg (by omega), if_pos (by omega)]; done)
    | (unfold behindB; rw [if_neg (by omega), if_neg (by omega), if_pos (by omega)]; done)
    | (unfold behindB; rw [if_neg (by omega), if_neg (by omega), if_neg (by omega)]; done)
    | trace_state
theorem ok_impl_behind : FunOk Try.prog c_impl_behind := funOk (E := [c_slices_Clone_bool]) (envOk_cons ok_slices_Clone_bool (envOk_nil)) mixd Try.func35 (pf := pf_impl_behind) (by kernel_rfl) fun ts K h => by
  obtain ⟨t0, t1, e0, h⟩ := as2_out h
  subst e0
  obtain ⟨x, e1, hq⟩ := arG_out rd_inst h
  clear h
  subst e1
  have h := hq
  clear hq
  obtain ⟨may, e1, hq⟩ := arC_out (rd_l .bool) h
  clear h
  subst e1
  have h := hq
  clear hq
  obtain ⟨hpre, h⟩ := chk_o h
  exact ⟨_, _, h, Nat.le_of_ble_eq_true (show Nat.ble 2 Try.f35.ntmps = true by kernel_rfl), _, run_impl_behind x may hpre⟩

def pf_spec_l25Behind : PF := ⟨[.t 4], .seq (.reg [.s (.box 2 (.t 0)), .s (.mv 4 (.k (.v (.c (.nils .bool)))))]) (.seq (.reg [.s (.bs 6 .bool []), .s (.mv 7 (.t 1)), .s (.app 8 .bool (.t 6) (.t 7)), .s (.mv 5 (.t 8))]) (.seq (.seq (.reg [.s (.fa 9 (.t 2) 0), .s (.load 10 false 1 (.t 9))]) (.blk 0 (.seq (.seq (.reg [.s (.bin 12 .eql (.t 10) (.k (.v (.c (.int .i64 1))))), .s (.mv 11 (.t 12))]) (.cond (.t 11) (.skip) (.seq (.reg [.s (.bin 13 .eql (.t 10) (.k (.v (.c (.int .i64 2))))), .s (.mv 11 (.t 13))]) (.cond (.t 11) (.skip) (.reg [.s (.bin 14 .eql (.t 10) (.k (.v (.c (.int .i64 9))))), .s (.mv 11 (.t 14))]))))) (.cond (.t 11) (.reg [.s (.mv 15 (.t 5)), .s (.fa 16 (.t 2) 1), .s (.load 17 false 1 (.t 16)), .s (.ia 18 .bool (.t 15) (.t 17)), .s (.store 1 (.t 18) (.k (.v (.c .ff))))]) (.seq (.seq (.reg [.s (.bin 20 .eql (.t 10) (.k (.v (.c (.int .i64 10))))), .s (.mv 19 (.t 20))]) (.cond (.t 19) (.skip) (.reg [.s (.bin 21 .eql (.t 10) (.k (.v (.c (.int .i64 12))))), .s (.mv 19 (.t 21))]))) (.cond (.t 19) (.reg [.s (.mv 22 (.t 5)), .s (.fa 23 (.t 2) 1), .s (.load 24 false 1 (.t 23)), .s (.ia 25 .bool (.t 22) (.t 24)), .s (.store 1 (.t 25) (.k (.v (.c .tt))))]) (.seq (.seq (.reg [.s (.bin 27 .eql (.t 10) (.k (.v (.c (.int .i64 3))))), .s (.mv 26 (.t 27))]) (.cond (.t 26) (.skip) (.seq (.reg [.s (.bin 28 .eql (.t 10) (.k (.v (.c (.int .i64 4))))), .s (.mv 26 (.t 28))]) (.cond (.t 26) (.skip) (.seq (.reg [.s (.bin 29 .eql (.t 10) (.k (.v (.c (.int .i64 5))))), .s (.mv 26 (.t 29))]) (.cond (.t 26) (.skip) (.seq (.reg [.s (.bin 30 .eql (.t 10) (.k (.v (.c (.int .i64 6))))), .s (.mv 26 (.t 30))]) (.cond (.t 26) (.skip) (.seq (.reg [.s (.bin 31 .eql (.t 10) (.k (.v (.c (.int .i64 7))))), .s (.mv 26 (.t 31))]) (.cond (.t 26) (.skip) (.reg [.s (.bin 32 .eql (.t 10) (.k (.v (.c (.int .i64 8))))), .s (.mv 26 (.t 32))]))))))))))) (.cond (.t 26) (.rgd [] [.s (.mv 33 (.t 5)), .s (.fa 34 (.t 2) 1), .s (.load 35 false 1 (.t 34)), .s (.mv 36 (.t 1)), .s (.fa 37 (.t 2) 2), .s (.load 38 false 1 (.t 37)), .s (.ia 39 .bool (.t 36) (.t 38)), .s (.load 40 false 1 (.t 39)), .s (.ia 41 .bool (.t 33) (.t 35)), .s (.store 1 (.t 41) (.t 40))] (.tk 0 (.tk 1 (.tk 2 (.tk 3 (.tk 4 (.tk 5 (.tk 6 (.tk 7 (.tk 8 (.one 9 true (.done none)))))))))))) (.skip))))))))) (.seq (.reg [.s (.mv 42 (.t 5)), .s (.mv 4 (.t 42))]) (.ret))))⟩
def c_spec_l25Behind : Fun := ⟨28, [], fun ts K => as2 ts fun t0 t1 => arG pInstT t0 fun x => arC (pL .bool) t1 fun may => chk (insOk x = true ∧ may.length = 8) (K (tL true .bool (behindB x may)) [])⟩
theorem run_spec_l25Behind (x : Inst) (may : List (FT.Ty .bool)) (hpre : insOk x = true ∧ may.length = 8) : runK [] (0) [] pf_spec_l25Behind [tG (x.tc []), tL false .bool may] fun r o => r = tL true .bool (behindB x may) ∧ o = [] := by
  obtain ⟨hx, hl⟩ := hpre
  have hr := insOk_r hx
  have hab := insOk_ab hx
  conv => whnf
  repeat' (first | (refine sel_i (fun h => ?_) (fun h => ?_) <;> conv => whnf) | (refine chk_c ?_ ?_ <;> conv => whnf) | (refine And.intro ?_ rfl) | (refine And.intro ?_ ?_ <;> conv => whnf))
  all_goals (try simp only [List.nil_append, etaInst, beq_iff_eq, beq_eq_false_iff_ne, ne_eq] at *)
  all_goals first
    | (exfalso; omega)
    | (refine ⟨?_⟩; omega)
    | (refine ⟨?_⟩; simp only [List.length_nil]; omega)
    | (unfold behindB; rw [if_pos (by omega)]; done)
    | (unfold behindB; rw [if_neg (by omega), if_pos (by omega)]; done)
    | (unfold behindB; rw [if_neg (by omega), if_neg (by omega), if_pos (by omega)]; done)
    | (unfold behindB; rw [if_neg (by omega), if_neg (by omega), if_neg (by omega)]; done)
    | trace_state
theorem ok_spec_l25Behind : FunOk Try.prog c_spec_l25Behind := funOk (E := []) (envOk_nil) mixd Try.func28 (pf := pf_spec_l25Behind) (by kernel_rfl) fun ts K h => by
  obtain ⟨t0, t1, e0, h⟩ := as2_out h
  subst e0
  obtain ⟨x, e1, hq⟩ := arG_out rd_inst h
  clear h
  subst e1
  have h := hq
  clear hq
  obtain ⟨may, e1, hq⟩ := arC_out (rd_l .bool) h
  clear h
  subst e1
  have h := hq
  clear hq
  obtain ⟨hpre, h⟩ := chk_o h
  exact ⟨_, _, h, Nat.le_of_ble_eq_true (show Nat.ble 2 Try.f28.ntmps = true by kernel_rfl), _, run_spec_l25Behind x may hpre⟩

theorem setR_same (m : List (List Bool)) (k : Nat) : m.set k (m.getD k []) = m := by
  apply List.ext_getElem?
  intro j
  rw [List.getElem?_set]
  split
  · rename_i e; subst e
    split
    · rename_i q; rw [List.getD_eq_getElem?_getD, List.getElem?_eq_getElem q]; rfl
    · rename_i q; rw [List.getElem?_eq_none (by omega)]
  · rfl
theorem getR_set {m : List (List Bool)} {k : Nat} {z : List Bool} (h : k < m.length) : (m.set k z).getD k [] = z := by rw [getD_set2, if_pos ⟨rfl, h⟩]

def lb_impl_flow_comeTo_0 : PC := .seq (.reg [.s (.bin 27 .lss (.t 26) (.t 25))]) (.seq (.cond (.t 27) (.skip) (.exit 0)) (.seq (.blk 1 (.seq (.reg [.s (.mv 28 (.t 26)), .s (.ia 29 .bool (.t 24) (.t 26)), .s (.load 30 false 1 (.t 29)), .s (.mv 8 (.t 28)), .s (.mv 9 (.t 30))]) (.seq (.reg [.s (.mv 31 (.t 9)), .s (.mv 32 (.t 31)), .g 32 true (some 33) (.mv 33 (.t 0)), .g 32 true (some 34) (.nchk 34 (.t 33)), .g 32 true (some 35) (.fa 35 (.t 34) 1), .g 32 true (some 36) (.load 36 false 1 (.t 35)), .g 32 true (some 37) (.mv 37 (.t 1)), .g 32 true (some 38) (.ia 38 .str (.t 36) (.t 37)), .g 32 true (some 39) (.load 39 false 1 (.t 38)), .g 32 true (some 40) (.mv 40 (.t 8)), .g 32 true (some 41) (.ia 41 .bool (.t 39) (.t 40)), .g 32 true (some 42) (.load 42 false 1 (.t 41)), .g 32 true (some 43) (.bnot 43 (.t 42)), .s (.pick 44 (.t 32) (.t 43) (.k (.v (.c .ff))))]) (.cond (.t 44) (.seq (.reg [.s (.mv 45 (.t 0)), .s (.nchk 46 (.t 45)), .s (.fa 47 (.t 46) 1), .s (.load 48 false 1 (.t 47)), .s (.mv 49 (.t 1)), .s (.ia 50 .str (.t 48) (.t 49)), .s (.load 51 false 1 (.t 50)), .s (.mv 52 (.t 8)), .s (.ia 53 .bool (.t 51) (.t 52)), .s (.store 1 (.t 53) (.k (.v (.c .tt))))]) (.reg [.s (.mv 7 (.k (.v (.c .tt))))])) (.skip))))) (.reg [.s (.bin 54 .add (.t 26) (.k (.v (.c (.int .i64 1))))), .s (.mv 26 (.t 54))])))
def pf_impl_flow_comeTo : PF := ⟨[.t 6], .seq (.reg [.s (.mv 6 (.k (.v (.c .ff))))]) (.seq (.reg [.s (.mv 10 (.t 0)), .s (.nchk 11 (.t 10)), .s (.fa 12 (.t 11) 0), .s (.load 13 false 1 (.t 12)), .s (.mv 14 (.t 1)), .s (.ia 15 .bool (.t 13) (.t 14)), .s (.load 16 false 1 (.t 15)), .s (.bnot 17 (.t 16)), .s (.mv 7 (.t 17))]) (.seq (.reg [.s (.mv 18 (.t 0)), .s (.nchk 19 (.t 18)), .s (.fa 20 (.t 19) 0), .s (.load 21 false 1 (.t 20)), .s (.mv 22 (.t 1)), .s (.ia 23 .bool (.t 21) (.t 22)), .s (.store 1 (.t 23) (.k (.v (.c .tt))))]) (.seq (.seq (.reg [.s (.mv 24 (.t 2)), .s (.len 25 false (.t 24)), .s (.mv 26 (.k (.v (.c (.int .i64 0)))))]) (.blk 0 (.loop [0, 1, 7, 24, 25, 26] lb_impl_flow_comeTo_0))) (.seq (.reg [.s (.mv 55 (.t 7)), .s (.mv 6 (.t 55))]) (.ret)))))⟩
def c_impl_flow_comeTo : Fun := ⟨34, [true, false, false], fun ts K => as3 ts fun t0 t1 t2 => arQ pFlowO t0 fun f => arC (pI .i64) t1 fun a => arC (pL .bool) t2 fun y => chk (FlowOk f f.come.length ∧ 0 ≤ a ∧ a < f.come.length ∧ y.length = 8) (K (tB (freshM f a.toNat y)) ([.v (.ptr true 0 ((comeM f a.toNat y).tc []))]))⟩
theorem run_impl_flow_comeTo (FU : Nat) (f : Flow) (a : Int) (y : List (FT.Ty .bool)) (hpre : FlowOk f f.come.length ∧ 0 ≤ a ∧ a < f.come.length ∧ y.length = 8) : runK [] (9 + FU) [true, false, false] pf_impl_flow_comeTo [.v (.ptr true 0 (f.tc [])), tI .i64 a, tL false .bool y] fun r o => r = tB (freshM f a.toNat y) ∧ o = [.v (.ptr true 0 ((comeM f a.toNat y).tc []))] := by
  obtain ⟨⟨h1, h2, h3⟩, h4, h5, h6⟩ := hpre
  obtain ⟨A, rfl⟩ := Int.eq_ofNat_of_zero_le h4
  have hA : A < f.come.length := by omega
  have h8 := h3 A hA
  conv => whnf
  repeat' (first | (refine sel_i (fun h => ?_) (fun h => ?_) <;> conv => whnf) | (refine chk_c ?_ ?_ <;> conv => whnf) | (refine And.intro ?_ rfl) | (refine And.intro ?_ ?_ <;> conv => whnf))
  all_goals (try simp only [Int.toNat_natCast] at *)
  all_goals first
    | (refine ⟨?_⟩; omega)
    | (refine ⟨?_⟩; exact ⟨by omega, by omega⟩)
    | skip
  unfold freshM comeM
  generalize hx : f.may.getD A [] = x at *
  generalize hc : (!f.come.getD A fB) = cf at *
  have hset : f.may.set A x = f.may := by rw [← hx]; exact setR_same _ _
  have newT : ∀ k, newTo x y (k + 1) = (newTo x y k || (y.getD k fB && !x.getD k fB)) := fun _ => rfl
  refine loop (α := Nat × List (List Bool) × Cell) (fun ⟨k, M, b⟩ => ⟨[(0, .v (.c (.ptr 0 0))), (1, .v (.c (.int .i64 (A : Int)))), (7, .v (.c b)), (24, .v (.c (.sl false .bool 3))), (25, .v (.c (.int .i64 (y.length : Int)))), (26, .v (.c (.int .i64 (k : Int))))],
      [(3, some (.flat false .bool none y)), (2, some (.rows true .bool M)), (1, some (.flat true .bool none (f.come.set A true))), (0, some (.box true [.sl false .bool 1, .sl false .str 2]))], nums.tail.tail.tail.tail, [.v (.c (.ptr 0 0))], false, []⟩)
    (fun q => q.1 ≤ 8 ∧ q.2.1 = f.may.set A (orTo x y q.1) ∧ ((q.2.2 = .tt ∧ (cf || newTo x y q.1) = true) ∨ q.2.2 = .bool (cf || newTo x y q.1))) (fun q => 8 - q.1) (fun q R hI hR => ?_) (0, f.may, .bool cf) _ ⟨by simp, hset.symm, .inr (by simp [newTo])⟩ (by show 8 - 0 < 9 + FU; omega)
  obtain ⟨k, M, b⟩ := q
  obtain ⟨hk, hM, hb⟩ := hI
  dsimp only at hk hM hb hR ⊢
  have hMA : M.getD A [] = orTo x y k := by rw [hM]; exact getR_set (by omega)
  have hMl : M.length = f.may.length := by rw [hM]; simp
  have hol : (orTo x y k).length = 8 := by rw [orTo_len]; exact h8
  have hat : (orTo x y k).getD k fB = x.getD k fB := orTo_at
  have w3 : IntKind.i64.wrap ((k : Int) + 1) = ((k + 1 : Nat) : Int) := by rw [wrap_id (by omega) (by omega)]; rfl
  have hnT := newT k
  clear hset newT h1
  rcases hb with ⟨rfl, hb⟩ | rfl
  all_goals (
    conv => whnf
    repeat' (first | (refine sel_i (fun h => ?_) (fun h => ?_) <;> conv => whnf) | (refine chk_c ?_ ?_ <;> conv => whnf) | (refine And.intro ?_ rfl) | (refine And.intro ?_ ?_ <;> conv => whnf))
    all_goals (try simp only [w3, hMA, hMl, hol, hat, Int.toNat_natCast, Bool.not_eq_true', Bool.not_eq_false', decide_eq_true_eq, decide_eq_false_iff_not] at *)
    all_goals first
      | (refine ⟨?_⟩; omega)
      | (refine ⟨?_⟩; exact ⟨by omega, by omega⟩)
      | (have hy1 : y.getD k fB = true := by assumption
         have hx1 : x.getD k fB = false := by assumption
         exact hR (k + 1, M.set A ((orTo x y k).set k true), .tt) ⟨by dsimp only; omega, by dsimp only; rw [hM, List.set_set, orTo_yes hy1], .inl ⟨rfl, by dsimp only; rw [hnT, hy1, hx1]; simp⟩⟩ (by dsimp only; omega))
      | (have hx1 : x.getD k fB = true := by assumption
         exact hR (k + 1, M, _) ⟨by dsimp only; omega, by dsimp only; rw [hM, orTo_no (.inr hx1)], by dsimp only; rw [hnT, hx1]; first | exact .inl ⟨rfl, by simpa using hb⟩ | exact .inr (by simp)⟩ (by dsimp only; omega))
      | (have hy1 : y.getD k fB = false := by assumption
         exact hR (k + 1, M, _) ⟨by dsimp only; omega, by dsimp only; rw [hM, orTo_no (.inl hy1)], by dsimp only; rw [hnT, hy1]; first | exact .inl ⟨rfl, by simpa using hb⟩ | exact .inr (by simp)⟩ (by dsimp only; omega))
      | (rw [show k = 8 by omega] at hb; rw [hb]; first | done | rfl)
      | (rw [show k = 8 by omega])
      | (rw [hM, show k = 8 by omega]; rfl)
      | trace_state)
theorem ok_impl_flow_comeTo : FunOk Try.prog c_impl_flow_comeTo := funOk (E := []) (envOk_nil) mixd Try.func34 (pf := pf_impl_flow_comeTo) (by kernel_rfl) fun ts K h => by
  obtain ⟨t0, t1, t2, e0, h⟩ := as3_out h
  subst e0
  obtain ⟨f, e1, hq⟩ := arQ_out rd_flow h
  clear h
  subst e1
  have h := hq
  clear hq
  obtain ⟨a, e1, hq⟩ := arC_out (rd_int .i64) h
  clear h
  subst e1
  have h := hq
  clear hq
  obtain ⟨y, e1, hq⟩ := arC_out (rd_l .bool) h
  clear h
  subst e1
  have h := hq
  clear hq
  obtain ⟨hpre, h⟩ := chk_o h
  exact ⟨_, _, h, Nat.le_of_ble_eq_true (show Nat.ble 3 Try.f34.ntmps = true by kernel_rfl), _, run_impl_flow_comeTo 0 f a y hpre⟩

/-! what is known of the places: the least that is closed -/
def cAt (f : Flow) (i : Nat) : Bool := f.come.getD i fB
def mAt (f : Flow) (i r : Nat) : Bool := (f.may.getD i []).getD r fB
def rowLe (x y : List Bool) : Prop := ∀ r, x.getD r fB = true → y.getD r fB = true
structure Below (f g : Flow) : Prop where
  come : ∀ i, cAt f i = true → cAt g i = true
  may : ∀ i, rowLe (f.may.getD i []) (g.may.getD i [])
theorem Below.refl (f : Flow) : Below f f := ⟨fun _ h => h, fun _ _ h => h⟩
theorem Below.trans {f g h : Flow} (a : Below f g) (b : Below g h) : Below f h := ⟨fun i q => b.come i (a.come i q), fun i r q => b.may i r (a.may i r q)⟩
def Shut (l : List Inst) (f : Flow) (i : Nat) : Prop := ∀ j : Nat, (j : Int) ∈ nextI l i → cAt f j = true ∧ rowLe (behindB (Go.Pi.atI l i) (f.may.getD i [])) (f.may.getD j [])
structure FClosed (l : List Inst) (s : List Int) (f : Flow) : Prop where
  ok : FlowOk f l.length
  start : cAt f 0 = true
  first : ∀ r : Nat, r < 8 → (r : Int) ∈ s → mAt f 0 r = true
  next : ∀ i, i < l.length → cAt f i = true → Shut l f i
def IsFlow (l : List Inst) (s : List Int) (f : Flow) : Prop := FClosed l s f ∧ ∀ g, FClosed l s g → Below f g
theorem boolL_ext {x y : List Bool} (hl : x.length = y.length) (h : ∀ i, x.getD i fB = true ↔ y.getD i fB = true) : x = y := by
  apply List.ext_getElem hl
  intro i h1 h2
  have := h i
  rw [List.getD_eq_getElem?_getD, List.getD_eq_getElem?_getD, List.getElem?_eq_getElem h1, List.getElem?_eq_getElem h2] at this
  exact Bool.eq_iff_iff.2 this
theorem flow_unique {l : List Inst} {s : List Int} {f g : Flow} (hf : IsFlow l s f) (hg : IsFlow l s g) : f = g := by
  obtain ⟨a1, a2, a3⟩ := hf.1.ok
  obtain ⟨b1, b2, b3⟩ := hg.1.ok
  have h1 := hf.2 g hg.1
  have h2 := hg.2 f hf.1
  obtain ⟨fc, fm⟩ := f
  obtain ⟨gc, gm⟩ := g
  dsimp only at a1 a2 a3 b1 b2 b3
  have e1 : fc = gc := boolL_ext (a1.trans b1.symm) fun i => ⟨h1.come i, h2.come i⟩
  have e2 : fm = gm := by
    apply List.ext_getElem (a2.trans b2.symm)
    intro i q1 q2
    have p1 : fm.getD i [] = fm[i] := by rw [List.getD_eq_getElem?_getD, List.getElem?_eq_getElem q1]; rfl
    have p2 : gm.getD i [] = gm[i] := by rw [List.getD_eq_getElem?_getD, List.getElem?_eq_getElem q2]; rfl
    have l1 := a3 i (by omega)
    have l2 := b3 i (by omega)
    have m1 := h1.may i
    have m2 := h2.may i
    dsimp only at m1 m2
    rw [p1] at l1 m1 m2
    rw [p2] at l2 m1 m2
    exact boolL_ext (l1.trans l2.symm) fun r => ⟨m1 r, m2 r⟩
  rw [e1, e2]
theorem behindB_get {x : Inst} {m : List Bool} (hx : insOk x = true) (hm : m.length = 8) (r : Nat) : (behindB x m).getD r fB = (
    if x.op = 1 ∨ x.op = 2 ∨ x.op = 9 then (if x.r.toNat = r then false else m.getD r fB) else if x.op = 10 ∨ x.op = 12 then (if x.r.toNat = r then true else m.getD r fB) else
    if x.op = 3 ∨ x.op = 4 ∨ x.op = 5 ∨ x.op = 6 ∨ x.op = 7 ∨ x.op = 8 then (if x.r.toNat = r then m.getD x.a.toNat fB else m.getD r fB) else m.getD r fB) := by
  have hr := insOk_r hx
  have key : ∀ b : Bool, (m.set x.r.toNat b).getD r fB = if x.r.toNat = r then b else m.getD r fB := fun b => by
    rw [getD_set2]
    by_cases e : x.r.toNat = r
    · rw [if_pos ⟨e, by omega⟩, if_pos e]
    · rw [if_neg (fun q => e q.1), if_neg e]
  unfold behindB
  repeat' split
  all_goals first | rfl | (rw [key, if_pos (by assumption)]; done) | (rw [key, if_neg (by assumption)]; done) | (rw [key]; simp only [*, if_true, if_false]; done)
theorem behindB_mono {x : Inst} {m n : List Bool} (hx : insOk x = true) (hm : m.length = 8) (hn : n.length = 8) (h : rowLe m n) : rowLe (behindB x m) (behindB x n) := fun r => by
  rw [behindB_get hx hm, behindB_get hx hn]
  have h1 := h r
  have h2 := h x.a.toNat
  repeat' split
  all_goals first | exact h1 | exact h2 | exact fun q => q | exact fun _ => rfl
theorem cAt_come {f : Flow} {a i : Nat} {y : List Bool} : cAt (comeM f a y) i = if a = i ∧ i < f.come.length then true else cAt f i := by
  unfold cAt comeM; dsimp only; rw [getD_set2]
theorem row_come {f : Flow} {a i : Nat} {y : List Bool} : (comeM f a y).may.getD i [] = if a = i ∧ i < f.may.length then orTo (f.may.getD a []) y 8 else f.may.getD i [] := by
  unfold comeM; dsimp only; rw [getD_set2]
theorem rowLe_or (x y : List Bool) (k : Nat) : rowLe x (orTo x y k) := fun r h => by
  rw [orTo_get]; split
  · rw [h]; rfl
  · exact h
theorem below_come (f : Flow) (a : Nat) (y : List Bool) : Below f (comeM f a y) := by
  refine ⟨fun i h => ?_, fun i => ?_⟩
  · rw [cAt_come]; split
    · rfl
    · exact h
  · rw [row_come]; split
    · rename_i e; rw [← e.1]; exact rowLe_or _ _ _
    · exact fun _ h => h
theorem come_below {f g : Flow} {a : Nat} {y : List Bool} (h : Below f g) (h1 : cAt g a = true) (h2 : rowLe y (g.may.getD a [])) : Below (comeM f a y) g := by
  refine ⟨fun i q => ?_, fun i => ?_⟩
  · rw [cAt_come] at q
    split at q
    · rename_i e; rw [← e.1]; exact h1
    · exact h.come i q
  · rw [row_come]; split
    · rename_i e
      rw [← e.1]
      intro r q
      rw [orTo_get] at q
      split at q
      · rcases Bool.or_eq_true_iff.1 q with q | q
        · exact h.may a r q
        · exact h2 r q
      · exact h.may a r q
    · exact h.may i
theorem come_has {f : Flow} {n a : Nat} {y : List Bool} (hf : FlowOk f n) (ha : a < n) (hy : y.length = 8) : cAt (comeM f a y) a = true ∧ rowLe y ((comeM f a y).may.getD a []) := by
  obtain ⟨h1, h2, h3⟩ := hf
  refine ⟨by rw [cAt_come, if_pos ⟨rfl, by omega⟩], fun r hr => ?_⟩
  have h8 := h3 a ha
  rw [row_come, if_pos ⟨rfl, by omega⟩, orTo_get]
  have hr8 : r < 8 := by
    rcases Nat.lt_or_ge r 8 with q | q
    · exact q
    · rw [List.getD_eq_getElem?_getD, List.getElem?_eq_none (by omega)] at hr; cases hr
  rw [if_pos ⟨hr8, by omega⟩, hr, Bool.or_true]
theorem newTo_no {x y : List Bool} : ∀ k, newTo x y k = false → orTo x y k = x
  | 0, _ => rfl
  | k + 1, h => by
    have h' : (newTo x y k || (y.getD k fB && !x.getD k fB)) = false := h
    rw [Bool.or_eq_false_iff] at h'
    rw [orTo_no, newTo_no k h'.1]
    have h2 := h'.2
    cases hy : y.getD k fB with
    | false => exact .inl rfl
    | true => right; rw [hy] at h2; simpa using h2
theorem come_same {f : Flow} {a : Nat} {y : List Bool} (h : freshM f a y = false) : comeM f a y = f := by
  unfold freshM at h
  rw [Bool.or_eq_false_iff] at h
  have h1 : f.come.getD a fB = true := by simpa using h.1
  unfold comeM
  rw [newTo_no 8 h.2]
  obtain ⟨c, m⟩ := f
  dsimp only at h1 ⊢
  rw [set_same (fun _ => h1)]
  congr 1
  apply List.ext_getElem?
  intro j
  rw [List.getElem?_set]
  split
  · rename_i e; subst e
    split
    · rename_i q; rw [List.getD_eq_getElem?_getD, List.getElem?_eq_getElem q]; rfl
    · rename_i q; rw [List.getElem?_eq_none (by omega)]
  · rfl
def cnt1 (x : List Bool) : Nat := x.countP (fun b => b)
def cntF (f : Flow) : Nat := cnt1 f.come + (f.may.map cnt1).sum
theorem cnt1_le (x : List Bool) : cnt1 x ≤ x.length := List.countP_le_length
theorem cnt1_set {x : List Bool} {k : Nat} {b : Bool} (h : k < x.length) : cnt1 (x.set k b) + (if x.getD k fB then 1 else 0) = cnt1 x + (if b then 1 else 0) := by
  induction x generalizing k with
  | nil => exact absurd h (Nat.not_lt_zero _)
  | cons a x ih =>
    cases k with
    | zero =>
      show cnt1 (b :: x) + (if a then 1 else 0) = cnt1 (a :: x) + _
      unfold cnt1
      rw [List.countP_cons, List.countP_cons]
      omega
    | succ k =>
      have := ih (k := k) (by simpa using h)
      show cnt1 (a :: x.set k b) + (if x.getD k fB then 1 else 0) = cnt1 (a :: x) + _
      unfold cnt1 at this ⊢
      rw [List.countP_cons, List.countP_cons]
      omega
theorem cnt1_or {x y : List Bool} : ∀ k, k ≤ x.length → cnt1 x + (if newTo x y k then 1 else 0) ≤ cnt1 (orTo x y k)
  | 0, _ => Nat.le_refl _
  | k + 1, h => by
    have ih := cnt1_or (x := x) (y := y) k (by omega)
    have hs := cnt1_set (x := orTo x y k) (k := k) (b := x.getD k fB || y.getD k fB) (by rw [orTo_len]; omega)
    rw [orTo_at] at hs
    show cnt1 x + (if (newTo x y k || (y.getD k fB && !x.getD k fB)) then 1 else 0) ≤ cnt1 ((orTo x y k).set k (x.getD k fB || y.getD k fB))
    cases hx : x.getD k fB <;> cases hy : y.getD k fB <;> cases hn : newTo x y k <;> rw [hx, hy] at hs <;> rw [hn] at ih <;> simp at hs ih ⊢ <;> omega
theorem sum_set : ∀ {m : List (List Bool)} {a : Nat} {z : List Bool}, a < m.length → ((m.set a z).map cnt1).sum + cnt1 (m.getD a []) = (m.map cnt1).sum + cnt1 z
  | [], _, _, h => absurd h (Nat.not_lt_zero _)
  | x :: m, 0, z, _ => by simp; omega
  | x :: m, a + 1, z, h => by
    have := sum_set (m := m) (a := a) (z := z) (by simpa using h)
    simp at this ⊢; omega
theorem cnt_come {f : Flow} {n a : Nat} {y : List Bool} (hf : FlowOk f n) (ha : a < n) : cntF f + (if freshM f a y then 1 else 0) ≤ cntF (comeM f a y) := by
  obtain ⟨h1, h2, h3⟩ := hf
  have s1 := cnt1_set (x := f.come) (k := a) (b := true) (by omega)
  have s2 := sum_set (m := f.may) (a := a) (z := orTo (f.may.getD a []) y 8) (by omega)
  have s3 := cnt1_or (x := f.may.getD a []) (y := y) 8 (by rw [h3 a ha]; exact Nat.le_refl _)
  have g1 : cntF (comeM f a y) = cnt1 (f.come.set a true) + ((f.may.set a (orTo (f.may.getD a []) y 8)).map cnt1).sum := rfl
  have g2 : cntF f = cnt1 f.come + (f.may.map cnt1).sum := rfl
  have g3 : freshM f a y = (!(f.come.getD a fB) || newTo (f.may.getD a []) y 8) := rfl
  rw [g1, g2, g3]
  generalize cnt1 (f.come.set a true) = A1 at *
  generalize ((f.may.set a (orTo (f.may.getD a []) y 8)).map cnt1).sum = A2 at *
  generalize cnt1 f.come = A3 at *
  generalize (f.may.map cnt1).sum = A4 at *
  generalize cnt1 (orTo (f.may.getD a []) y 8) = A5 at *
  generalize cnt1 (f.may.getD a []) = A6 at *
  generalize newTo (f.may.getD a []) y 8 = nb at *
  generalize f.come.getD a fB = cb at *
  cases cb <;> cases nb <;> simp only [if_true, if_false, Bool.not_true, Bool.not_false, Bool.or_true, Bool.true_or, Bool.or_false, Bool.false_or, Bool.false_eq_true, reduceIte] at s1 s3 ⊢ <;> omega
theorem cnt_max {f : Flow} {n : Nat} (hf : FlowOk f n) : cntF f ≤ 9 * n := by
  obtain ⟨h1, h2, h3⟩ := hf
  have q1 := cnt1_le f.come
  have q2 : ∀ (m : List (List Bool)), (∀ x ∈ m, x.length = 8) → (m.map cnt1).sum ≤ 8 * m.length := fun m => by
    induction m with
    | nil => intro _; exact Nat.le_refl _
    | cons x m ih =>
      intro h
      have a1 := cnt1_le x
      have a2 := h x (by simp)
      have a3 := ih (fun z hz => h z (List.mem_cons_of_mem _ hz))
      simp only [List.map_cons, List.sum_cons, List.length_cons]; omega
  have q3 := q2 f.may (fun x hx => by
    obtain ⟨i, hi, e⟩ := List.getElem_of_mem hx
    have := h3 i (by omega)
    rw [List.getD_eq_getElem?_getD, List.getElem?_eq_getElem hi, Option.getD_some, e] at this
    exact this)
  unfold cntF; omega
theorem nextI_in {l : List Inst} {i : Int} {j : Int} (h : j ∈ nextI l i) : 0 ≤ j ∧ j < l.length := by
  unfold nextI at h
  exact rangeI_mem.1 (List.mem_filter.1 h).1
def firstB (s : List Int) : List Bool := (List.range 8).map (fun r : Nat => decide ((r : Int) ∈ s))
def zFlow (n : Nat) : Flow := ⟨List.replicate n false, List.replicate n (List.replicate 8 false)⟩
def flow0 (n : Nat) (s : List Int) : Flow := comeM (zFlow n) 0 (firstB s)
theorem zFlow_ok (n : Nat) : FlowOk (zFlow n) n := by
  refine ⟨by simp [zFlow], by simp [zFlow], fun i hi => ?_⟩
  unfold zFlow
  rw [List.getD_eq_getElem?_getD, List.getElem?_replicate, if_pos hi]; simp
theorem firstB_len (s : List Int) : (firstB s).length = 8 := by simp [firstB]
theorem firstB_get {s : List Int} {r : Nat} (h : r < 8) : (firstB s).getD r fB = decide ((r : Int) ∈ s) := by
  unfold firstB
  rw [List.getD_eq_getElem?_getD, List.getElem?_map, List.getElem?_range h]; rfl
theorem firstB_out {s : List Int} {r : Nat} (h : (firstB s).getD r fB = true) : r < 8 ∧ (r : Int) ∈ s := by
  have h8 : r < 8 := by
    rcases Nat.lt_or_ge r 8 with q | q
    · exact q
    · rw [List.getD_eq_getElem?_getD, List.getElem?_eq_none (by rw [firstB_len]; exact q)] at h; cases h
  rw [firstB_get h8] at h
  exact ⟨h8, of_decide_eq_true h⟩
theorem zFlow_below (n : Nat) (g : Flow) : Below (zFlow n) g := by
  refine ⟨fun i h => ?_, fun i r h => ?_⟩
  · unfold cAt zFlow at h
    rw [List.getD_eq_getElem?_getD, List.getElem?_replicate] at h
    split at h <;> cases h
  · unfold zFlow at h
    dsimp only at h
    rw [List.getD_eq_getElem?_getD (l := List.replicate n (List.replicate 8 false)), List.getElem?_replicate] at h
    split at h
    · rw [Option.getD_some, List.getD_eq_getElem?_getD, List.getElem?_replicate] at h
      split at h <;> cases h
    · rw [Option.getD_none] at h; cases h
theorem flow0_ok (n : Nat) (s : List Int) : FlowOk (flow0 n s) n := comeM_ok (zFlow_ok n)
theorem flow0_below {l : List Inst} {s : List Int} {g : Flow} (h : FClosed l s g) : Below (flow0 l.length s) g :=
  come_below (zFlow_below _ _) h.start fun r hr => by
    obtain ⟨h8, hm⟩ := firstB_out hr
    exact h.first r h8 hm
theorem flow0_start {n : Nat} {s : List Int} (hn : 0 < n) : cAt (flow0 n s) 0 = true ∧ ∀ r : Nat, r < 8 → (r : Int) ∈ s → mAt (flow0 n s) 0 r = true := by
  obtain ⟨h1, h2⟩ := come_has (zFlow_ok n) hn (firstB_len s)
  exact ⟨h1, fun r hr hm => h2 r (by rw [firstB_get hr]; exact decide_eq_true hm)⟩
theorem flow0_come {n : Nat} {s : List Int} {i : Nat} (h : cAt (flow0 n s) i = true) : i = 0 := by
  unfold flow0 at h
  rw [cAt_come] at h
  split at h
  · rename_i e; exact e.1.symm
  · unfold cAt zFlow at h
    rw [List.getD_eq_getElem?_getD, List.getElem?_replicate] at h
    split at h <;> cases h
structure FSound (l : List Inst) (s : List Int) (f : Flow) : Prop where
  ok : FlowOk f l.length
  low : ∀ g, FClosed l s g → Below f g
  up : Below (flow0 l.length s) f
theorem sound_0 (l : List Inst) (s : List Int) : FSound l s (flow0 l.length s) := ⟨flow0_ok _ _, fun g h => flow0_below h, Below.refl _⟩
def Told (l : List Inst) (s : List Int) (i : Nat) (y : List Bool) : Prop := y.length = 8 ∧ ∀ g, FClosed l s g → ∀ j : Nat, (j : Int) ∈ nextI l i → cAt g j = true ∧ rowLe y (g.may.getD j [])
theorem told_of {l : List Inst} {s : List Int} {f : Flow} {i : Nat} (h : FSound l s f) (hi : i < l.length) (hx : insOk (Go.Pi.atI l i) = true) (hc : cAt f i = true) : Told l s i (behindB (Go.Pi.atI l i) (f.may.getD i [])) := by
  refine ⟨by rw [behindB_len]; exact h.ok.2.2 i hi, fun g hg j hj => ?_⟩
  have hb := h.low g hg
  obtain ⟨q1, q2⟩ := hg.next i hi (hb.come i hc) j hj
  exact ⟨q1, fun r hr => q2 r (behindB_mono hx (h.ok.2.2 i hi) (hg.ok.2.2 i hi) (hb.may i) r hr)⟩
theorem sound_come {l : List Inst} {s : List Int} {f : Flow} {i j : Nat} {y : List Bool} (h : FSound l s f) (ht : Told l s i y) (hj : (j : Int) ∈ nextI l i) : FSound l s (comeM f j y) :=
  ⟨comeM_ok h.ok, fun g hg => come_below (h.low g hg) (ht.2 g hg j hj).1 (ht.2 g hg j hj).2, h.up.trans (below_come _ _ _)⟩
theorem sound_end {l : List Inst} {s : List Int} {f : Flow} (h : FSound l s f) (hl : 0 < l.length) (hc : ∀ i, i < l.length → cAt f i = true → Shut l f i) : IsFlow l s f := by
  obtain ⟨h1, h2⟩ := flow0_start (s := s) hl
  exact ⟨⟨h.ok, h.up.come 0 h1, fun r hr hm => h.up.may 0 r (h2 r hr hm), hc⟩, h.low⟩
end Go.Pi
