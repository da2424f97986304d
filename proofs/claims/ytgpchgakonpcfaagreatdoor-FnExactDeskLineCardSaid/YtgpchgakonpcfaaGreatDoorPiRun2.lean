/- Regions that draw their order. No conditions. -/
import Derived.Test.YtgpchgakonpcfaaGreatDoorPiRun1
namespace Go.Pi
set_option linter.unusedVariables false
set_option linter.unusedSimpArgs false
set_option linter.constructorNameAsVariable false

def Closed (ops : Array Oper) (L : Array Bool) : Prop := ∀ (j : Nat) (o : Oper), L.getD j false = true → ops[j]? = some o → ∀ e ∈ o.after, Region.binds .any e = true → L.getD e.on false = true
def Bar (ops : Array Oper) (pm : Nat → Bool) (L : Array Bool) (j : Nat) : Prop :=
  ∀ m, L.getD m false = true → pm m = false → ∀ L', Closed ops L' → j ∈ Region.ready .any ops L' → L'.getD m false = true

section
variable {P : Program} {ops : Array Oper} {pm : Nat → Bool} {Q : Exit → Act → World → Prop}

def wpB (P : Program) (ops : Array Oper) (pm : Nat → Bool) (Q : Exit → Act → World → Prop) : Nat → Array Bool → (World → Prop) → Act → World → Prop
  | 0, L, _, a, w => Region.ready .any ops L = [] ∧ Q .normal a w
  | fuel + 1, L, S, a, w => (Region.ready .any ops L = [] → Q .normal a w) ∧
      ∀ i ∈ Region.ready .any ops L, wpOp P ops Q i (fun a' w' => ∃ S', (S' = S ∨ Bar ops pm L i) ∧ S' w' ∧ wpB P ops pm Q fuel (L.setIfInBounds i true) S' a' w') a w

theorem wpB_any : ∀ (fuel : Nat) (L : Array Bool) (S : World → Prop) (a : Act) (w : World), wpB P ops pm Q fuel L S a w → wpAny P .any ops Q fuel L a w
  | 0, _, _, _, _, h => h
  | fuel + 1, _, _, _, _, h => ⟨h.1, fun i hi => wpOp_mono (fun a' w' ⟨S', _, _, h'⟩ => wpB_any fuel _ S' a' w' h') (h.2 i hi)⟩

theorem Bar.sub {L : Array Bool} {i j : Nat} (h : Bar ops pm (L.setIfInBounds i true) j) : Bar ops pm L j := fun m hm => h m (getD_set_true hm)

theorem closed_set {L : Array Bool} {i : Nat} (h : Closed ops L) (hi : i ∈ Region.ready .any ops L) : Closed ops (L.setIfInBounds i true) := fun j o hj ho e he hb => by
  by_cases hij : j = i
  · subst hij
    obtain ⟨_, o', ho', hall⟩ := mem_ready.1 hi
    rw [ho] at ho'
    cases ho'
    exact getD_set_true (hall e he hb)
  · refine getD_set_true (h j o ?_ ho e he hb)
    rw [getD_set_ne false (Ne.symm hij)] at hj; exact hj

theorem wpB_first {i : Nat} {oi : Oper} {v : Value} (hi : ops[i]? = some oi) (hsel : ∀ (j : Nat) (o : Oper) cs b, ops[j]? = some o → o.op ≠ .select cs b)
    (hQ : ∀ c a w, Q (.panic c) (a.put oi.dst v) w → Q (.panic c) a w) :
    ∀ (fuel : Nat) (L : Array Bool) (S : World → Prop) (a : Act) (w : World), Closed ops L →
      (∀ j oj, ops[j]? = some oj → j ≠ i → L.getD j true = false → (∀ e ∈ oj.after, Region.binds .any e = true → e.on ≠ i) → oi.apart ops oj = true) →
      i ∈ Region.ready .any ops L → YieldsIf P ops S oi v a → (pm i = true → YieldsIf P ops (fun _ => True) oi v a) → S w →
      wpB P ops pm Q fuel (L.setIfInBounds i true) S (a.put oi.dst v) w → wpB P ops pm Q (fuel + 1) L S a w := by
  intro fuel
  induction fuel with
  | zero =>
    intro L S a w hc _ hr hy hp hS H
    refine ⟨fun h => (by rw [h] at hr; cases hr), fun j hj => ?_⟩
    by_cases hji : j = i
    · subst hji; exact hy.wpOp hi hS ⟨S, .inl rfl, hS, H⟩
    · have := ready_mono hj hji
      rw [H.1] at this
      cases this
  | succ fuel ih =>
    intro L S a w hc hfree hr hy hp hS H
    refine ⟨fun h => (by rw [h] at hr; cases hr), fun j hj => ?_⟩
    by_cases hji : j = i
    · subst hji; exact hy.wpOp hi hS ⟨S, .inl rfl, hS, H⟩
    · have h1 := H.2 j (ready_mono hj hji)
      obtain ⟨hjun, oj, hoj, hall⟩ := mem_ready.1 hj
      have hi0 := (mem_ready.1 hr).1
      have hif : L.getD i false = false := by
        rcases Nat.lt_or_ge i L.size with h' | h'
        · simp [h'] at hi0 ⊢; exact hi0
        · simp [Array.getElem?_eq_none h']
      have hnot : ∀ e ∈ oj.after, Region.binds .any e = true → e.on ≠ i := fun e he hb heq => by
        have h1 := hall e he hb
        rw [heq, hif] at h1; cases h1
      have hfree' : ∀ k ok, ops[k]? = some ok → k ≠ i → (L.setIfInBounds j true).getD k true = false →
          (∀ e ∈ ok.after, Region.binds .any e = true → e.on ≠ i) → oi.apart ops ok = true := fun k ok hk hki hun hno => by
        refine hfree k ok hk hki ?_ hno
        by_cases hjk : j = k
        · subst hjk; exact hjun
        · rw [getD_set_ne true hjk] at hun; exact hun
      have hr' := ready_mono hr (Ne.symm hji)
      have hc' := closed_set hc hj
      cases hpm : pm i with
      | true =>
        have hp' := hp hpm
        have h2 := wpOp_putIf (S := fun _ => True) hoj (hfree j oj hoj hji hjun hnot) (fun cs b => hsel i oi cs b hi) (fun cs b => hsel j oj cs b hoj) hQ hp' h1
        refine wpOp_mono (fun a' w' h3 => ?_) h2
        obtain ⟨hy3, S', hS1, hS2, hb⟩ := h3
        refine ⟨S', hS1.imp id Bar.sub, hS2, ih (L.setIfInBounds j true) S' a' w' hc' hfree' hr' ?_ (fun _ => hy3) hS2 ?_⟩
        · exact hy3.imp (fun ⟨q1, q2⟩ => ⟨q1, fun w'' _ => q2 w'' trivial⟩) id
        · rw [Array.setIfInBounds_comm _ _ hji]; exact hb
      | false =>
        have h2 := wpOp_putIf hoj (hfree j oj hoj hji hjun hnot) (fun cs b => hsel i oi cs b hi) (fun cs b => hsel j oj cs b hoj) hQ hy h1
        refine wpOp_mono (fun a' w' h3 => ?_) h2
        obtain ⟨hy3, S', hS1, hS2, hb⟩ := h3
        have hSS : S' = S := by
          rcases hS1 with e | hbar
          · exact e
          · exfalso
            have hlt : i < L.size := by
              rcases Nat.lt_or_ge i L.size with h' | h'
              · exact h'
              · simp [Array.getElem?_eq_none h'] at hi0
            have := hbar i (by simp [hlt]) hpm L hc hj
            rw [hif] at this; cases this
        subst hSS
        refine ⟨S', .inl rfl, hS2, ih (L.setIfInBounds j true) S' a' w' hc' hfree' hr' hy3 (fun e => by rw [hpm] at e; cases e) hS2 ?_⟩
        rw [Array.setIfInBounds_comm _ _ hji]; exact hb

theorem wpOp_ex {i : Nat} {K : Act → World → Prop} {X : Prop} {a : Act} {w : World} (hQ : ∀ e a w, Q e a w → e = .normal) (h : wpOp P ops Q i K a w) (hK : ∀ a w, K a w → X) : X := by
  unfold wpOp at h
  split at h
  · exact hK _ _ h
  · rename_i o ho
    split at h
    · rcases h with h | ⟨_, a₀, w₀, hq⟩
      · unfold Oper.wp at h
        generalize (execOp a.eval o).run P w = r at h
        cases r with
        | ok n w' =>
          cases n <;> simp only [Oper.upon] at h <;> first
            | exact hK _ _ h
            | exact h.elim
            | skip
          · obtain ⟨e, w'', fr, hR, _⟩ := h []
            cases e with
            | returned v => exact hK _ _ hR
            | panicked ch => have := hQ _ _ _ hR; cases this
            | outgrown => obtain ⟨a₀, w₀, hq⟩ := hR; have := hQ _ _ _ hq; cases this
          · obtain ⟨v, w'', hR, _⟩ := h default []
            exact hK _ _ hR
        | halt x w' =>
          cases x <;> simp only [Oper.upon] at h <;> first
            | exact h.elim
            | (have := hQ _ _ _ h; cases this)
      · have := hQ _ _ _ hq; cases this
    · exact hK _ _ h
theorem wpB_ex {X : Prop} (hQ : ∀ e a w, Q e a w → e = .normal ∧ X) : ∀ (fuel : Nat) (L : Array Bool) (S : World → Prop) (a : Act) (w : World), wpB P ops pm Q fuel L S a w → X
  | 0, _, _, _, _, h => (hQ _ _ _ h.2).2
  | fuel + 1, L, S, a, w, h => by
    cases hr : Region.ready .any ops L with
    | nil => exact (hQ _ _ _ (h.1 hr)).2
    | cons i r => exact wpOp_ex (fun e a w q => (hQ e a w q).1) (h.2 i (by rw [hr]; simp)) (fun a' w' ⟨S', _, _, hb⟩ => wpB_ex hQ fuel _ S' a' w' hb)
end

def preds (ops : Array Oper) (j : Nat) : List Nat := match ops[j]? with | some o => (o.after.toList.filter fun e => Region.binds .any e).map (·.on) | none => []
def upTo (ops : Array Oper) : Nat → List Nat → List Nat
  | 0, M => M
  | n + 1, M => match mem n M with | true => upTo ops n (preds ops n ++ M) | false => upTo ops n M
def barB (ops : Array Oper) (pm : Nat → Bool) (L : Array Bool) (j : Nat) : Bool :=
  allN ops.size
where allN : Nat → Bool
  | 0 => true
  | n + 1 => (!(L.getD n false) || pm n || mem n (upTo ops ops.size (preds ops j))) && allN n
def heads : RT → List Nat
  | .alt i _ _ m => i :: heads m
  | _ => []
def headsA : RT → List Nat
  | .any i _ _ m => i :: headsA m
  | _ => []
def depth : RT → Nat
  | .done _ => 0
  | .nil => 0
  | .tk _ r => depth r + 1
  | .one _ _ r => depth r + 1
  | .alt _ _ r m => max (depth r + 1) (depth m)
  | .any _ _ r m => max (depth r + 1) (depth m)
  | .fin r => depth r
def subL : List Nat → List Nat → Bool
  | [], _ => true
  | x :: xs, ys => mem x ys && subL xs ys
def takes : RT → List Nat
  | .done _ => [] | .nil => [] | .tk i r => i :: takes r | .one _ _ r => takes r | .alt _ _ r m => takes r ++ takes m | .any _ _ r m => takes r ++ takes m | .fin r => takes r
mutual
def rtOk (ops : Array Oper) (pm tp : Nat → Bool) : RT → Array Bool → Bool
  | .done _, L => (Region.ready .any ops L).isEmpty
  | .nil, _ => false
  | .tk i r, L => mem i (Region.ready .any ops L) && Region.free .any ops L i && tp i && rtOk ops pm tp r (L.setIfInBounds i true)
  | .one i b r, L => mem i (Region.ready .any ops L) && subL (Region.ready .any ops L) [i] && (match b with | true => barB ops pm L i | false => true) && rtOk ops pm tp r (L.setIfInBounds i true)
  | .alt i b r m, L => mem i (Region.ready .any ops L) && subL (Region.ready .any ops L) (i :: heads m) && (match b with | true => barB ops pm L i | false => true) && rtOk ops pm tp r (L.setIfInBounds i true) && altOk ops pm tp m L
  | .any i b r m, L => mem i (Region.ready .any ops L) && subL (Region.ready .any ops L) (i :: headsA m) && (match b with | true => barB ops pm L i | false => true) && rtOk ops pm tp r (L.setIfInBounds i true) && anyOk ops pm tp m L
  | .fin r, L => rtOk ops pm tp r L
def altOk (ops : Array Oper) (pm tp : Nat → Bool) : RT → Array Bool → Bool
  | .alt i b r m, L => (match b with | true => barB ops pm L i | false => true) && rtOk ops pm tp r (L.setIfInBounds i true) && altOk ops pm tp m L
  | .nil, _ => true
  | .done _, _ => false
  | .tk _ _, _ => false
  | .one _ _ _, _ => false
  | .any _ _ _ _, _ => false
  | .fin _, _ => false
def anyOk (ops : Array Oper) (pm tp : Nat → Bool) : RT → Array Bool → Bool
  | .any i b r m, L => (match b with | true => barB ops pm L i | false => true) && rtOk ops pm tp r (L.setIfInBounds i true) && anyOk ops pm tp m L
  | .nil, _ => true
  | .done _, _ => false
  | .tk _ _, _ => false
  | .one _ _ _, _ => false
  | .alt _ _ _ _, _ => false
  | .fin _, _ => false
end
theorem subL_out : ∀ {xs ys : List Nat}, subL xs ys = true → ∀ x ∈ xs, x ∈ ys
  | [], _, _, x, hx => by cases hx
  | y :: xs, ys, h, x, hx => by
    simp only [subL, Bool.and_eq_true] at h
    rcases List.mem_cons.1 hx with rfl | hx
    · exact (mem_iff _ _).1 h.1
    · exact subL_out h.2 x hx

theorem preds_listed {ops : Array Oper} {L : Array Bool} (hc : Closed ops L) {j : Nat} (hj : L.getD j false = true) : ∀ m ∈ preds ops j, L.getD m false = true := fun m hm => by
  unfold preds at hm
  split at hm
  · rename_i o ho
    obtain ⟨e, he, rfl⟩ := List.mem_map.1 hm
    rw [List.mem_filter] at he
    exact hc j o hj ho e (by simpa using he.1) he.2
  · cases hm
theorem upTo_listed {ops : Array Oper} {L : Array Bool} (hc : Closed ops L) : ∀ (n : Nat) (M : List Nat), (∀ m ∈ M, L.getD m false = true) → ∀ m ∈ upTo ops n M, L.getD m false = true
  | 0, M, h => h
  | n + 1, M, h => by
    intro m hm
    simp only [upTo] at hm
    split at hm
    · rename_i hn
      refine upTo_listed hc n _ (fun x hx => ?_) m hm
      rcases List.mem_append.1 hx with hx | hx
      · exact preds_listed hc (h n ((mem_iff _ _).1 hn)) x hx
      · exact h x hx
    · exact upTo_listed hc n _ h m hm
theorem barB_out {ops : Array Oper} {pm : Nat → Bool} {L : Array Bool} {j : Nat} (hL : L.size = ops.size) (h : barB ops pm L j = true) : Bar ops pm L j := fun m hm hpm L' hc hj => by
  have key : ∀ n, barB.allN ops pm L j n = true → ∀ m, m < n → L.getD m false = true → pm m = false → m ∈ upTo ops ops.size (preds ops j) := by
    intro n
    induction n with
    | zero => intro _ m hm; omega
    | succ n ih =>
      intro hn m hlt h1 h2
      simp only [barB.allN, Bool.and_eq_true, Bool.or_eq_true, Bool.not_eq_true'] at hn
      by_cases e : m = n
      · subst e
        rcases hn.1 with (h3 | h3) | h3
        · rw [h1] at h3; cases h3
        · rw [h2] at h3; cases h3
        · exact (mem_iff _ _).1 h3
      · exact ih hn.2 m (by omega) h1 h2
  have hlt : m < ops.size := by
    rw [← hL]
    rcases Nat.lt_or_ge m L.size with h' | h'
    · exact h'
    · simp [Array.getElem?_eq_none h'] at hm
  refine upTo_listed hc _ _ (fun x hx => ?_) m (key _ h m hlt hm hpm)
  obtain ⟨_, o, ho, hall⟩ := mem_ready.1 hj
  unfold preds at hx
  rw [ho] at hx
  obtain ⟨e, he, rfl⟩ := List.mem_map.1 hx
  rw [List.mem_filter] at he
  exact hall e (by simpa using he.1) he.2
end Go.Pi
