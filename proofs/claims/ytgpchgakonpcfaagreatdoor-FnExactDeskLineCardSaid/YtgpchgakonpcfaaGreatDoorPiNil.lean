/- A contract of a function that asks whether its slice is nil, out of two runs. No conditions. -/
import Derived.Test.YtgpchgakonpcfaaGreatDoorPiArgs
namespace Go.Pi
set_option linter.unusedVariables false
set_option linter.unusedSimpArgs false

theorem spec_ro {P : Program} {f : Nat} {τ : FT} {xs : List τ.Ty} {res : Tree} (hn : xs = [] → Spec P f [] [.v (.c (.nl τ))] res []) (hr : Spec P f [] [.v (.c (.rn τ xs))] res []) :
    Spec P f [] [tL false τ xs] res [] := by
  intro w vs F G hrep
  cases vs with
  | nil => exact hrep.elim
  | cons v vs =>
    cases vs with
    | cons _ _ => obtain ⟨_, _, _, _, _, h, _⟩ := hrep; exact h.elim
    | nil =>
      obtain ⟨F1, F2, G1, G2, ⟨l, A, h1, h2, h3, h4⟩, ⟨h5, h6⟩, h7, h8⟩ := hrep
      subst h3; subst h4; subst h5; subst h6; subst h7; subst h8
      cases A with
      | none =>
        obtain ⟨e, hc, _⟩ := h1
        have hc := hc rfl
        obtain ⟨b1, b2, b3, b4, b5⟩ := h2
        have hl : l.len = 0 := by omega
        have hx : xs = [] := List.eq_nil_of_length_eq_zero (by omega)
        have he : (Blk.flat false τ none xs).shw l = [] := by simp [Blk.shw, hl]
        rw [he, e, hl, hc]
        exact hn hx w _ _ _ ⟨[], [], [], [], ⟨rfl, rfl, rfl⟩, ⟨rfl, rfl⟩, rfl, rfl⟩
      | some a =>
        exact hr w _ _ _ ⟨[], [], _, [], ⟨l, some a, h1, (fun e => by cases e), h2, rfl, rfl⟩, ⟨rfl, rfl⟩, rfl, by simp⟩
theorem funOkN {P : Program} {E : List Fun} {c : Fun} {fn : Func} {pf : PF} (hE : EnvOk P E) (hm : P.follows .mixedOrders = true) (hf : P.funcs[c.f]? = some fn) (hc : fnOk P fn pf = true) (hl : c.lend = []) (hk : 1 ≤ fn.ntmps)
    (h : ∀ ts K, c.go ts K → ∃ (τ : FT) (xs : List τ.Ty) (res : Tree), ts = [tL false τ xs] ∧ K res [] ∧ ∃ fuel,
      (xs = [] → runK E fuel [] pf [.v (.c (.nl τ))] (fun r o => r = res ∧ o = [])) ∧ runK E fuel [] pf [.v (.c (.rn τ xs))] (fun r o => r = res ∧ o = [])) : FunOk P c := by
  intro ts K hg
  obtain ⟨τ, xs, res, e, hK, fuel, h0, hr⟩ := h ts K hg
  subst e
  rw [hl]
  refine SpecQ.x (callable_of hf hc) ?_
  refine SpecQ.mono (Q := fun r o => r = res ∧ o = []) ?_ (fun r o e => by rw [e.1, e.2]; exact hK)
  exact spec_ro (fun e => spec_of_run hE hm hf hc (h0 e) (fun w vs F G hrep => by rw [← Reps_length hrep]; exact hk)) (spec_of_run hE hm hf hc hr (fun w vs F G hrep => by rw [← Reps_length hrep]; exact hk))
end Go.Pi
