/- FnExactCanSeal: the given statement holds, out of the law's run by PI. No conditions. -/
import Derived.Test.YtnpleappgijfdaaCJ
namespace Go.Pi
open Go.Proofs
set_option linter.unusedVariables false
set_option linter.unusedSimpArgs false
set_option maxRecDepth 100000
attribute [local irreducible] iterN
def pf_laws_FnExactCanSeal : PF := ⟨[.t 4], .seq (.reg [.s (.box 2 (.t 0)), .s (.mv 4 (.k (.v (.c .ff))))]) (.seq (.reg [.s (.mv 5 (.k (.v (.c (.int .i64 1048576)))))]) (.seq (.reg [.s (.load 10 true 2 (.t 2)), .s (.mv 11 (.t 5)), .s (.call (some 12) 41 [(.t 10), (.t 11)]), .s (.mv 5 (.t 12))]) (.seq (.seq (.reg [.s (.mv 13 (.t 5)), .s (.bin 14 .lss (.t 13) (.k (.v (.c (.int .i64 0)))))]) (.cond (.t 14) (.seq (.reg [.s (.mv 4 (.k (.v (.c .tt))))]) (.ret)) (.skip))) (.seq (.reg [.s (.mv 15 (.t 1)), .s (.mv 16 (.t 5)), .s (.call (some 17) 42 [(.t 15), (.t 16)]), .s (.mv 5 (.t 17))]) (.seq (.seq (.reg [.s (.mv 18 (.t 5)), .s (.bin 19 .lss (.t 18) (.k (.v (.c (.int .i64 0)))))]) (.cond (.t 19) (.seq (.reg [.s (.mv 4 (.k (.v (.c .tt))))]) (.ret)) (.skip))) (.seq (.reg [.s (.load 20 true 2 (.t 2)), .s (.call (some 21) 44 [(.t 20)]), .s (.mv 22 (.t 1)), .s (.call (some 23) 45 [(.t 22)]), .s (.call (some 24) 43 [(.t 21), (.t 23)]), .s (.mv 6 (.t 24))]) (.seq (.reg [.s (.load 25 true 2 (.t 2)), .s (.call (some 26) 44 [(.t 25)]), .s (.alloc 7 [.nils .word, .nils .bool]), .s (.store 2 (.t 7) (.t 26))]) (.seq (.reg [.s (.mv 27 (.t 1)), .s (.call (some 28) 45 [(.t 27)]), .s (.mv 8 (.t 28))]) (.seq (.reg [.s (.load 29 true 2 (.t 7)), .s (.mv 30 (.t 8)), .s (.call (some 31) 46 [(.t 29), (.t 30)]), .s (.mv 9 (.t 31))]) (.seq (.seq (.reg [.s (.mv 32 (.t 9)), .s (.mv 33 (.t 6)), .s (.eqs 34 false [.b] true (.t 32) (.t 33))]) (.cond (.t 34) (.seq (.reg [.s (.mv 4 (.k (.v (.c .ff))))]) (.ret)) (.skip))) (.seq (.seq (.rgd [.s (.load 35 true 2 (.t 7)), .s (.load 36 true 2 (.t 2)), .s (.call (some 37) 44 [(.t 36)]), .s (.call (some 38) 47 [(.t 35), (.t 37)]), .s (.bnot 39 (.t 38))] (.tk 0 (.tk 1 (.one 2 false (.one 3 true (.tk 4 (.done none))))))) (.cond (.t 39) (.seq (.reg [.s (.mv 4 (.k (.v (.c .ff))))]) (.ret)) (.skip))) (.seq (.seq (.reg [.s (.mv 40 (.t 8)), .s (.mv 41 (.t 1)), .s (.call (some 42) 45 [(.t 41)]), .s (.call (some 43) 48 [(.t 40), (.t 42)]), .s (.bnot 44 (.t 43))]) (.cond (.t 44) (.seq (.reg [.s (.mv 4 (.k (.v (.c .ff))))]) (.ret)) (.skip))) (.seq (.reg [.s (.mv 4 (.k (.v (.c .tt))))]) (.ret))))))))))))))⟩
def c_laws_FnExactCanSeal : Fun := ⟨10, [], fun ts K => as2 ts fun t0 t1 => arG pMemT t0 fun m => arC (pL .word) t1 fun l => chk (LMem m 9223372036854775807 ∧ l.length ≤ 9223372036854775807) (K (tB true) [])⟩
theorem run_laws_FnExactCanSeal (m : Mem) (l : List (FT.Ty .word)) (hpre : LMem m 9223372036854775807 ∧ l.length ≤ 9223372036854775807) : runK [c_laws_szMemory, c_laws_szWordS, c_spec_CanSeal, c_laws_toMemory, c_laws_toWordS, c_impl_CanSeal, c_laws_eqMemory, c_laws_eqWordS] (0) [] pf_laws_FnExactCanSeal [tG (m.tc false []), tL false .word l] fun r o => r = tB true ∧ o = [] := by
  obtain ⟨l1, l2⟩ := hpre
  conv => whnf
  refine chk_i ⟨l1, by omega, by omega⟩ ?_
  conv => whnf
  refine sel_i (fun h => ?_) (fun h => ?_)
  · conv => whnf
    exact ⟨rfl, rfl⟩
  simp only [etaMemory, decide_eq_false_iff_not, Int.not_lt] at h
  obtain ⟨h1, h2⟩ := szMem_n (k := 1048576) (by omega) h
  conv => whnf
  refine chk_i ⟨l2, h, h2⟩ ?_
  conv => whnf
  refine sel_i (fun h => ?_) (fun h => ?_)
  · conv => whnf
    exact ⟨rfl, rfl⟩
  simp only [etaMemory, decide_eq_false_iff_not, Int.not_lt] at h
  have h3 := szr_n h
  have h4 : LMem m 2147483647 := ⟨by have := h1.1; omega, by have := h1.2; omega⟩
  conv => whnf
  repeat' (first | (refine sel_i (fun h => ?_) (fun h => ?_) <;> conv => whnf) | (refine chk_c ?_ ?_ <;> conv => whnf) | (refine And.intro ?_ rfl) | (refine And.intro ?_ ?_ <;> conv => whnf))
  all_goals first
    | (refine ⟨?_⟩; exact h4)
    | (refine ⟨?_⟩; exact ⟨h4, by omega⟩)
    | (refine ⟨?_⟩; exact ⟨h4.1, h4.2⟩)
    | (refine ⟨?_⟩; omega)
    | rfl
    | (exfalso; simp only [etaMemory] at *; simp at *; done)
    | trace_state
theorem ok_laws_FnExactCanSeal : FunOk Try.prog c_laws_FnExactCanSeal := funOk (E := [c_laws_szMemory, c_laws_szWordS, c_spec_CanSeal, c_laws_toMemory, c_laws_toWordS, c_impl_CanSeal, c_laws_eqMemory, c_laws_eqWordS]) (envOk_cons ok_laws_szMemory (envOk_cons ok_laws_szWordS (envOk_cons ok_spec_CanSeal (envOk_cons ok_laws_toMemory (envOk_cons ok_laws_toWordS (envOk_cons ok_impl_CanSeal (envOk_cons ok_laws_eqMemory (envOk_cons ok_laws_eqWordS (envOk_nil))))))))) mixd Try.func10 (pf := pf_laws_FnExactCanSeal) (by kernel_rfl) fun ts K h => by
  obtain ⟨t0, t1, e0, h⟩ := as2_out h
  subst e0
  obtain ⟨m, e1, hq⟩ := arG_out rd_mem h
  clear h
  subst e1
  have h := hq
  clear hq
  obtain ⟨l, e1, hq⟩ := arC_out (rd_l .word) h
  clear h
  subst e1
  have h := hq
  clear hq
  obtain ⟨hpre, h⟩ := chk_o h
  exact ⟨_, _, h, Nat.le_of_ble_eq_true (show Nat.ble 2 Try.f10.ntmps = true by kernel_rfl), _, run_laws_FnExactCanSeal m l hpre⟩

end Go.Pi
namespace Go.Proofs.Ytnpleappgijfdaa
open Go.Pi
theorem fnExactCanSeal_lifted (os : Os) (started : os.Started) (H : Type) (enc : TypeId × Value → H) :
    ReturnsInHanded {} Try.checked os 10 .any (Rows.fnExactCanSealSpec.pre6 enc Try.prog Try.f10 Rows.fnExactCanSealRow.domain false) (Rows.fnExactCanSealSpec.post enc Try.prog Try.f10 false true false false) :=
  lifted (C := Try.checked) (E := [c_laws_szMemory, c_laws_szWordS, c_spec_CanSeal, c_laws_toMemory, c_laws_toWordS, c_impl_CanSeal, c_laws_eqMemory, c_laws_eqWordS]) (fuel := _) (pf := pf_laws_FnExactCanSeal) (shs := [(true, ckMem), (false, [.sl .word])]) (tb := 4) (by kernel_rfl) started (by kernel_rfl) Try.func10
    (ChangeSpec.witness6 (enc := enc) (C := Try.checked) false ⟨#[], #[.agg #[.slice none 0 0, .slice none 0 0], .slice none 0 0], []⟩ 12 (by kernel_rfl) (by kernel_rfl) (by kernel_rfl) (by kernel_rfl))
    mixd (envOk_cons ok_laws_szMemory (envOk_cons ok_laws_szWordS (envOk_cons ok_spec_CanSeal (envOk_cons ok_laws_toMemory (envOk_cons ok_laws_toWordS (envOk_cons ok_impl_CanSeal (envOk_cons ok_laws_eqMemory (envOk_cons ok_laws_eqWordS (envOk_nil))))))))) (by kernel_rfl) (by kernel_rfl) (by kernel_rfl) rfl (by kernel_rfl) rfl
    (fun ds h => by
      obtain _ | ⟨d0, ds⟩ := ds
      · simp at h
      obtain _ | ⟨d1, ds⟩ := ds
      · simp at h
      obtain _ | ⟨x, ds⟩ := ds
      · rfl
      · simp at h)
    (fun ain h0 => by
      obtain ⟨T0, ain0, e, k0, h1⟩ := areCons h0
      subst e
      obtain ⟨T1, ain1, e, k1, h2⟩ := areCons h1
      subst e
      have e := areNil h2
      subst e
      obtain ⟨m, e, w0⟩ := areG ut_mem k0
      subst e
      obtain ⟨l, e, w1⟩ := isL k1
      subst e
      exact run_laws_FnExactCanSeal m l (⟨⟨w0.1.2, w0.2.2⟩, w1.2⟩))
theorem fnExactCanSeal_over : Rows.fnExactCanSealRow.holds Try.pinned (OpenSpec.ofChange Rows.fnExactCanSealSpec) :=
  OpenClaim.holds_of_wide 10 Try.f10 rfl rfl rfl rfl rfl rfl rfl ⟨rfl, rfl, rfl, rfl, rfl⟩ rfl rfl rfl rfl rfl (by kernel_rfl) Try.func10 (by kernel_rfl)
    (of_decide_eq_true (by kernel_rfl)) (by unfold Func.isWrapper; first | (rw [if_pos (by decide +kernel)]; kernel_rfl) | (rw [if_neg (by decide +kernel)]; exact ⟨rfl, rfl⟩))
    (fun os started H enc _ => fnExactCanSeal_lifted os started H enc)
theorem fnExactCanSeal_holds : Rows.FnExactCanSealSaid := fnExactCanSeal_over
#print axioms fnExactCanSeal_holds
end Go.Proofs.Ytnpleappgijfdaa
