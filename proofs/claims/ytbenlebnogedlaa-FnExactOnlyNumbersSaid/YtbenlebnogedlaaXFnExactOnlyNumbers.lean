/- FnExactOnlyNumbers: the given statement holds, out of the law's run by PI. No conditions. -/
import Derived.Test.YtbenlebnogedlaaC3
namespace Go.Pi
open Go.Proofs
set_option linter.unusedVariables false
set_option linter.unusedSimpArgs false
set_option maxRecDepth 100000
attribute [local irreducible] iterN
def pf_laws_FnExactOnlyNumbers : PF := ⟨[.t 4], .seq (.reg [.s (.mv 4 (.k (.v (.c .ff))))]) (.seq (.seq (.reg [.s (.mv 10 (.t 1)), .s (.len 11 false (.t 10)), .s (.bin 12 .gtr (.t 11) (.k (.v (.c (.int .i64 1048576)))))]) (.cond (.t 12) (.seq (.reg [.s (.mv 4 (.k (.v (.c .tt))))]) (.ret)) (.skip))) (.seq (.reg [.s (.mv 5 (.k (.v (.c (.int .i64 1048576)))))]) (.seq (.reg [.s (.mv 13 (.t 0)), .s (.mv 14 (.t 5)), .s (.call (some 15) 5 [(.t 13), (.t 14)]), .s (.mv 5 (.t 15))]) (.seq (.seq (.reg [.s (.mv 16 (.t 5)), .s (.bin 17 .lss (.t 16) (.k (.v (.c (.int .i64 0)))))]) (.cond (.t 17) (.seq (.reg [.s (.mv 4 (.k (.v (.c .tt))))]) (.ret)) (.skip))) (.seq (.reg [.s (.mv 18 (.t 0)), .s (.call (some 19) 7 [(.t 18)]), .s (.mv 20 (.t 1)), .s (.call (some 21) 8 [(.t 20)]), .s (.call (some 22) 17 [(.t 19), (.t 21)]), .s (.mv 6 (.t 22))]) (.seq (.reg [.s (.mv 23 (.t 0)), .s (.call (some 24) 7 [(.t 23)]), .s (.mv 7 (.t 24))]) (.seq (.reg [.s (.mv 25 (.t 1)), .s (.call (some 26) 8 [(.t 25)]), .s (.mv 8 (.t 26))]) (.seq (.reg [.s (.mv 27 (.t 7)), .s (.mv 28 (.t 8)), .s (.call (some 29) 18 [(.t 27), (.t 28)]), .s (.mv 9 (.t 29))]) (.seq (.seq (.reg [.s (.mv 30 (.t 9)), .s (.mv 31 (.t 6)), .s (.eqs 32 false [.b] true (.t 30) (.t 31))]) (.cond (.t 32) (.seq (.reg [.s (.mv 4 (.k (.v (.c .ff))))]) (.ret)) (.skip))) (.seq (.seq (.reg [.s (.mv 33 (.t 7)), .s (.mv 34 (.t 0)), .s (.call (some 35) 7 [(.t 34)]), .s (.call (some 36) 11 [(.t 33), (.t 35)]), .s (.bnot 37 (.t 36))]) (.cond (.t 37) (.seq (.reg [.s (.mv 4 (.k (.v (.c .ff))))]) (.ret)) (.skip))) (.seq (.seq (.reg [.s (.mv 38 (.t 8)), .s (.mv 39 (.t 1)), .s (.call (some 40) 8 [(.t 39)]), .s (.call (some 41) 12 [(.t 38), (.t 40)]), .s (.bnot 42 (.t 41))]) (.cond (.t 42) (.seq (.reg [.s (.mv 4 (.k (.v (.c .ff))))]) (.ret)) (.skip))) (.seq (.reg [.s (.mv 4 (.k (.v (.c .tt))))]) (.ret)))))))))))))⟩
def c_laws_FnExactOnlyNumbers : Fun := ⟨4, [], fun ts K => as2 ts fun t0 t1 => arC (pL .inst) t0 fun l => arC (pL (.int .i64)) t1 fun s => chk (l.length ≤ 9223372036854775807 ∧ s.length ≤ 9223372036854775807) (K (tB true) [])⟩
theorem run_laws_FnExactOnlyNumbers (l : List (FT.Ty .inst)) (s : List (FT.Ty (.int .i64))) (hpre : l.length ≤ 9223372036854775807 ∧ s.length ≤ 9223372036854775807) : runK [c_laws_szInsS, c_laws_toInsS, c_laws_toIntS, c_laws_eqInsS, c_laws_eqIntS, c_spec_OnlyNumbers, c_impl_OnlyNumbers] (0) [] pf_laws_FnExactOnlyNumbers [tL false .inst l, tL false (.int .i64) s] fun r o => r = tB true ∧ o = [] := by
  obtain ⟨hp1, hp2⟩ := hpre
  conv => whnf
  refine sel_i (fun h => ?_) (fun h => ?_)
  · conv => whnf
    exact ⟨rfl, rfl⟩
  have hs : s.length ≤ 1048576 := by simp at h; omega
  clear h
  conv => whnf
  refine chk_i ⟨hp1, by omega, by omega⟩ ?_
  conv => whnf
  refine sel_i (fun h => ?_) (fun h => ?_)
  · conv => whnf
    exact ⟨rfl, rfl⟩
  have h : 0 ≤ szr 1048576 l.length := by simpa using h
  have hn := szr_n h
  have l1 : l.length ≤ 2147483647 := by omega
  have l2 : s.length ≤ 2147483647 := by omega
  clear h hn
  conv => whnf
  repeat' (first | (refine sel_i (fun h => ?_) (fun h => ?_) <;> conv => whnf) | (refine chk_c ?_ ?_ <;> conv => whnf) | (refine And.intro ?_ rfl) | (refine And.intro ?_ ?_ <;> conv => whnf) | (intro x y z d hd; (try have g1 := And.left hd); (try have g2 := And.right hd); (try have g3 := And.left (And.right hd)); (try have g4 := And.right (And.right hd)); conv => whnf) | (intro x y d hd; (try have g1 := And.left hd); (try have g2 := And.right hd); (try have g3 := And.left (And.right hd)); (try have g4 := And.right (And.right hd)); conv => whnf) | (intro x d hd; (try have g1 := And.left hd); (try have g2 := And.right hd); (try have g3 := And.left (And.right hd)); (try have g4 := And.right (And.right hd)); conv => whnf) | (intro d hd; (try have g1 := And.left hd); (try have g2 := And.right hd); (try have g3 := And.left (And.right hd)); (try have g4 := And.right (And.right hd)); conv => whnf))
  all_goals first
    | (refine ⟨?_⟩; exact l1)
    | (refine ⟨?_⟩; exact l2)
    | (refine ⟨?_⟩; exact ⟨l1, l2⟩)
    | rfl
    | (exact ⟨rfl, rfl⟩)
    | (exfalso; simp at h; done)
    | (exfalso; rename_i a1 d1 hd1 b1 b2; rw [only_unique hd1 hd] at h; simp at h; done)
    | trace_state
theorem ok_laws_FnExactOnlyNumbers : FunOk Try.prog c_laws_FnExactOnlyNumbers := funOk (E := [c_laws_szInsS, c_laws_toInsS, c_laws_toIntS, c_laws_eqInsS, c_laws_eqIntS, c_spec_OnlyNumbers, c_impl_OnlyNumbers]) (envOk_cons ok_laws_szInsS (envOk_cons ok_laws_toInsS (envOk_cons ok_laws_toIntS (envOk_cons ok_laws_eqInsS (envOk_cons ok_laws_eqIntS (envOk_cons ok_spec_OnlyNumbers (envOk_cons ok_impl_OnlyNumbers (envOk_nil)))))))) mixd Try.func4 (pf := pf_laws_FnExactOnlyNumbers) (by kernel_rfl) fun ts K h => by
  obtain ⟨t0, t1, e0, h⟩ := as2_out h
  subst e0
  obtain ⟨l, e1, hq⟩ := arC_out (rd_l .inst) h
  clear h
  subst e1
  have h := hq
  clear hq
  obtain ⟨s, e1, hq⟩ := arC_out (rd_l (.int .i64)) h
  clear h
  subst e1
  have h := hq
  clear hq
  obtain ⟨hpre, h⟩ := chk_o h
  exact ⟨_, _, h, Nat.le_of_ble_eq_true (show Nat.ble 2 Try.f4.ntmps = true by kernel_rfl), _, run_laws_FnExactOnlyNumbers l s hpre⟩

end Go.Pi
namespace Go.Proofs.Ytbenlebnogedlaa
open Go.Pi
theorem fnExactOnlyNumbers_lifted (os : Os) (started : os.Started) (H : Type) (enc : TypeId × Value → H) :
    ReturnsInHanded {} Try.checked os 4 .any (Rows.fnExactOnlyNumbersSpec.pre6 enc Try.prog Try.f4 Rows.fnExactOnlyNumbersRow.domain false) (Rows.fnExactOnlyNumbersSpec.post enc Try.prog Try.f4 false true false false) :=
  lifted (C := Try.checked) (E := [c_laws_szInsS, c_laws_toInsS, c_laws_toIntS, c_laws_eqInsS, c_laws_eqIntS, c_spec_OnlyNumbers, c_impl_OnlyNumbers]) (fuel := _) (pf := pf_laws_FnExactOnlyNumbers) (shs := [(false, [.sl .inst]), (false, [.sl (.int .i64)])]) (tb := 4) (by kernel_rfl) started (by kernel_rfl) Try.func4
    (ChangeSpec.witness6 (enc := enc) (C := Try.checked) false ⟨#[], #[.slice none 0 0, .slice none 0 0], []⟩ 12 (by kernel_rfl) (by kernel_rfl) (by kernel_rfl) (by kernel_rfl))
    mixd (envOk_cons ok_laws_szInsS (envOk_cons ok_laws_toInsS (envOk_cons ok_laws_toIntS (envOk_cons ok_laws_eqInsS (envOk_cons ok_laws_eqIntS (envOk_cons ok_spec_OnlyNumbers (envOk_cons ok_impl_OnlyNumbers (envOk_nil)))))))) (by kernel_rfl) (by kernel_rfl) (by kernel_rfl) rfl (by kernel_rfl) rfl (by kernel_rfl)
    (fun ds h => by
      obtain _ | ⟨d0, ds⟩ := ds
      · simp at h
      obtain _ | ⟨d1, ds⟩ := ds
      · simp at h
      obtain _ | ⟨x, ds⟩ := ds
      · rfl
      · simp at h)
    (fun ain h0 => by
      obtain ⟨T0, ain0, e, k0, h1⟩ := areCons h0
      subst e
      obtain ⟨T1, ain1, e, k1, h2⟩ := areCons h1
      subst e
      have e := areNil h2
      subst e
      obtain ⟨l, e, w0⟩ := isL k0
      subst e
      obtain ⟨s, e, w1⟩ := isL k1
      subst e
      exact run_laws_FnExactOnlyNumbers l s (⟨w0.2, w1.2⟩))
theorem fnExactOnlyNumbers_over : Rows.fnExactOnlyNumbersRow.holds Try.pinned (OpenSpec.ofChange Rows.fnExactOnlyNumbersSpec) :=
  OpenClaim.holds_of_wide 4 Try.f4 rfl rfl rfl rfl rfl rfl rfl ⟨rfl, rfl, rfl, rfl, rfl⟩ rfl rfl rfl rfl rfl (by kernel_rfl) Try.func4 (by kernel_rfl)
    (of_decide_eq_true (by kernel_rfl)) (by unfold Func.isWrapper; first | (rw [if_pos (by decide +kernel)]; kernel_rfl) | (rw [if_neg (by decide +kernel)]; exact ⟨rfl, rfl⟩))
    (fun os started H enc _ => fnExactOnlyNumbers_lifted os started H enc)
theorem fnExactOnlyNumbers_holds : Rows.FnExactOnlyNumbersSaid := fnExactOnlyNumbers_over
#print axioms fnExactOnlyNumbers_holds
end Go.Proofs.Ytbenlebnogedlaa
