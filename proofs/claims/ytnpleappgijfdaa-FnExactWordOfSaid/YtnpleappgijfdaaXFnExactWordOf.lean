/- FnExactWordOf: the given statement holds, out of the law's run by PI. No conditions. -/
import Derived.Test.YtnpleappgijfdaaCN
namespace Go.Pi
open Go.Proofs
set_option linter.unusedVariables false
set_option linter.unusedSimpArgs false
set_option maxRecDepth 100000
attribute [local irreducible] iterN
def pf_laws_FnExactWordOf : PF := ⟨[.t 4], .seq (.reg [.s (.mv 4 (.k (.v (.c .ff))))]) (.seq (.seq (.reg [.s (.mv 12 (.t 0)), .s (.len 13 false (.t 12)), .s (.bin 14 .gtr (.t 13) (.k (.v (.c (.int .i64 1048576)))))]) (.cond (.t 14) (.seq (.reg [.s (.mv 4 (.k (.v (.c .tt))))]) (.ret)) (.skip))) (.seq (.reg [.s (.mv 16 (.t 0)), .s (.call (some 17) 33 [(.t 16)]), .s (.mv 18 (.t 1)), .s (.call (some 19) 32 [(.t 17), (.t 18)]), .s (.mv 15 (.t 19)), .s (.ext 20 (.t 15) 0), .s (.ext 21 (.t 15) 1), .s (.ext 22 (.t 15) 2), .s (.alloc 5 [.int .i64 0, .ff, .int .i64 0, .int .i64 0, .int .i64 0, .int .i64 0]), .s (.store 6 (.t 5) (.t 20)), .s (.mv 6 (.t 21)), .s (.mv 7 (.t 22))]) (.seq (.reg [.s (.mv 23 (.t 0)), .s (.call (some 24) 33 [(.t 23)]), .s (.mv 8 (.t 24))]) (.seq (.reg [.s (.mv 26 (.t 8)), .s (.mv 27 (.t 1)), .s (.call (some 28) 34 [(.t 26), (.t 27)]), .s (.mv 25 (.t 28)), .s (.ext 29 (.t 25) 0), .s (.ext 30 (.t 25) 1), .s (.ext 31 (.t 25) 2), .s (.alloc 9 [.int .i64 0, .ff, .int .i64 0, .int .i64 0, .int .i64 0, .int .i64 0]), .s (.store 6 (.t 9) (.t 29)), .s (.mv 10 (.t 30)), .s (.mv 11 (.t 31))]) (.seq (.seq (.reg [.s (.load 32 true 6 (.t 9)), .s (.load 33 true 6 (.t 5)), .s (.call (some 34) 35 [(.t 32), (.t 33)]), .s (.bnot 35 (.t 34)), .s (.mv 36 (.t 35)), .g 36 false (some 37) (.mv 37 (.t 10)), .g 36 false (some 38) (.mv 38 (.t 6)), .g 36 false (some 39) (.bin 39 .neq (.t 37) (.t 38)), .s (.pick 40 (.t 36) (.k (.v (.c .tt))) (.t 39)), .s (.mv 41 (.t 40)), .g 41 false (some 42) (.mv 42 (.t 11)), .g 41 false (some 43) (.mv 43 (.t 7)), .g 41 false (some 44) (.eqs 44 false [.b] true (.t 42) (.t 43)), .s (.pick 45 (.t 41) (.k (.v (.c .tt))) (.t 44))]) (.cond (.t 45) (.seq (.reg [.s (.mv 4 (.k (.v (.c .ff))))]) (.ret)) (.skip))) (.seq (.seq (.reg [.s (.mv 46 (.t 8)), .s (.mv 47 (.t 0)), .s (.call (some 48) 33 [(.t 47)]), .s (.call (some 49) 29 [(.t 46), (.t 48)]), .s (.bnot 50 (.t 49))]) (.cond (.t 50) (.seq (.reg [.s (.mv 4 (.k (.v (.c .ff))))]) (.ret)) (.skip))) (.seq (.reg [.s (.mv 4 (.k (.v (.c .tt))))]) (.ret))))))))⟩
def c_laws_FnExactWordOf : Fun := ⟨8, [], fun ts K => as2 ts fun t0 t1 => arC (pL (.int .u8)) t0 fun b => arC (pI .i64) t1 fun at_ => chk (b.length ≤ 9223372036854775807 ∧ U8s b ∧ wfI .i64 at_) (K (tB true) [])⟩
theorem run_laws_FnExactWordOf (b : List (FT.Ty (.int .u8))) (at_ : Int) (hpre : b.length ≤ 9223372036854775807 ∧ U8s b ∧ wfI .i64 at_) : runK [c_laws_eqByteS, c_spec_WordOf, c_laws_toByteS, c_impl_WordOf, c_laws_eqWord] (0) [] pf_laws_FnExactWordOf [tL false (.int .u8) b, tI .i64 at_] fun r o => r = tB true ∧ o = [] := by
  obtain ⟨l1, l2, l3⟩ := hpre
  conv => whnf
  refine sel_i (fun h => ?_) (fun h => ?_)
  · conv => whnf
    repeat' (first | (refine sel_i (fun h => ?_) (fun h => ?_) <;> conv => whnf) | (refine chk_c ?_ ?_ <;> conv => whnf) | (refine And.intro ?_ rfl) | (refine And.intro ?_ ?_ <;> conv => whnf))
    rfl
  have hb : b.length ≤ 1048576 := by simp at h; omega
  clear h
  conv => whnf
  repeat' (first | (refine sel_i (fun h => ?_) (fun h => ?_) <;> conv => whnf) | (refine chk_c ?_ ?_ <;> conv => whnf) | (refine And.intro ?_ rfl) | (refine And.intro ?_ ?_ <;> conv => whnf))
  all_goals first
    | (refine ⟨?_⟩; omega)
    | (refine ⟨?_⟩; exact ⟨hb, l2, l3⟩)
    | rfl
    | (exfalso; simp only [etaKey, etaWord] at *; simp at *; done)
theorem ok_laws_FnExactWordOf : FunOk Try.prog c_laws_FnExactWordOf := funOk (E := [c_laws_eqByteS, c_spec_WordOf, c_laws_toByteS, c_impl_WordOf, c_laws_eqWord]) (envOk_cons ok_laws_eqByteS (envOk_cons ok_spec_WordOf (envOk_cons ok_laws_toByteS (envOk_cons ok_impl_WordOf (envOk_cons ok_laws_eqWord (envOk_nil)))))) mixd Try.func8 (pf := pf_laws_FnExactWordOf) (by kernel_rfl) fun ts K h => by
  obtain ⟨t0, t1, e0, h⟩ := as2_out h
  subst e0
  obtain ⟨b, e1, hq⟩ := arC_out (rd_l (.int .u8)) h
  clear h
  subst e1
  have h := hq
  clear hq
  obtain ⟨at_, e1, hq⟩ := arC_out (rd_int .i64) h
  clear h
  subst e1
  have h := hq
  clear hq
  obtain ⟨hpre, h⟩ := chk_o h
  exact ⟨_, _, h, Nat.le_of_ble_eq_true (show Nat.ble 2 Try.f8.ntmps = true by kernel_rfl), _, run_laws_FnExactWordOf b at_ hpre⟩

end Go.Pi
namespace Go.Proofs.Ytnpleappgijfdaa
open Go.Pi
theorem fnExactWordOf_lifted (os : Os) (started : os.Started) (H : Type) (enc : TypeId × Value → H) :
    ReturnsInHanded {} Try.checked os 8 .any (Rows.fnExactWordOfSpec.pre6 enc Try.prog Try.f8 Rows.fnExactWordOfRow.domain false) (Rows.fnExactWordOfSpec.post enc Try.prog Try.f8 false true false false) :=
  lifted (C := Try.checked) (E := [c_laws_eqByteS, c_spec_WordOf, c_laws_toByteS, c_impl_WordOf, c_laws_eqWord]) (fuel := _) (pf := pf_laws_FnExactWordOf) (shs := [(false, [.sl (.int .u8)]), (false, [.int .i64])]) (tb := 4) (by kernel_rfl) started (by kernel_rfl) Try.func8
    (ChangeSpec.witness6 (enc := enc) (C := Try.checked) false ⟨#[], #[.slice none 0 0, .int .i64 0], []⟩ 12 (by kernel_rfl) (by kernel_rfl) (by kernel_rfl) (by kernel_rfl))
    mixd (envOk_cons ok_laws_eqByteS (envOk_cons ok_spec_WordOf (envOk_cons ok_laws_toByteS (envOk_cons ok_impl_WordOf (envOk_cons ok_laws_eqWord (envOk_nil)))))) (by kernel_rfl) (by kernel_rfl) (by kernel_rfl) rfl (by kernel_rfl) rfl
    (fun ds h => by
      obtain _ | ⟨d0, ds⟩ := ds
      · simp at h
      obtain _ | ⟨d1, ds⟩ := ds
      · simp at h
      obtain _ | ⟨x, ds⟩ := ds
      · rfl
      · simp at h)
    (fun ain h0 => by
      obtain ⟨T0, ain0, e, k0, h1⟩ := areCons h0
      subst e
      obtain ⟨T1, ain1, e, k1, h2⟩ := areCons h1
      subst e
      have e := areNil h2
      subst e
      obtain ⟨b, e, w0⟩ := isL k0
      subst e
      obtain ⟨at_, e, w1⟩ := isN k1
      subst e
      exact run_laws_FnExactWordOf b at_ (⟨w0.2, fun x hx => wfU8 (w0.1 x hx), w1⟩))
theorem fnExactWordOf_over : Rows.fnExactWordOfRow.holds Try.pinned (OpenSpec.ofChange Rows.fnExactWordOfSpec) :=
  OpenClaim.holds_of_wide 8 Try.f8 rfl rfl rfl rfl rfl rfl rfl ⟨rfl, rfl, rfl, rfl, rfl⟩ rfl rfl rfl rfl rfl (by kernel_rfl) Try.func8 (by kernel_rfl)
    (of_decide_eq_true (by kernel_rfl)) (by unfold Func.isWrapper; first | (rw [if_pos (by decide +kernel)]; kernel_rfl) | (rw [if_neg (by decide +kernel)]; exact ⟨rfl, rfl⟩))
    (fun os started H enc _ => fnExactWordOf_lifted os started H enc)
theorem fnExactWordOf_holds : Rows.FnExactWordOfSaid := fnExactWordOf_over
#print axioms fnExactWordOf_holds
end Go.Proofs.Ytnpleappgijfdaa
