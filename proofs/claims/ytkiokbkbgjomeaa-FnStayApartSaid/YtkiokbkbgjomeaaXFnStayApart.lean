/- FnStayApart: the given statement holds, out of the law's run by PI. No conditions. -/
import Derived.Test.YtkiokbkbgjomeaaC4
namespace Go.Pi
open Go.Proofs
set_option linter.unusedVariables false
set_option linter.unusedSimpArgs false
set_option maxRecDepth 100000
attribute [local irreducible] iterN
def lb_laws_FnStayApart_0 : PC := .seq (.seq (.reg [.s (.mv 24 (.t 7)), .s (.mv 25 (.t 6)), .s (.len 26 false (.t 25)), .s (.bin 27 .lss (.t 24) (.t 26))]) (.cond (.t 27) (.skip) (.exit 0))) (.seq (.blk 1 (.seq (.rgd [] [.s (.mv 31 (.t 3)), .s (.mv 32 (.t 4)), .s (.load 33 true 18 (.t 5)), .s (.mv 34 (.t 6)), .s (.mv 35 (.t 7)), .s (.ia 36 (.int .i64) (.t 34) (.t 35)), .s (.load 37 false 1 (.t 36)), .s (.call (some 38) 44 [(.t 31), (.t 32), (.t 33), (.t 37)]), .s (.mv 30 (.t 38)), .s (.ext 39 (.t 30) 0), .s (.ext 40 (.t 30) 1), .s (.alloc 8 [.nils .word, .nils .bool, .nils .word, .int .i64 0, .ff, .int .i64 0, .int .i64 0, .int .i64 0, .int .i64 0, .int .i64 0, .nils .word, .int .i64 0, .ff, .int .i64 0, .int .i64 0, .int .i64 0, .int .i64 0, .int .i64 0]), .s (.store 18 (.t 8) (.t 39)), .s (.mv 9 (.t 40))] (.tk 0 (.tk 1 (.tk 2 (.tk 3 (.tk 4 (.tk 5 (.tk 6 (.alt 7 false (.tk 8 (.tk 9 (.tk 10 (.one 11 false (.one 12 true (.tk 13 (.done (some [3, 4, 5, 6, 7, 8, 9])))))))) (.alt 11 false (.one 7 true (.tk 8 (.tk 9 (.tk 10 (.one 12 true (.tk 13 (.done (some [3, 4, 5, 6, 7, 8, 9])))))))) (.nil))))))))))) (.seq (.seq (.reg [.s (.mv 41 (.t 9)), .s (.bnot 42 (.t 41)), .s (.mv 43 (.t 42)), .g 43 false (some 44) (.load 44 true 18 (.t 8)), .g 43 false (some 45) (.call (some 45) 42 [(.t 44)]), .g 43 false (some 46) (.bnot 46 (.t 45)), .s (.pick 47 (.t 43) (.k (.v (.c .tt))) (.t 46))]) (.cond (.t 47) (.seq (.reg [.s (.mv 2 (.k (.v (.c .ff))))]) (.ret)) (.skip))) (.reg [.s (.load 48 true 18 (.t 8)), .s (.store 18 (.t 5) (.t 48))])))) (.reg [.s (.mv 28 (.t 7)), .s (.bin 29 .add (.t 28) (.k (.v (.c (.int .i64 1))))), .s (.mv 7 (.t 29))]))
def pf_laws_FnStayApart : PF := ⟨[.t 2], .seq (.reg [.s (.mv 2 (.k (.v (.c .ff))))]) (.seq (.seq (.reg [.s (.mv 10 (.t 0)), .s (.call (some 11) 8 [(.t 10)])]) (.cond (.t 11) (.seq (.reg [.s (.mv 2 (.k (.v (.c .tt))))]) (.ret)) (.skip))) (.seq (.reg [.s (.mv 13 (.t 0)), .s (.call (some 14) 41 [(.t 13)]), .s (.mv 12 (.t 14)), .s (.ext 15 (.t 12) 0), .s (.ext 16 (.t 12) 1), .s (.ext 17 (.t 12) 2), .s (.ext 18 (.t 12) 3), .s (.alloc 5 [.nils .word, .nils .bool, .nils .word, .int .i64 0, .ff, .int .i64 0, .int .i64 0, .int .i64 0, .int .i64 0, .int .i64 0, .nils .word, .int .i64 0, .ff, .int .i64 0, .int .i64 0, .int .i64 0, .int .i64 0, .int .i64 0]), .s (.mv 3 (.t 15)), .s (.mv 4 (.t 16)), .s (.store 18 (.t 5) (.t 17)), .s (.mv 6 (.t 18))]) (.seq (.seq (.reg [.s (.load 19 true 18 (.t 5)), .s (.call (some 20) 42 [(.t 19)]), .s (.bnot 21 (.t 20))]) (.cond (.t 21) (.seq (.reg [.s (.load 22 true 18 (.t 5)), .s (.call (some 23) 43 [(.t 22)]), .s (.mv 2 (.t 23))]) (.ret)) (.skip))) (.seq (.seq (.reg [.s (.mv 7 (.k (.v (.c (.int .i64 0)))))]) (.blk 0 (.loop [3, 4, 5, 6, 7] lb_laws_FnStayApart_0))) (.seq (.reg [.s (.mv 2 (.k (.v (.c .tt))))]) (.ret))))))⟩
def c_laws_FnStayApart : Fun := ⟨5, [], fun ts K => as1 ts fun t0 => arC (pL (.int .u8)) t0 fun code => chk (code.length ≤ 9223372036854775807) (K (tB true) [])⟩
theorem run_laws_FnStayApart (FU : Nat) (code : List (FT.Ty (.int .u8))) (hpre : code.length ≤ 9223372036854775807) : runK [c_laws_big, c_spec_DrawBoth, c_impl_Apart, c_impl_TwoOk, c_impl_TwoStep] (100 + FU) [] pf_laws_FnStayApart [tL false (.int .u8) code] fun r o => r = tB true ∧ o = [] := by
  conv => whnf
  refine sel_i (fun h => ?_) (fun h => ?_) <;> conv => whnf
  · exact ⟨rfl, rfl⟩
  have hc : code.length ≤ 1048576 := by simp at h; omega
  clear h
  refine chk_i hc ?_
  conv => whnf
  repeat' (first | (refine sel_i (fun h => ?_) (fun h => ?_) <;> conv => whnf) | (refine chk_c ?_ ?_ <;> conv => whnf) | (refine And.intro ?_ rfl) | (refine And.intro ?_ ?_ <;> conv => whnf) | (intro x y z d hd; (try have g1 := And.left hd); (try have g2 := And.right hd); (try have g3 := And.left (And.right hd)); (try have g4 := And.right (And.right hd)); conv => whnf) | (intro x y d hd; (try have g1 := And.left hd); (try have g2 := And.right hd); (try have g3 := And.left (And.right hd)); (try have g4 := And.right (And.right hd)); conv => whnf) | (intro x d hd; (try have g1 := And.left hd); (try have g2 := And.right hd); (try have g3 := And.left (And.right hd)); (try have g4 := And.right (And.right hd)); conv => whnf) | (intro d hd; (try have g1 := And.left hd); (try have g2 := And.right hd); (try have g3 := And.left (And.right hd)); (try have g4 := And.right (And.right hd)); conv => whnf))
  all_goals (try simp only [etaKey, etaWord, etaMemory, etaState, etaSide, etaTwo] at *)
  all_goals first
    | rfl
    | trivial
    | (exact ⟨rfl, rfl⟩)
    | (refine ⟨?_⟩; assumption)
    | (refine ⟨?_⟩; exact (twoOk_l (by assumption)).mono (by decide))
    | (show _ = tB true; rw [show twoOk z = true by assumption]; done)
    | skip
  obtain ⟨hd1, hd2, hd3, hd4⟩ := hd
  have hap : apartB z = true := by simpa using h
  clear h
  refine loop (α := Nat × Two) (fun q => ⟨[(3, .v (.c (.sl false .inst 0))), (4, .v (.c (.sl false .inst 1))), (5, .v (.c (.ptr 2 0))), (6, .v (.c (.sl false (.int .i64) 7))), (7, .v (.c (.int .i64 (q.1 : Int))))],
        [(7, some (.flat true (.int .i64) none d)), (6, some (.flat true .word none q.2.b.regs)), (5, some (.flat true .word none q.2.a.regs)), (4, some (.flat true .bool none q.2.mem.gone)), (3, some (.flat true .word none q.2.mem.words)), (2, some (.box true (twoC q.2.mem q.2.a q.2.b 3 4 5 6))),
          (1, some (.flat true .inst none y)), (0, some (.flat true .inst none x))], nums.tail.tail.tail.tail.tail.tail.tail.tail, [], false, []⟩)
      (fun q => q.1 ≤ d.length ∧ apartB q.2 = true) (fun q => d.length - q.1) (fun q R hI hR => ?_) (0, z) _ ⟨Nat.zero_le _, hap⟩ (by show d.length - 0 < 100 + FU; omega)
  obtain ⟨i, t⟩ := q
  obtain ⟨hi, ht⟩ := hI
  dsimp only at hi ht ⊢
  conv => whnf
  refine sel_i (fun h => ?_) (fun h => ?_)
  rotate_left
  · conv => whnf
    exact ⟨rfl, rfl⟩
  have hi2 : i < d.length := by have := of_decide_eq_true h; omega
  clear h
  obtain ⟨e1, e2⟩ := apart_step (a := x) (b := y) ht (hd4 _ (getD_memI hi2))
  have hok := twoOk_l (apartB_ok ht)
  have hok2 := twoOk_l (apartB_ok e2)
  have hb := hok.big
  have hb2 := hok2.mono (show 24 ≤ 1048576 by decide)
  conv => whnf
  repeat' (first | (refine sel_i (fun h => ?_) (fun h => ?_) <;> conv => whnf) | (refine chk_c ?_ ?_ <;> conv => whnf) | (refine And.intro ?_ rfl) | (refine And.intro ?_ ?_ <;> conv => whnf))
  all_goals (try simp only [etaKey, etaWord, etaMemory, etaState, etaSide, etaTwo, Int.toNat_natCast, Bool.not_eq_true', Bool.not_eq_false'] at *)
  all_goals first
    | (refine ⟨?_⟩; omega)
    | (refine ⟨?_⟩; exact ⟨by omega, by omega⟩)
    | (refine ⟨?_⟩; exact ⟨by omega, by omega, hb⟩)
    | (refine ⟨?_⟩; exact hb2)
    | trivial
    | (exfalso; have h5 : (twoStep x y t (d.getD i 0)).2 = false := h; rw [e1] at h5; cases h5; done)
    | (exfalso; have h5 : apartB (twoStep x y t (d.getD i 0)).1 = false := h; rw [e2] at h5; cases h5; done)
    | (rw [wrap_id (n := (i : Int) + 1) (by omega) (by omega)]; exact hR (i + 1, (twoStep x y t (d.getD i 0)).1) ⟨hi2, e2⟩ (by show d.length - (i + 1) < d.length - i; omega))
    | trace_state
theorem ok_laws_FnStayApart : FunOk Try.prog c_laws_FnStayApart := funOk (E := [c_laws_big, c_spec_DrawBoth, c_impl_Apart, c_impl_TwoOk, c_impl_TwoStep]) (envOk_cons ok_laws_big (envOk_cons ok_spec_DrawBoth (envOk_cons ok_impl_Apart (envOk_cons ok_impl_TwoOk (envOk_cons ok_impl_TwoStep (envOk_nil)))))) mixd Try.func5 (pf := pf_laws_FnStayApart) (by kernel_rfl) fun ts K h => by
  obtain ⟨t0, e0, h⟩ := as1_out h
  subst e0
  obtain ⟨code, e1, hq⟩ := arC_out (rd_l (.int .u8)) h
  clear h
  subst e1
  have h := hq
  clear hq
  obtain ⟨hpre, h⟩ := chk_o h
  exact ⟨_, _, h, Nat.le_of_ble_eq_true (show Nat.ble 1 Try.f5.ntmps = true by kernel_rfl), _, run_laws_FnStayApart 0 code hpre⟩

end Go.Pi
namespace Go.Proofs.Ytkiokbkbgjomeaa
open Go.Pi
theorem fnStayApart_lifted (os : Os) (started : os.Started) (H : Type) (enc : TypeId × Value → H) :
    ReturnsInHanded {} Try.checked os 5 .any (Rows.fnStayApartSpec.pre6 enc Try.prog Try.f5 Rows.fnStayApartRow.domain false) (Rows.fnStayApartSpec.post enc Try.prog Try.f5 false true false false) :=
  lifted (C := Try.checked) (E := [c_laws_big, c_spec_DrawBoth, c_impl_Apart, c_impl_TwoOk, c_impl_TwoStep]) (fuel := _) (pf := pf_laws_FnStayApart) (shs := [(false, [.sl (.int .u8)])]) (tb := 4) (by kernel_rfl) started (by kernel_rfl) Try.func5
    (ChangeSpec.witness6 (enc := enc) (C := Try.checked) false ⟨#[], #[.slice none 0 0], []⟩ 12 (by kernel_rfl) (by kernel_rfl) (by kernel_rfl) (by kernel_rfl))
    mixd (envOk_cons ok_laws_big (envOk_cons ok_spec_DrawBoth (envOk_cons ok_impl_Apart (envOk_cons ok_impl_TwoOk (envOk_cons ok_impl_TwoStep (envOk_nil)))))) (by kernel_rfl) (by kernel_rfl) (by kernel_rfl) rfl (by kernel_rfl) rfl
    (fun ds h => by
      obtain _ | ⟨d0, ds⟩ := ds
      · simp at h
      obtain _ | ⟨x, ds⟩ := ds
      · rfl
      · simp at h)
    (fun ain h0 => by
      obtain ⟨T0, ain0, e, k0, h1⟩ := areCons h0
      subst e
      have e := areNil h1
      subst e
      obtain ⟨code, e, w0⟩ := isL k0
      subst e
      exact run_laws_FnStayApart 0 code (w0.2))
theorem fnStayApart_over : Rows.fnStayApartRow.holds Try.pinned (OpenSpec.ofChange Rows.fnStayApartSpec) :=
  OpenClaim.holds_of_wide 5 Try.f5 rfl rfl rfl rfl rfl rfl rfl ⟨rfl, rfl, rfl, rfl, rfl⟩ rfl rfl rfl rfl rfl (by kernel_rfl) Try.func5 (by kernel_rfl)
    (of_decide_eq_true (by kernel_rfl)) (by unfold Func.isWrapper; first | (rw [if_pos (by decide +kernel)]; kernel_rfl) | (rw [if_neg (by decide +kernel)]; exact ⟨rfl, rfl⟩))
    (fun os started H enc _ => fnStayApart_lifted os started H enc)
theorem fnStayApart_holds : Rows.FnStayApartSaid := fnStayApart_over
#print axioms fnStayApart_holds
end Go.Proofs.Ytkiokbkbgjomeaa
