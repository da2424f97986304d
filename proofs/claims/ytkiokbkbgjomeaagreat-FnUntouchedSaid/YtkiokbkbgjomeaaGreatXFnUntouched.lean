/- FnUntouched: the given statement holds, out of the law's run by PI. No conditions. -/
import Derived.Test.YtkiokbkbgjomeaaGreatC5
namespace Go.Pi
open Go.Proofs
set_option linter.unusedVariables false
set_option linter.unusedSimpArgs false
set_option maxRecDepth 100000
attribute [local irreducible] iterN
def lb_laws_FnUntouched_0 : PC := .seq (.seq (.reg [.s (.mv 47 (.t 11)), .s (.bin 48 .lss (.t 47) (.k (.v (.c (.int .i64 24)))))]) (.cond (.t 48) (.skip) (.exit 0))) (.seq (.blk 1 (.seq (.rgd [] [.s (.fa 51 (.t 4) 7), .s (.fa 52 (.t 51) 0), .s (.load 53 false 1 (.t 52)), .s (.mv 54 (.t 11)), .s (.ia 55 .word (.t 53) (.t 54)), .s (.load 56 true 6 (.t 55)), .s (.fa 57 (.t 7) 7), .s (.fa 58 (.t 57) 0), .s (.load 59 false 1 (.t 58)), .s (.mv 60 (.t 11)), .s (.ia 61 .word (.t 59) (.t 60)), .s (.load 62 true 6 (.t 61)), .s (.eqs 63 true [.i, .b, .i, .i, .i, .i] true (.t 56) (.t 62)), .s (.mv 64 (.t 63)), .g 64 true (some 65) (.mv 65 (.t 6)), .g 64 true (some 66) (.mv 66 (.t 11)), .g 64 true (some 67) (.call (some 67) 22 [(.t 65), (.t 66)]), .g 64 true (some 68) (.bnot 68 (.t 67)), .s (.pick 69 (.t 64) (.t 68) (.k (.v (.c .ff))))] (.tk 0 (.tk 1 (.tk 2 (.tk 3 (.tk 4 (.tk 5 (.tk 6 (.tk 7 (.tk 8 (.tk 9 (.tk 10 (.tk 11 (.tk 12 (.tk 13 (.tk 14 (.tk 15 (.one 16 true (.tk 17 (.tk 18 (.done none))))))))))))))))))))) (.cond (.t 69) (.seq (.reg [.s (.mv 2 (.k (.v (.c .ff))))]) (.ret)) (.skip)))) (.reg [.s (.mv 49 (.t 11)), .s (.bin 50 .add (.t 49) (.k (.v (.c (.int .i64 1))))), .s (.mv 11 (.t 50))]))
def pf_laws_FnUntouched : PF := ⟨[.t 2], .seq (.reg [.s (.mv 2 (.k (.v (.c .ff))))]) (.seq (.seq (.reg [.s (.mv 12 (.t 0)), .s (.call (some 13) 10 [(.t 12)])]) (.cond (.t 13) (.seq (.reg [.s (.mv 2 (.k (.v (.c .tt))))]) (.ret)) (.skip))) (.seq (.reg [.s (.mv 15 (.t 0)), .s (.call (some 16) 11 [(.t 15)]), .s (.mv 14 (.t 16)), .s (.ext 17 (.t 14) 0), .s (.ext 18 (.t 14) 1), .s (.alloc 4 [.nils .word, .int .i64 0, .ff, .int .i64 0, .int .i64 0, .int .i64 0, .int .i64 0, .nils .word, .nils .bool, .int .i64 0]), .s (.mv 3 (.t 17)), .s (.store 10 (.t 4) (.t 18))]) (.seq (.rgd [] [.s (.bs 19 .word []), .s (.fa 20 (.t 4) 0), .s (.load 21 false 1 (.t 20)), .s (.app 22 .word (.t 19) (.t 21)), .s (.fa 23 (.t 4) 1), .s (.load 24 true 6 (.t 23)), .s (.bs 25 .word [(.t 24)]), .s (.app 26 .word (.t 22) (.t 25)), .s (.mv 5 (.t 26))] (.tk 1 (.tk 2 (.tk 4 (.tk 5 (.alt 0 false (.alt 3 false (.one 6 false (.one 7 true (.tk 8 (.done (some [3, 4, 5]))))) (.alt 6 false (.one 3 false (.one 7 true (.tk 8 (.done (some [3, 4, 5]))))) (.nil))) (.alt 6 false (.one 0 false (.one 3 false (.one 7 true (.tk 8 (.done (some [3, 4, 5])))))) (.nil)))))))) (.seq (.reg [.s (.fa 27 (.t 4) 7), .s (.load 28 true 2 (.t 27)), .s (.mv 29 (.t 5)), .s (.call (some 30) 15 [(.t 28), (.t 29)]), .s (.mv 6 (.t 30))]) (.seq (.reg [.s (.mv 32 (.t 3)), .s (.load 33 true 10 (.t 4)), .s (.call (some 34) 19 [(.t 32), (.t 33), (.k (.v (.c (.int .i64 30))))]), .s (.mv 31 (.t 34)), .s (.ext 35 (.t 31) 0), .s (.ext 36 (.t 31) 1), .s (.alloc 7 [.nils .word, .int .i64 0, .ff, .int .i64 0, .int .i64 0, .int .i64 0, .int .i64 0, .nils .word, .nils .bool, .int .i64 0]), .s (.store 10 (.t 7) (.t 35)), .s (.mv 8 (.t 36))]) (.seq (.reg [.s (.mv 38 (.t 3)), .s (.load 39 true 10 (.t 4)), .s (.call (some 40) 20 [(.t 38), (.t 39), (.k (.v (.c (.int .i64 30))))]), .s (.mv 37 (.t 40)), .s (.ext 41 (.t 37) 0), .s (.ext 42 (.t 37) 1), .s (.alloc 9 [.nils .word, .int .i64 0, .ff, .int .i64 0, .int .i64 0, .int .i64 0, .int .i64 0, .nils .word, .nils .bool, .int .i64 0]), .s (.store 10 (.t 9) (.t 41)), .s (.mv 10 (.t 42))]) (.seq (.seq (.reg [.s (.load 43 true 10 (.t 7)), .s (.load 44 true 10 (.t 9)), .s (.call (some 45) 21 [(.t 43), (.t 44)]), .s (.bnot 46 (.t 45))]) (.cond (.t 46) (.seq (.reg [.s (.mv 2 (.k (.v (.c .ff))))]) (.ret)) (.skip))) (.seq (.seq (.reg [.s (.mv 11 (.k (.v (.c (.int .i64 0)))))]) (.blk 0 (.loop [4, 6, 7, 11] lb_laws_FnUntouched_0))) (.seq (.reg [.s (.mv 2 (.k (.v (.c .tt))))]) (.ret))))))))))⟩
def c_laws_FnUntouched : Fun := ⟨4, [], fun ts K => as1 ts fun t0 => arC (pL (.int .u8)) t0 fun code => chk (code.length ≤ 9223372036854775807) (K (tB true) [])⟩
theorem run_laws_FnUntouched (FU : Nat) (code : List (FT.Ty (.int .u8))) (hpre : code.length ≤ 9223372036854775807) : runK [c_laws_big, c_spec_DrawGoing, c_impl_StoreCells, c_impl_InOrder, c_spec_InOrder, c_impl_Alike, c_laws_hasInt] (100 + FU) [] pf_laws_FnUntouched [tL false (.int .u8) code] fun r o => r = tB true ∧ o = [] := by
  conv => whnf
  refine sel_i (fun h => ?_) (fun h => ?_) <;> conv => whnf
  · exact ⟨rfl, rfl⟩
  have hc : code.length ≤ 1048576 := by simp at h; omega
  clear h
  refine chk_i hc ?_
  conv => whnf
  repeat' (first | (refine sel_i (fun h => ?_) (fun h => ?_) <;> conv => whnf) | (refine chk_c ?_ ?_ <;> conv => whnf) | (refine And.intro ?_ rfl) | (refine And.intro ?_ ?_ <;> conv => whnf) | (intro x y z d hd; (try have g1 := And.left hd); (try have g2 := And.right hd); (try have g3 := And.left (And.right hd)); (try have g4 := And.right (And.right hd)); conv => whnf) | (intro x y d hd; (try have g1 := And.left hd); (try have g2 := And.right hd); (try have g3 := And.left (And.right hd)); (try have g4 := And.right (And.right hd)); conv => whnf) | (intro x d hd; (try have g1 := And.left hd); (try have g2 := And.right hd); (try have g3 := And.left (And.right hd)); (try have g4 := And.right (And.right hd)); conv => whnf) | (intro d hd; (try have g1 := And.left hd); (try have g2 := And.right hd); (try have g3 := And.left (And.right hd)); (try have g4 := And.right (And.right hd)); conv => whnf))
  all_goals (try simp only [etaKey, etaWord, etaMemory, etaState, holdE] at *)
  all_goals first
    | rfl
    | trivial
    | (exact ⟨rfl, rfl⟩)
    | (refine ⟨?_⟩; exact (stateOk_len hd.2).l)
    | (exfalso; simp at h; done)
    | (refine ⟨?_⟩; exact ⟨by omega, (stateOk_len hd.2).l⟩)
    | (refine ⟨?_⟩; exact ⟨inOrder_len (stateOk_len hd.2).l, inOrder_len (stateOk_len hd.2).l⟩)
    | (refine ⟨?_⟩; have hl := stateOk_len hd.2; have h1 := hl.1; have h2 := hl.2.1; have h3 := hl.2.2; first | (show _ ≤ _; simp [h1]; done) | (refine ⟨⟨?_, ?_⟩, ?_⟩ <;> first | omega | (simp [hold, h1]; done)))
    | skip
  have hs := hd.2
  have hC := inv_first hs
  have hk := stateOk_len (inOrder_ok (l := x) (n := 30) hs)
  obtain ⟨k1, k2, k3⟩ := hk
  obtain ⟨n1, n2, n3⟩ := stateOk_len hs
  have ht := fun c => inOrder_touch (l := x) (n := 30) hC (c := c)
  clear h
  refine loop (α := Nat) (fun i => ⟨[(4, .v (.c (.ptr 0 0))), (6, .v (.c (.sl false (.int .i64) 4))), (7, .v (.c (.ptr 5 0))), (11, .v (.c (.int .i64 (i : Int))))],
        [(8, some (.flat true .bool none (inOrder x d 30).1.mem.gone)), (7, some (.flat true .word none (inOrder x d 30).1.mem.words)), (6, some (.flat true .word none (inOrder x d 30).1.regs)), (5, some (.box true (stC (inOrder x d 30).1 6 7 8 []))),
          (4, some (.flat true (.int .i64) none (cellsBy d.mem (hold d) 2))),
          (3, some (.flat true .bool none d.mem.gone)), (2, some (.flat true .word none d.mem.words)), (1, some (.flat true .word none d.regs)), (0, some (.box true (stC d 1 2 3 [])))], nums.tail.tail.tail.tail.tail.tail.tail.tail.tail, [], false, []⟩)
      (fun i => i ≤ 24) (fun i => 24 - i) (fun i R hI hR => ?_) 0 _ (Nat.zero_le _) (by show 24 - 0 < 100 + FU; omega)
  conv => whnf
  repeat' (first | (refine sel_i (fun h => ?_) (fun h => ?_) <;> conv => whnf) | (refine chk_c ?_ ?_ <;> conv => whnf) | (refine And.intro ?_ rfl) | (refine And.intro ?_ ?_ <;> conv => whnf))
  all_goals (try simp only [eqWd, etaKey, etaWord, etaMemory, etaState, Int.toNat_natCast, Bool.not_eq_true', Bool.not_eq_false', decide_eq_true_eq, decide_eq_false_iff_not] at *)
  all_goals first
    | rfl
    | trivial
    | (exact ⟨rfl, rfl⟩)
    | (refine ⟨?_⟩; omega)
    | (rw [wrap_id (n := (i : Int) + 1) (by omega) (by omega)]; exact hR (i + 1) (by omega) (by omega))
    | (refine ⟨?_⟩; exact Nat.le_trans (cellsBy_le _ _ _) (by decide))
    | (exfalso
       obtain ⟨t1, t2⟩ := ht i (by assumption)
       have hm : (i : Int) ∈ cellsBy d.mem (hold d) 2 := mem_cellsBy.2 ⟨i, t1, t2, rfl⟩
       rw [List.any_eq_false] at h
       exact h _ hm (by simp))
    | trace_state
theorem ok_laws_FnUntouched : FunOk Tryz.prog c_laws_FnUntouched := funOk (E := [c_laws_big, c_spec_DrawGoing, c_impl_StoreCells, c_impl_InOrder, c_spec_InOrder, c_impl_Alike, c_laws_hasInt]) (envOk_cons ok_laws_big (envOk_cons ok_spec_DrawGoing (envOk_cons ok_impl_StoreCells (envOk_cons ok_impl_InOrder (envOk_cons ok_spec_InOrder (envOk_cons ok_impl_Alike (envOk_cons ok_laws_hasInt (envOk_nil)))))))) mixd Tryz.func4 (pf := pf_laws_FnUntouched) (by kernel_rfl) fun ts K h => by
  obtain ⟨t0, e0, h⟩ := as1_out h
  subst e0
  obtain ⟨code, e1, hq⟩ := arC_out (rd_l (.int .u8)) h
  clear h
  subst e1
  have h := hq
  clear hq
  obtain ⟨hpre, h⟩ := chk_o h
  exact ⟨_, _, h, Nat.le_of_ble_eq_true (show Nat.ble 1 Tryz.f4.ntmps = true by kernel_rfl), _, run_laws_FnUntouched 0 code hpre⟩

end Go.Pi
namespace Go.Proofs.YtkiokbkbgjomeaaGreat
open Go.Pi
theorem fnUntouched_lifted (os : Os) (started : os.Started) (H : Type) (enc : TypeId × Value → H) :
    ReturnsInHanded {} Tryz.checked os 4 .any (Rows.fnUntouchedSpec.pre6 enc Tryz.prog Tryz.f4 Rows.fnUntouchedRow.domain false) (Rows.fnUntouchedSpec.post enc Tryz.prog Tryz.f4 false true false false) :=
  lifted (C := Tryz.checked) (E := [c_laws_big, c_spec_DrawGoing, c_impl_StoreCells, c_impl_InOrder, c_spec_InOrder, c_impl_Alike, c_laws_hasInt]) (fuel := _) (pf := pf_laws_FnUntouched) (shs := [(false, [.sl (.int .u8)])]) (tb := 4) (by kernel_rfl) started (by kernel_rfl) Tryz.func4
    (ChangeSpec.witness6 (enc := enc) (C := Tryz.checked) false ⟨#[], #[.slice none 0 0], []⟩ 12 (by kernel_rfl) (by kernel_rfl) (by kernel_rfl) (by kernel_rfl))
    mixd (envOk_cons ok_laws_big (envOk_cons ok_spec_DrawGoing (envOk_cons ok_impl_StoreCells (envOk_cons ok_impl_InOrder (envOk_cons ok_spec_InOrder (envOk_cons ok_impl_Alike (envOk_cons ok_laws_hasInt (envOk_nil)))))))) (by kernel_rfl) (by kernel_rfl) (by kernel_rfl) rfl (by kernel_rfl) rfl
    (fun ds h => by
      obtain _ | ⟨d0, ds⟩ := ds
      · simp at h
      obtain _ | ⟨x, ds⟩ := ds
      · rfl
      · simp at h)
    (fun ain h0 => by
      obtain ⟨T0, ain0, e, k0, h1⟩ := areCons h0
      subst e
      have e := areNil h1
      subst e
      obtain ⟨code, e, w0⟩ := isL k0
      subst e
      exact run_laws_FnUntouched 0 code (w0.2))
theorem fnUntouched_over : Rows.fnUntouchedRow.holds Tryz.pinned (OpenSpec.ofChange Rows.fnUntouchedSpec) :=
  OpenClaim.holds_of_wide 4 Tryz.f4 rfl rfl rfl rfl rfl rfl rfl ⟨rfl, rfl, rfl, rfl, rfl⟩ rfl rfl rfl rfl rfl (by kernel_rfl) Tryz.func4 (by kernel_rfl)
    (of_decide_eq_true (by kernel_rfl)) (by unfold Func.isWrapper; first | (rw [if_pos (by decide +kernel)]; kernel_rfl) | (rw [if_neg (by decide +kernel)]; exact ⟨rfl, rfl⟩))
    (fun os started H enc _ => fnUntouched_lifted os started H enc)
theorem fnUntouched_holds : Rows.FnUntouchedSaid := fnUntouched_over
#print axioms fnUntouched_holds
end Go.Proofs.YtkiokbkbgjomeaaGreat
