/- FnReached: the given statement holds, out of the law's run by PI. No conditions. -/
import Derived.Test.YthpjpaginggjaaaC3
namespace Go.Pi
open Go.Proofs
set_option linter.unusedVariables false
set_option linter.unusedSimpArgs false
set_option maxRecDepth 100000
attribute [local irreducible] iterN
def lb_laws_FnReached_0 : PC := .seq (.seq (.reg [.s (.mv 79 (.t 12)), .s (.mv 80 (.t 4)), .s (.len 81 false (.t 80)), .s (.bin 82 .lss (.t 79) (.t 81))]) (.cond (.t 82) (.skip) (.exit 0))) (.seq (.blk 1 (.seq (.reg [.s (.mv 85 (.t 4)), .s (.mv 86 (.t 12)), .s (.ia 87 .word (.t 85) (.t 86)), .s (.load 88 true 6 (.t 87)), .s (.call (some 89) 28 [(.t 88)]), .s (.mv 90 (.t 89)), .g 90 true (some 91) (.mv 91 (.t 4)), .g 90 true (some 92) (.mv 92 (.t 12)), .g 90 true (some 93) (.ia 93 .word (.t 91) (.t 92)), .g 90 true (some 94) (.load 94 true 6 (.t 93)), .g 90 true (some 95) (.mv 95 (.t 5)), .g 90 true (some 96) (.call (some 96) 29 [(.t 94), (.t 95)]), .g 90 true (some 97) (.bnot 97 (.t 96)), .s (.pick 98 (.t 90) (.t 97) (.k (.v (.c .ff))))]) (.cond (.t 98) (.seq (.reg [.s (.mv 2 (.k (.v (.c .ff))))]) (.ret)) (.skip)))) (.reg [.s (.mv 83 (.t 12)), .s (.bin 84 .add (.t 83) (.k (.v (.c (.int .i64 1))))), .s (.mv 12 (.t 84))]))
def pf_laws_FnReached : PF := ⟨[.t 2], .seq (.reg [.s (.mv 2 (.k (.v (.c .ff))))]) (.seq (.seq (.reg [.s (.mv 13 (.t 0)), .s (.call (some 14) 12 [(.t 13)])]) (.cond (.t 14) (.seq (.reg [.s (.mv 2 (.k (.v (.c .tt))))]) (.ret)) (.skip))) (.seq (.reg [.s (.mv 16 (.t 0)), .s (.call (some 17) 13 [(.t 16)]), .s (.mv 15 (.t 17)), .s (.ext 18 (.t 15) 0), .s (.ext 19 (.t 15) 1), .s (.alloc 3 [.nils .word, .nils .bool]), .s (.store 2 (.t 3) (.t 18)), .s (.mv 4 (.t 19))]) (.seq (.reg [.s (.load 20 true 2 (.t 3)), .s (.mv 21 (.t 4)), .s (.call (some 22) 14 [(.t 20), (.t 21)]), .s (.mv 5 (.t 22))]) (.seq (.reg [.s (.mv 24 (.t 0)), .s (.call (some 25) 15 [(.t 24)]), .s (.mv 23 (.t 25)), .s (.ext 26 (.t 23) 0), .s (.ext 27 (.t 23) 1), .s (.alloc 6 [.nils .word, .nils .bool]), .s (.store 2 (.t 6) (.t 26)), .s (.mv 7 (.t 27))]) (.seq (.reg [.s (.mv 29 (.t 0)), .s (.call (some 30) 16 [(.t 29)]), .s (.mv 28 (.t 30)), .s (.ext 31 (.t 28) 0), .s (.ext 32 (.t 28) 1), .s (.alloc 8 [.nils .word, .nils .bool]), .s (.store 2 (.t 8) (.t 31)), .s (.mv 9 (.t 32))]) (.seq (.reg [.s (.mv 34 (.t 0)), .s (.call (some 35) 17 [(.t 34)]), .s (.mv 33 (.t 35)), .s (.ext 36 (.t 33) 0), .s (.ext 37 (.t 33) 1), .s (.alloc 10 [.nils .word, .nils .bool]), .s (.store 2 (.t 10) (.t 36)), .s (.mv 11 (.t 37))]) (.seq (.seq (.rgd [] [.s (.mv 38 (.t 5)), .s (.load 39 true 2 (.t 3)), .s (.mv 40 (.t 4)), .s (.call (some 41) 19 [(.t 39), (.t 40)]), .s (.call (some 42) 18 [(.t 38), (.t 41)]), .s (.bnot 43 (.t 42)), .s (.mv 44 (.t 43)), .g 44 false (some 45) (.load 45 true 2 (.t 6)), .g 44 false (some 46) (.mv 46 (.t 7)), .g 44 false (some 47) (.call (some 47) 21 [(.t 45), (.t 46)]), .g 44 false (some 48) (.load 48 true 2 (.t 6)), .g 44 false (some 49) (.mv 49 (.t 7)), .g 44 false (some 50) (.call (some 50) 22 [(.t 48), (.t 49)]), .g 44 false (some 51) (.call (some 51) 20 [(.t 47), (.t 50)]), .g 44 false (some 52) (.bnot 52 (.t 51)), .s (.pick 53 (.t 44) (.k (.v (.c .tt))) (.t 52)), .s (.mv 54 (.t 53)), .g 54 false (some 55) (.load 55 true 2 (.t 8)), .g 54 false (some 56) (.mv 56 (.t 9)), .g 54 false (some 57) (.call (some 57) 23 [(.t 55), (.t 56)]), .g 54 false (some 58) (.load 58 true 2 (.t 8)), .g 54 false (some 59) (.mv 59 (.t 9)), .g 54 false (some 60) (.call (some 60) 24 [(.t 58), (.t 59)]), .g 54 false (some 61) (.call (some 61) 20 [(.t 57), (.t 60)]), .g 54 false (some 62) (.bnot 62 (.t 61)), .s (.pick 63 (.t 54) (.k (.v (.c .tt))) (.t 62)), .s (.mv 64 (.t 63)), .g 64 false (some 65) (.load 65 true 2 (.t 10)), .g 64 false (some 66) (.mv 66 (.t 11)), .g 64 false (some 67) (.call (some 67) 25 [(.t 65), (.t 66)]), .g 64 false (some 68) (.load 68 true 2 (.t 10)), .g 64 false (some 69) (.mv 69 (.t 11)), .g 64 false (some 70) (.call (some 70) 26 [(.t 68), (.t 69)]), .g 64 false (some 71) (.eqs 71 false [.b] true (.t 67) (.t 70)), .s (.pick 72 (.t 64) (.k (.v (.c .tt))) (.t 71))] (.tk 0 (.tk 1 (.tk 2 (.one 3 true (.one 4 true (.tk 5 (.tk 6 (.tk 7 (.tk 8 (.tk 10 (.tk 11 (.one 9 false (.one 12 true (.one 13 true (.tk 14 (.tk 15 (.tk 16 (.tk 17 (.tk 18 (.tk 20 (.tk 21 (.one 19 false (.one 22 true (.one 23 true (.tk 24 (.tk 25 (.tk 26 (.tk 27 (.tk 28 (.tk 30 (.tk 31 (.one 29 false (.one 32 true (.tk 33 (.tk 34 (.done none))))))))))))))))))))))))))))))))))))) (.cond (.t 72) (.seq (.reg [.s (.mv 2 (.k (.v (.c .ff))))]) (.ret)) (.skip))) (.seq (.seq (.reg [.s (.load 73 true 2 (.t 3)), .s (.call (some 74) 27 [(.t 73)]), .s (.bnot 75 (.t 74))]) (.cond (.t 75) (.seq (.reg [.s (.mv 76 (.t 5)), .s (.len 77 false (.t 76)), .s (.bin 78 .eql (.t 77) (.k (.v (.c (.int .i64 0))))), .s (.mv 2 (.t 78))]) (.ret)) (.skip))) (.seq (.seq (.reg [.s (.mv 12 (.k (.v (.c (.int .i64 0)))))]) (.blk 0 (.loop [3, 4, 5, 12] lb_laws_FnReached_0))) (.seq (.reg [.s (.load 99 true 2 (.t 3)), .s (.mv 100 (.t 5)), .s (.call (some 101) 14 [(.t 99), (.t 100)]), .s (.mv 102 (.t 5)), .s (.call (some 103) 18 [(.t 101), (.t 102)]), .s (.mv 2 (.t 103))]) (.ret)))))))))))⟩
def c_laws_FnReached : Fun := ⟨3, [], fun ts K => as1 ts fun t0 => arC (pL (.int .u8)) t0 fun code => chk (code.length ≤ 9223372036854775807) (K (tB true) [])⟩
theorem run_laws_FnReached (FU : Nat) (code : List (FT.Ty (.int .u8))) (hpre : code.length ≤ 9223372036854775807) : runK [c_laws_big, c_spec_DrawClosure, c_impl_Closure, c_spec_DrawLoadCells, c_spec_DrawStoreCells, c_spec_DrawCanSeal, c_laws_sameWords, c_spec_Closure, c_laws_sameInts, c_impl_LoadCells, c_spec_LoadCells, c_impl_StoreCells, c_spec_StoreCells, c_impl_CanSeal, c_spec_CanSeal, c_impl_MemoryOk, c_impl_WordOk, c_impl_Unders] (100 + FU) [] pf_laws_FnReached [tL false (.int .u8) code] fun r o => r = tB true ∧ o = [] := by
  conv => whnf
  refine sel_i (fun h => ?_) (fun h => ?_) <;> conv => whnf
  · exact ⟨rfl, rfl⟩
  have hc : code.length ≤ 1048576 := by simp at h; omega
  clear h
  refine chk_i hc ?_
  conv => whnf
  repeat' (first | (refine sel_i (fun h => ?_) (fun h => ?_) <;> conv => whnf) | (refine chk_c ?_ ?_ <;> conv => whnf) | (refine And.intro ?_ rfl) | (refine And.intro ?_ ?_ <;> conv => whnf) | (intro x y z d hd; (try have g1 := And.left hd); (try have g2 := And.right hd); (try have g3 := And.left (And.right hd)); (try have g4 := And.right (And.right hd)); conv => whnf) | (intro x y d hd; (try have g1 := And.left hd); (try have g2 := And.right hd); (try have g3 := And.left (And.right hd)); (try have g4 := And.right (And.right hd)); conv => whnf) | (intro x d hd; (try have g1 := And.left hd); (try have g2 := And.right hd); (try have g3 := And.left (And.right hd)); (try have g4 := And.right (And.right hd)); conv => whnf) | (intro d hd; (try have g1 := And.left hd); (try have g2 := And.right hd); (try have g3 := And.left (And.right hd)); (try have g4 := And.right (And.right hd)); conv => whnf))
  all_goals (try simp only [etaKey, etaWord, etaMemory, etaState] at *)
  all_goals first
    | rfl
    | trivial
    | (exact ⟨rfl, rfl⟩)
    | (refine ⟨?_⟩; assumption)
    | (exfalso; simp at h; done)
    | (refine ⟨?_⟩; exact lMem_big (by assumption))
    | (refine ⟨?_⟩; exact ⟨lMem_big (by assumption), by omega⟩)
    | (refine ⟨?_⟩; exact ⟨Nat.le_trans (cellsBy_le _ _ _) (by decide), Nat.le_trans (cellsBy_le _ _ _) (by decide)⟩)
    | (refine ⟨?_⟩; refine ⟨Nat.le_trans (closure_len _ _) ?_, Nat.le_trans (closure_len _ _) ?_⟩ <;> omega)
    | (exfalso; have h5 : (!canSeal x d == canSeal x d) = true := (by assumption); simp at h5; done)
    | (rw [clos_no (by assumption)]; rfl)
    | skip
  rename_i m l hml _ _ _ _ _ _ _ _ _ _ _ _ h7 hmo h8 h9
  obtain ⟨hm1, hl1⟩ := hml
  have hmo : memoryOk m = true := by simpa using hmo
  have hid := closure_idem (l := l) hmo
  have hcl := closure_len m l
  have hund : ∀ w ∈ l, wordOk w = true → undersW w (closure m l) = true := fun w hw h => undersW_iff.2 (closure_und hmo hw h)
  clear h h7 h8 h9
  refine loop (α := Nat) (fun i => ⟨[(3, .v (.c (.ptr 0 0))), (4, .v (.c (.sl false .word 3))), (5, .v (.c (.sl false .word 4))), (12, .v (.c (.int .i64 (i : Int))))],
        [(4, some (.flat true .word none (closure m l))), (3, some (.flat true .word none l)), (2, some (.flat true .bool none m.gone)), (1, some (.flat true .word none m.words)), (0, some (.box true [.sl false .word 1, .sl false .bool 2]))], nums.tail.tail.tail.tail.tail, [], false, []⟩)
      (fun i => i ≤ l.length) (fun i => l.length - i) (fun i R hI hR => ?_) 0 _ (Nat.zero_le _) (by show l.length - 0 < 100 + FU; omega)
  conv => whnf
  repeat' (first | (refine sel_i (fun h => ?_) (fun h => ?_) <;> conv => whnf) | (refine chk_c ?_ ?_ <;> conv => whnf) | (refine And.intro ?_ rfl) | (refine And.intro ?_ ?_ <;> conv => whnf))
  all_goals (try simp only [etaKey, etaWord, etaMemory, Int.toNat_natCast, Bool.not_eq_true', Bool.not_eq_false', decide_eq_true_eq, decide_eq_false_iff_not] at *)
  all_goals first
    | (refine ⟨?_⟩; omega)
    | (refine ⟨?_⟩; exact ⟨by omega, by omega⟩)
    | (exfalso; rw [hund _ (getD_mem (by omega)) (by assumption)] at h; cases h; done)
    | (rw [wrap_id (n := (i : Int) + 1) (by omega) (by omega)]; exact hR (i + 1) (by omega) (by omega))
    | (refine ⟨?_⟩; exact ⟨lMem_big hm1, by omega⟩)
    | (refine ⟨?_⟩; rw [hid]; exact ⟨by omega, by omega⟩)
    | (rw [hid]; simp; done)
    | trace_state
theorem ok_laws_FnReached : FunOk Try.prog c_laws_FnReached := funOk (E := [c_laws_big, c_spec_DrawClosure, c_impl_Closure, c_spec_DrawLoadCells, c_spec_DrawStoreCells, c_spec_DrawCanSeal, c_laws_sameWords, c_spec_Closure, c_laws_sameInts, c_impl_LoadCells, c_spec_LoadCells, c_impl_StoreCells, c_spec_StoreCells, c_impl_CanSeal, c_spec_CanSeal, c_impl_MemoryOk, c_impl_WordOk, c_impl_Unders]) (envOk_cons ok_laws_big (envOk_cons ok_spec_DrawClosure (envOk_cons ok_impl_Closure (envOk_cons ok_spec_DrawLoadCells (envOk_cons ok_spec_DrawStoreCells (envOk_cons ok_spec_DrawCanSeal (envOk_cons ok_laws_sameWords (envOk_cons ok_spec_Closure (envOk_cons ok_laws_sameInts (envOk_cons ok_impl_LoadCells (envOk_cons ok_spec_LoadCells (envOk_cons ok_impl_StoreCells (envOk_cons ok_spec_StoreCells (envOk_cons ok_impl_CanSeal (envOk_cons ok_spec_CanSeal (envOk_cons ok_impl_MemoryOk (envOk_cons ok_impl_WordOk (envOk_cons ok_impl_Unders (envOk_nil))))))))))))))))))) mixd Try.func3 (pf := pf_laws_FnReached) (by kernel_rfl) fun ts K h => by
  obtain ⟨t0, e0, h⟩ := as1_out h
  subst e0
  obtain ⟨code, e1, hq⟩ := arC_out (rd_l (.int .u8)) h
  clear h
  subst e1
  have h := hq
  clear hq
  obtain ⟨hpre, h⟩ := chk_o h
  exact ⟨_, _, h, Nat.le_of_ble_eq_true (show Nat.ble 1 Try.f3.ntmps = true by kernel_rfl), _, run_laws_FnReached 0 code hpre⟩

end Go.Pi
namespace Go.Proofs.Ythpjpaginggjaaa
open Go.Pi
theorem fnReached_lifted (os : Os) (started : os.Started) (H : Type) (enc : TypeId × Value → H) :
    ReturnsInHanded {} Try.checked os 3 .any (Rows.fnReachedSpec.pre6 enc Try.prog Try.f3 Rows.fnReachedRow.domain false) (Rows.fnReachedSpec.post enc Try.prog Try.f3 false true false false) :=
  lifted (C := Try.checked) (E := [c_laws_big, c_spec_DrawClosure, c_impl_Closure, c_spec_DrawLoadCells, c_spec_DrawStoreCells, c_spec_DrawCanSeal, c_laws_sameWords, c_spec_Closure, c_laws_sameInts, c_impl_LoadCells, c_spec_LoadCells, c_impl_StoreCells, c_spec_StoreCells, c_impl_CanSeal, c_spec_CanSeal, c_impl_MemoryOk, c_impl_WordOk, c_impl_Unders]) (fuel := _) (pf := pf_laws_FnReached) (shs := [(false, [.sl (.int .u8)])]) (tb := 4) (by kernel_rfl) started (by kernel_rfl) Try.func3
    (ChangeSpec.witness6 (enc := enc) (C := Try.checked) false ⟨#[], #[.slice none 0 0], []⟩ 12 (by kernel_rfl) (by kernel_rfl) (by kernel_rfl) (by kernel_rfl))
    mixd (envOk_cons ok_laws_big (envOk_cons ok_spec_DrawClosure (envOk_cons ok_impl_Closure (envOk_cons ok_spec_DrawLoadCells (envOk_cons ok_spec_DrawStoreCells (envOk_cons ok_spec_DrawCanSeal (envOk_cons ok_laws_sameWords (envOk_cons ok_spec_Closure (envOk_cons ok_laws_sameInts (envOk_cons ok_impl_LoadCells (envOk_cons ok_spec_LoadCells (envOk_cons ok_impl_StoreCells (envOk_cons ok_spec_StoreCells (envOk_cons ok_impl_CanSeal (envOk_cons ok_spec_CanSeal (envOk_cons ok_impl_MemoryOk (envOk_cons ok_impl_WordOk (envOk_cons ok_impl_Unders (envOk_nil))))))))))))))))))) (by kernel_rfl) (by kernel_rfl) (by kernel_rfl) rfl (by kernel_rfl) rfl
    (fun ds h => by
      obtain _ | ⟨d0, ds⟩ := ds
      · simp at h
      obtain _ | ⟨x, ds⟩ := ds
      · rfl
      · simp at h)
    (fun ain h0 => by
      obtain ⟨T0, ain0, e, k0, h1⟩ := areCons h0
      subst e
      have e := areNil h1
      subst e
      obtain ⟨code, e, w0⟩ := isL k0
      subst e
      exact run_laws_FnReached 0 code (w0.2))
theorem fnReached_over : Rows.fnReachedRow.holds Try.pinned (OpenSpec.ofChange Rows.fnReachedSpec) :=
  OpenClaim.holds_of_wide 3 Try.f3 rfl rfl rfl rfl rfl rfl rfl ⟨rfl, rfl, rfl, rfl, rfl⟩ rfl rfl rfl rfl rfl (by kernel_rfl) Try.func3 (by kernel_rfl)
    (of_decide_eq_true (by kernel_rfl)) (by unfold Func.isWrapper; first | (rw [if_pos (by decide +kernel)]; kernel_rfl) | (rw [if_neg (by decide +kernel)]; exact ⟨rfl, rfl⟩))
    (fun os started H enc _ => fnReached_lifted os started H enc)
theorem fnReached_holds : Rows.FnReachedSaid := fnReached_over
#print axioms fnReached_holds
end Go.Proofs.Ythpjpaginggjaaa
