/- FnAnew: the given statement holds, out of the law's run by PI. No conditions. -/
import Derived.Test.YthpjpaginggjaaaC4
namespace Go.Pi
open Go.Proofs
set_option linter.unusedVariables false
set_option linter.unusedSimpArgs false
set_option maxRecDepth 100000
attribute [local irreducible] iterN
def lb_laws_FnAnew_0 : PC := .seq (.seq (.reg [.s (.mv 50 (.t 9)), .s (.mv 51 (.t 5)), .s (.len 52 false (.t 51)), .s (.bin 53 .lss (.t 50) (.t 52))]) (.cond (.t 53) (.skip) (.exit 0))) (.seq (.blk 1 (.seq (.reg [.s (.mv 56 (.t 5)), .s (.mv 57 (.t 9)), .s (.ia 58 .word (.t 56) (.t 57)), .s (.fa 59 (.t 58) 2), .s (.load 60 true 4 (.t 59)), .s (.alloc 10 [.int .i64 0, .int .i64 0, .int .i64 0, .int .i64 0]), .s (.store 4 (.t 10) (.t 60))]) (.seq (.reg [.s (.mv 61 (.t 5)), .s (.mv 62 (.t 9)), .s (.ia 63 .word (.t 61) (.t 62)), .s (.fa 64 (.t 63) 1), .s (.load 65 false 1 (.t 64)), .s (.mv 66 (.t 65)), .g 66 true (some 67) (.fa 67 (.t 10) 0), .g 66 true (some 68) (.load 68 false 1 (.t 67)), .g 66 true (some 69) (.fa 69 (.t 7) 2), .g 66 true (some 70) (.fa 70 (.t 69) 1), .g 66 true (some 71) (.load 71 false 1 (.t 70)), .g 66 true (some 72) (.bin 72 .lss (.t 68) (.t 71)), .s (.pick 73 (.t 66) (.t 72) (.k (.v (.c .ff)))), .s (.mv 74 (.t 73)), .g 74 true (some 75) (.fa 75 (.t 7) 2), .g 74 true (some 76) (.fa 76 (.t 75) 0), .g 74 true (some 77) (.load 77 false 1 (.t 76)), .g 74 true (some 78) (.fa 78 (.t 10) 1), .g 74 true (some 79) (.load 79 false 1 (.t 78)), .g 74 true (some 80) (.bin 80 .lss (.t 77) (.t 79)), .s (.pick 81 (.t 74) (.t 80) (.k (.v (.c .ff)))), .s (.mv 82 (.t 81)), .g 82 true (some 83) (.fa 83 (.t 10) 0), .g 82 true (some 84) (.load 84 false 1 (.t 83)), .g 82 true (some 85) (.fa 85 (.t 10) 1), .g 82 true (some 86) (.load 86 false 1 (.t 85)), .g 82 true (some 87) (.bin 87 .lss (.t 84) (.t 86)), .s (.pick 88 (.t 82) (.t 87) (.k (.v (.c .ff))))]) (.cond (.t 88) (.seq (.reg [.s (.mv 2 (.k (.v (.c .ff))))]) (.ret)) (.skip))))) (.reg [.s (.mv 54 (.t 9)), .s (.bin 55 .add (.t 54) (.k (.v (.c (.int .i64 1))))), .s (.mv 9 (.t 55))]))
def lb_laws_FnAnew_1 : PC := .seq (.seq (.reg [.s (.mv 92 (.t 11)), .s (.fa 93 (.t 7) 2), .s (.fa 94 (.t 93) 1), .s (.load 95 false 1 (.t 94)), .s (.bin 96 .lss (.t 92) (.t 95))]) (.cond (.t 96) (.skip) (.exit 2))) (.seq (.blk 3 (.seq (.reg [.s (.load 99 true 6 (.t 7)), .s (.mv 100 (.t 11)), .s (.call (some 101) 80 [(.t 99), (.t 100), (.k (.v (.c (.int .i64 1))))]), .s (.bin 102 .neq (.t 101) (.k (.v (.c (.int .i64 0)))))]) (.cond (.t 102) (.seq (.reg [.s (.mv 2 (.k (.v (.c .ff))))]) (.ret)) (.skip)))) (.reg [.s (.mv 97 (.t 11)), .s (.bin 98 .add (.t 97) (.k (.v (.c (.int .i64 1))))), .s (.mv 11 (.t 98))]))
def pf_laws_FnAnew : PF := ⟨[.t 2], .seq (.reg [.s (.mv 2 (.k (.v (.c .ff))))]) (.seq (.seq (.reg [.s (.mv 12 (.t 0)), .s (.call (some 13) 12 [(.t 12)])]) (.cond (.t 13) (.seq (.reg [.s (.mv 2 (.k (.v (.c .tt))))]) (.ret)) (.skip))) (.seq (.seq (.reg [.s (.call (some 14) 77 []), .s (.call (some 15) 74 [(.t 14)]), .s (.bnot 16 (.t 15))]) (.cond (.t 16) (.seq (.reg [.s (.mv 2 (.k (.v (.c .ff))))]) (.ret)) (.skip))) (.seq (.reg [.s (.mv 18 (.t 0)), .s (.call (some 19) 73 [(.t 18)]), .s (.mv 17 (.t 19)), .s (.ext 20 (.t 17) 0), .s (.ext 21 (.t 17) 1), .s (.alloc 3 [.nils .word, .nils .bool, .nils .span, .nils .span]), .s (.store 4 (.t 3) (.t 20)), .s (.mv 4 (.t 21))]) (.seq (.reg [.s (.load 23 true 4 (.t 3)), .s (.mv 24 (.t 4)), .s (.call (some 25) 76 [(.t 23), (.t 24)]), .s (.mv 22 (.t 25)), .s (.ext 26 (.t 22) 0), .s (.ext 27 (.t 22) 1), .s (.store 4 (.t 3) (.t 26)), .s (.mv 4 (.t 27))]) (.seq (.rgd [] [.s (.bs 28 .word []), .s (.mv 29 (.t 4)), .s (.app 30 .word (.t 28) (.t 29)), .s (.fa 31 (.t 3) 0), .s (.fa 32 (.t 31) 0), .s (.load 33 false 1 (.t 32)), .s (.app 34 .word (.t 30) (.t 33)), .s (.mv 5 (.t 34))] (.tk 1 (.tk 3 (.tk 4 (.tk 5 (.one 0 false (.one 2 false (.one 6 true (.tk 7 (.done none)))))))))) (.seq (.rgd [] [.s (.load 36 true 4 (.t 3)), .s (.mv 37 (.t 0)), .s (.call (some 38) 78 [(.t 37), (.k (.v (.c (.int .i64 1))))]), .s (.bin 39 .rem (.t 38) (.k (.v (.c (.int .i64 6))))), .s (.bin 40 .add (.k (.v (.c (.int .i64 1)))) (.t 39)), .s (.call (some 41) 71 [(.t 36), (.t 40)]), .s (.mv 35 (.t 41)), .s (.ext 42 (.t 35) 0), .s (.ext 43 (.t 35) 1), .s (.ext 44 (.t 35) 2), .s (.alloc 6 [.nils .word, .nils .bool, .nils .span, .nils .span]), .s (.alloc 7 [.int .i64 0, .ff, .int .i64 0, .int .i64 0, .int .i64 0, .int .i64 0]), .s (.store 4 (.t 6) (.t 42)), .s (.store 6 (.t 7) (.t 43)), .s (.mv 8 (.t 44))] (.fin (.tk 0 (.tk 1 (.any 2 false (.tk 3 (.tk 4 (.any 5 false (.tk 6 (.tk 7 (.tk 8 (.tk 9 (.any 10 false (.one 11 false (.one 12 true (.one 13 true (.tk 14 (.done (some [3, 5, 6, 7, 8])))))) (.any 11 false (.one 10 false (.one 12 true (.one 13 true (.tk 14 (.done (some [3, 5, 6, 7, 8])))))) (.nil))))))) (.any 10 false (.any 5 false (.tk 6 (.tk 7 (.tk 8 (.tk 9 (.one 11 false (.one 12 true (.one 13 true (.tk 14 (.done (some [3, 5, 6, 7, 8])))))))))) (.any 11 false (.one 5 true (.tk 6 (.tk 7 (.tk 8 (.tk 9 (.one 12 true (.one 13 true (.tk 14 (.done (some [3, 5, 6, 7, 8])))))))))) (.nil))) (.any 11 false (.any 5 false (.tk 6 (.tk 7 (.tk 8 (.tk 9 (.one 10 false (.one 12 true (.one 13 true (.tk 14 (.done (some [3, 5, 6, 7, 8])))))))))) (.any 10 false (.one 5 true (.tk 6 (.tk 7 (.tk 8 (.tk 9 (.one 12 true (.one 13 true (.tk 14 (.done (some [3, 5, 6, 7, 8])))))))))) (.nil))) (.nil)))))) (.any 10 false (.any 2 false (.tk 3 (.tk 4 (.any 5 false (.tk 6 (.tk 7 (.tk 8 (.tk 9 (.one 11 false (.one 12 true (.one 13 true (.tk 14 (.done (some [3, 5, 6, 7, 8])))))))))) (.any 11 false (.one 5 true (.tk 6 (.tk 7 (.tk 8 (.tk 9 (.one 12 true (.one 13 true (.tk 14 (.done (some [3, 5, 6, 7, 8])))))))))) (.nil))))) (.any 11 false (.one 2 false (.tk 3 (.tk 4 (.one 5 true (.tk 6 (.tk 7 (.tk 8 (.tk 9 (.one 12 true (.one 13 true (.tk 14 (.done (some [3, 5, 6, 7, 8]))))))))))))) (.nil))) (.any 11 false (.any 2 false (.tk 3 (.tk 4 (.any 5 false (.tk 6 (.tk 7 (.tk 8 (.tk 9 (.one 10 false (.one 12 true (.one 13 true (.tk 14 (.done (some [3, 5, 6, 7, 8])))))))))) (.any 10 false (.one 5 true (.tk 6 (.tk 7 (.tk 8 (.tk 9 (.one 12 true (.one 13 true (.tk 14 (.done (some [3, 5, 6, 7, 8])))))))))) (.nil))))) (.any 10 false (.one 2 false (.tk 3 (.tk 4 (.one 5 true (.tk 6 (.tk 7 (.tk 8 (.tk 9 (.one 12 true (.one 13 true (.tk 14 (.done (some [3, 5, 6, 7, 8]))))))))))))) (.nil))) (.nil)))))))) (.seq (.seq (.reg [.s (.mv 45 (.t 8)), .s (.bnot 46 (.t 45))]) (.cond (.t 46) (.seq (.reg [.s (.load 47 true 4 (.t 6)), .s (.load 48 true 4 (.t 3)), .s (.call (some 49) 79 [(.t 47), (.t 48)]), .s (.mv 2 (.t 49))]) (.ret)) (.skip))) (.seq (.seq (.reg [.s (.mv 9 (.k (.v (.c (.int .i64 0)))))]) (.blk 0 (.loop [5, 7, 9] lb_laws_FnAnew_0))) (.seq (.seq (.reg [.s (.fa 89 (.t 7) 2), .s (.fa 90 (.t 89) 0), .s (.load 91 false 1 (.t 90)), .s (.mv 11 (.t 91))]) (.blk 2 (.loop [7, 11] lb_laws_FnAnew_1))) (.seq (.reg [.s (.load 103 true 6 (.t 7)), .s (.fa 104 (.t 7) 2), .s (.fa 105 (.t 104) 1), .s (.load 106 false 1 (.t 105)), .s (.call (some 107) 80 [(.t 103), (.t 106), (.k (.v (.c (.int .i64 1))))]), .s (.bin 108 .eql (.t 107) (.k (.v (.c (.int .i64 4))))), .s (.mv 2 (.t 108))]) (.ret)))))))))))⟩
def c_laws_FnAnew : Fun := ⟨11, [], fun ts K => as1 ts fun t0 => arC (pL (.int .u8)) t0 fun code => chk (code.length ≤ 9223372036854775807 ∧ U8s code) (K (tB true) [])⟩
theorem run_laws_FnAnew (FU : Nat) (code : List (FT.Ty (.int .u8))) (hpre : code.length ≤ 9223372036854775807 ∧ U8s code) : runK [c_laws_big, c_impl_Grant, c_spec_DrawHeld2, c_impl_HeapOk, c_impl_Clean, c_impl_HeapNew, c_laws_at, c_laws_sameHeap, c_impl_Try] (100 + FU) [] pf_laws_FnAnew [tL false (.int .u8) code] fun r o => r = tB true ∧ o = [] := by
  obtain ⟨hpre, hu8⟩ := hpre
  conv => whnf
  refine sel_i (fun h => ?_) (fun h => ?_) <;> conv => whnf
  · exact ⟨rfl, rfl⟩
  have hc : code.length ≤ 1048576 := by simp at h; omega
  clear h
  conv => whnf
  repeat' (first | (refine sel_i (fun h => ?_) (fun h => ?_) <;> conv => whnf) | (refine chk_c ?_ ?_ <;> conv => whnf) | (refine And.intro ?_ rfl) | (refine And.intro ?_ ?_ <;> conv => whnf) | (intro x y z d hd; (try have g1 := And.left hd); (try have g2 := And.right hd); (try have g3 := And.left (And.right hd)); (try have g4 := And.right (And.right hd)); conv => whnf) | (intro x y d hd; (try have g1 := And.left hd); (try have g2 := And.right hd); (try have g3 := And.left (And.right hd)); (try have g4 := And.right (And.right hd)); conv => whnf) | (intro x d hd; (try have g1 := And.left hd); (try have g2 := And.right hd); (try have g3 := And.left (And.right hd)); (try have g4 := And.right (And.right hd)); conv => whnf) | (intro d hd; (try have g1 := And.left hd); (try have g2 := And.right hd); (try have g3 := And.left (And.right hd)); (try have g4 := And.right (And.right hd)); conv => whnf))
  all_goals (try simp only [etaMemory, etaHeap] at *)
  all_goals first
    | (refine ⟨?_⟩; exact hc)
    | (refine ⟨?_⟩; exact (heapOk_len good_new.ok).mono (by decide))
    | (exfalso; rw [show heapOk heapNew = true from good_new.ok] at h; cases h; done)
    | (refine ⟨?_⟩; exact ⟨g1.len.mono (by decide), by omega⟩)
    | (refine ⟨?_⟩; have := (good_clean g1).len.1.1; rw [List.length_append, clean_len2]; simp only [List.length_nil]; omega)
    | (refine ⟨?_⟩; rw [clean_len2]; simp only [List.length_nil]; omega)
    | skip
  clear h
  have hgc := good_clean g1
  obtain ⟨cl1, cl2⟩ := clean_live g1
  obtain ⟨ch1, ch2, ch3⟩ := clean_heap (rs := d) g1.ok
  have hin : ∀ w ∈ [] ++ (clean x d).2 ++ (clean x d).1.mem.words, InSpan ((clean x d).1.live ++ (clean x d).1.waits) w := fun w hw => by
    rw [ch2, ch3, List.append_nil]
    rw [List.nil_append] at hw
    rcases List.mem_append.1 hw with q | q
    · exact (cl1 w q).2
    · exact cl2 w q
  have hl := clean_len2 x d
  generalize clean x d = C at *
  obtain ⟨H, rs⟩ := C
  dsimp only at hgc hin hl ch1 ⊢
  have hlen := hgc.len
  obtain ⟨⟨k1, k2⟩, k3, k4⟩ := hgc.len
  have hal : ([] ++ rs ++ H.mem.words).length ≤ 38 := by simp only [List.nil_append, List.length_append]; omega
  generalize [] ++ rs ++ H.mem.words = all at *
  clear cl1 cl2 ch2 ch3 hd
  refine ⟨fun st => ∃ y : Int, st = ⟨[(3, .v (.c (.ptr 0 0))), (5, .v (.c (.sl true .word 5))), (6, .v (.c (.ptr 6 0))), (7, .v (.c (.ptr 11 0))), (8, .v (.c (.bool (grant H y).2.2)))],
      [(11, some (.box true ((grant H y).2.1.flat []))), (10, some (.flat true .span none (grant H y).1.waits)), (9, some (.flat true .span none (grant H y).1.live)), (8, some (.flat true .bool none (grant H y).1.mem.gone)), (7, some (.flat true .word none (grant H y).1.mem.words)), (6, some (.box true [.sl false .word 7, .sl false .bool 8, .sl false .span 9, .sl false .span 10])),
        (5, some (.flat true .word none all)), (4, some (.flat true .span none H.waits)), (3, some (.flat true .span none H.live)), (2, some (.flat true .bool none H.mem.gone)), (1, some (.flat true .word none H.mem.words)), (0, some (.box true [.sl false .word 1, .sl false .bool 2, .sl false .span 3, .sl false .span 4]))], nums.tail.tail.tail.tail.tail.tail.tail.tail.tail.tail.tail.tail, [], false, []⟩, ?_, ?_⟩
  · conv => whnf
    repeat' (first | (refine sel_i (fun h => ?_) (fun h => ?_) <;> conv => whnf) | (refine chk_c ?_ ?_ <;> conv => whnf) | (refine And.intro ?_ rfl) | (refine And.intro ?_ ?_ <;> conv => whnf) | (intro x y z d hd; (try have g1 := And.left hd); (try have g2 := And.right hd); (try have g3 := And.left (And.right hd)); (try have g4 := And.right (And.right hd)); conv => whnf) | (intro x y d hd; (try have g1 := And.left hd); (try have g2 := And.right hd); (try have g3 := And.left (And.right hd)); (try have g4 := And.right (And.right hd)); conv => whnf) | (intro x d hd; (try have g1 := And.left hd); (try have g2 := And.right hd); (try have g3 := And.left (And.right hd)); (try have g4 := And.right (And.right hd)); conv => whnf) | (intro d hd; (try have g1 := And.left hd); (try have g2 := And.right hd); (try have g3 := And.left (And.right hd)); (try have g4 := And.right (And.right hd)); conv => whnf))
    all_goals (try simp only [etaMemory, etaHeap] at *)
    all_goals first
      | trivial
      | (refine ⟨?_⟩; exact ⟨hc, by decide, by decide, hu8⟩)
      | (refine ⟨?_⟩; decide)
      | (refine ⟨?_⟩; exact hlen.mono (by decide))
      | exact ⟨_, rfl⟩
      | trace_state
  rintro st ⟨y, rfl⟩
  rcases grant_cases (h := H) (n := y) with e | ⟨a, N, rfl, hN, ha, hk, hf, e⟩
  · rw [e]
    conv => whnf
    repeat' (first | (refine sel_i (fun h => ?_) (fun h => ?_) <;> conv => whnf) | (refine chk_c ?_ ?_ <;> conv => whnf) | (refine And.intro ?_ rfl) | (refine And.intro ?_ ?_ <;> conv => whnf))
    all_goals (try simp only [etaMemory, etaHeap] at *)
    all_goals first
      | (refine ⟨?_⟩; exact ⟨hlen.mono (by decide), hlen.mono (by decide)⟩)
      | (exfalso; simp at h; done)
      | (simp; done)
      | trace_state
  · rw [e, (grantK_ok ha).1]
    conv => whnf
    repeat' (first | (refine sel_i (fun h => ?_) (fun h => ?_) <;> conv => whnf) | (refine chk_c ?_ ?_ <;> conv => whnf) | (refine And.intro ?_ rfl) | (refine And.intro ?_ ?_ <;> conv => whnf))
    all_goals (try simp only [etaMemory, etaHeap] at *)
    all_goals first
      | (exfalso; simp at h; done)
      | skip
    clear h e
    have hsp := heapOk_spans hk
    have hno := fun i (hi : i < all.length) => anew (w := all.getD i (FT.zero .word)) hN hsp hf (hin _ (getD_mem hi))
    refine loop (α := Nat) (fun i => ⟨[(5, .v (.c (.sl true .word 0))), (7, .v (.c (.ptr 1 0))), (9, .v (.c (.int .i64 (i : Int))))],
        [(1, some (.box true [.int .i64 0, .bool true, .int .i64 (a : Int), .int .i64 ((a : Int) + (N : Int)), .int .i64 27, .int .i64 0])), (0, some (.flat true .word none all))], nums.tail.tail, [], false, []⟩)
        (fun i => i ≤ all.length) (fun i => all.length - i) (fun i R hI hR => ?_) 0 _ (Nat.zero_le _) (by show all.length - 0 < 100 + FU; omega)
    conv => whnf
    refine sel_i (fun h => ?_) (fun h => ?_)
    · have hlt : i < all.length := by have h := of_decide_eq_true h; omega
      clear h
      have hno := hno i hlt
      conv => whnf
      repeat' (first | (refine sel_i (fun h => ?_) (fun h => ?_) <;> conv => whnf) | (refine chk_c ?_ ?_ <;> conv => whnf) | (refine And.intro ?_ rfl) | (refine And.intro ?_ ?_ <;> conv => whnf))
      all_goals (try simp only [etaKey, etaWord, Int.toNat_natCast, decide_eq_true_eq, decide_eq_false_iff_not] at *)
      all_goals first
        | (refine ⟨?_⟩; omega)
        | (rw [wrap_id (n := (i : Int) + 1) (by omega) (by omega)]; exact hR (i + 1) (by omega) (by omega))
        | (exfalso; exact hno (by assumption) (by assumption) (by assumption) (by assumption))
        | trace_state
    · conv => whnf
      have ht := fun c (h1 : (a : Int) ≤ c) h2 => try_grant hN ha (c := c) h1 h2
      have hv := try_over hN ha
      refine loop (α := Nat) (fun c => ⟨[(7, .v (.c (.ptr 0 0))), (11, .v (.c (.int .i64 (c : Int))))],
          [(0, some (.box true [.int .i64 0, .bool true, .int .i64 (a : Int), .int .i64 ((a : Int) + (N : Int)), .int .i64 27, .int .i64 0]))], nums.tail, [], false, []⟩)
          (fun c => a ≤ c ∧ c ≤ a + N) (fun c => a + N - c) (fun c R hI hR => ?_) a _ ⟨Nat.le_refl _, Nat.le_add_right _ _⟩ (by show a + N - a < 100 + FU; omega)
      obtain ⟨i1, i2⟩ := hI
      conv => whnf
      refine sel_i (fun h => ?_) (fun h => ?_)
      · have hlt : c < a + N := by have h := of_decide_eq_true h; omega
        clear h
        have ht := ht c (by omega) (by omega)
        conv => whnf
        repeat' (first | (refine sel_i (fun h => ?_) (fun h => ?_) <;> conv => whnf) | (refine chk_c ?_ ?_ <;> conv => whnf) | (refine And.intro ?_ rfl) | (refine And.intro ?_ ?_ <;> conv => whnf))
        all_goals (try simp only [ht, bne_self_eq_false] at *)
        all_goals first
          | (refine ⟨?_⟩; omega)
          | (rw [wrap_id (n := (c : Int) + 1) (by omega) (by omega)]; exact hR (c + 1) ⟨by omega, by omega⟩ (by omega))
          | (exfalso; simp at h; done)
          | trace_state
      · conv => whnf
        repeat' (first | (refine sel_i (fun h => ?_) (fun h => ?_) <;> conv => whnf) | (refine chk_c ?_ ?_ <;> conv => whnf) | (refine And.intro ?_ rfl) | (refine And.intro ?_ ?_ <;> conv => whnf))
        all_goals first
          | (refine ⟨?_⟩; decide)
          | (rw [hv]; rfl)
          | trace_state
theorem ok_laws_FnAnew : FunOk Try.prog c_laws_FnAnew := funOk (E := [c_laws_big, c_impl_Grant, c_spec_DrawHeld2, c_impl_HeapOk, c_impl_Clean, c_impl_HeapNew, c_laws_at, c_laws_sameHeap, c_impl_Try]) (envOk_cons ok_laws_big (envOk_cons ok_impl_Grant (envOk_cons ok_spec_DrawHeld2 (envOk_cons ok_impl_HeapOk (envOk_cons ok_impl_Clean (envOk_cons ok_impl_HeapNew (envOk_cons ok_laws_at (envOk_cons ok_laws_sameHeap (envOk_cons ok_impl_Try (envOk_nil)))))))))) mixd Try.func11 (pf := pf_laws_FnAnew) (by kernel_rfl) fun ts K h => by
  obtain ⟨t0, e0, h⟩ := as1_out h
  subst e0
  obtain ⟨code, e1, hq⟩ := arC_out (rd_l (.int .u8)) h
  clear h
  subst e1
  have h := hq
  clear hq
  obtain ⟨hpre, h⟩ := chk_o h
  exact ⟨_, _, h, Nat.le_of_ble_eq_true (show Nat.ble 1 Try.f11.ntmps = true by kernel_rfl), _, run_laws_FnAnew 0 code hpre⟩

end Go.Pi
namespace Go.Proofs.Ythpjpaginggjaaa
open Go.Pi
theorem fnAnew_lifted (os : Os) (started : os.Started) (H : Type) (enc : TypeId × Value → H) :
    ReturnsInHanded {} Try.checked os 11 .any (Rows.fnAnewSpec.pre6 enc Try.prog Try.f11 Rows.fnAnewRow.domain false) (Rows.fnAnewSpec.post enc Try.prog Try.f11 false true false false) :=
  lifted (C := Try.checked) (E := [c_laws_big, c_impl_Grant, c_spec_DrawHeld2, c_impl_HeapOk, c_impl_Clean, c_impl_HeapNew, c_laws_at, c_laws_sameHeap, c_impl_Try]) (fuel := _) (pf := pf_laws_FnAnew) (shs := [(false, [.sl (.int .u8)])]) (tb := 4) (by kernel_rfl) started (by kernel_rfl) Try.func11
    (ChangeSpec.witness6 (enc := enc) (C := Try.checked) false ⟨#[], #[.slice none 0 0], []⟩ 12 (by kernel_rfl) (by kernel_rfl) (by kernel_rfl) (by kernel_rfl))
    mixd (envOk_cons ok_laws_big (envOk_cons ok_impl_Grant (envOk_cons ok_spec_DrawHeld2 (envOk_cons ok_impl_HeapOk (envOk_cons ok_impl_Clean (envOk_cons ok_impl_HeapNew (envOk_cons ok_laws_at (envOk_cons ok_laws_sameHeap (envOk_cons ok_impl_Try (envOk_nil)))))))))) (by kernel_rfl) (by kernel_rfl) (by kernel_rfl) rfl (by kernel_rfl) rfl
    (fun ds h => by
      obtain _ | ⟨d0, ds⟩ := ds
      · simp at h
      obtain _ | ⟨x, ds⟩ := ds
      · rfl
      · simp at h)
    (fun ain h0 => by
      obtain ⟨T0, ain0, e, k0, h1⟩ := areCons h0
      subst e
      have e := areNil h1
      subst e
      obtain ⟨code, e, w0⟩ := isL k0
      subst e
      exact run_laws_FnAnew 0 code (⟨w0.2, fun x hx => wfU8 (w0.1 x hx)⟩))
theorem fnAnew_over : Rows.fnAnewRow.holds Try.pinned (OpenSpec.ofChange Rows.fnAnewSpec) :=
  OpenClaim.holds_of_wide 11 Try.f11 rfl rfl rfl rfl rfl rfl rfl ⟨rfl, rfl, rfl, rfl, rfl⟩ rfl rfl rfl rfl rfl (by kernel_rfl) Try.func11 (by kernel_rfl)
    (of_decide_eq_true (by kernel_rfl)) (by unfold Func.isWrapper; first | (rw [if_pos (by decide +kernel)]; kernel_rfl) | (rw [if_neg (by decide +kernel)]; exact ⟨rfl, rfl⟩))
    (fun os started H enc _ => fnAnew_lifted os started H enc)
theorem fnAnew_holds : Rows.FnAnewSaid := fnAnew_over
#print axioms fnAnew_holds
end Go.Proofs.Ythpjpaginggjaaa
