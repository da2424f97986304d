/- FnOnlyLive: the given statement holds, out of the law's run by PI. No conditions. -/
import Derived.Test.YthpjpaginggjaaaC4
namespace Go.Pi
open Go.Proofs
set_option linter.unusedVariables false
set_option linter.unusedSimpArgs false
set_option maxRecDepth 100000
attribute [local irreducible] iterN
def lb_laws_FnOnlyLive_0 : PC := .seq (.seq (.reg [.s (.mv 37 (.t 8)), .s (.mv 38 (.t 6)), .s (.len 39 false (.t 38)), .s (.bin 40 .lss (.t 37) (.t 39))]) (.cond (.t 40) (.skip) (.exit 2))) (.seq (.blk 3 (.seq (.reg [.s (.mv 43 (.t 6)), .s (.mv 44 (.t 8)), .s (.ia 45 .word (.t 43) (.t 44)), .s (.fa 46 (.t 45) 1), .s (.load 47 false 1 (.t 46)), .s (.mv 48 (.t 47)), .g 48 true (some 49) (.mv 49 (.t 7)), .g 48 true (some 50) (.mv 50 (.t 6)), .g 48 true (some 51) (.mv 51 (.t 8)), .g 48 true (some 52) (.ia 52 .word (.t 50) (.t 51)), .g 48 true (some 53) (.fa 53 (.t 52) 2), .g 48 true (some 54) (.load 54 true 4 (.t 53)), .g 48 true (some 55) (.call (some 55) 75 [(.t 49), (.t 54)]), .g 48 true (some 56) (.bnot 56 (.t 55)), .s (.pick 57 (.t 48) (.t 56) (.k (.v (.c .ff))))]) (.cond (.t 57) (.seq (.reg [.s (.mv 2 (.k (.v (.c .ff))))]) (.ret)) (.skip)))) (.reg [.s (.mv 41 (.t 8)), .s (.bin 42 .add (.t 41) (.k (.v (.c (.int .i64 1))))), .s (.mv 8 (.t 42))]))
def lb_laws_FnOnlyLive_1 : PC := .seq (.seq (.reg [.s (.mv 19 (.t 5)), .s (.bin 20 .lss (.t 19) (.k (.v (.c (.int .i64 2)))))]) (.cond (.t 20) (.skip) (.exit 0))) (.seq (.blk 1 (.seq (.rgd [] [.s (.bs 23 .word []), .s (.mv 24 (.t 4)), .s (.app 25 .word (.t 23) (.t 24)), .s (.fa 26 (.t 3) 0), .s (.fa 27 (.t 26) 0), .s (.load 28 false 1 (.t 27)), .s (.app 29 .word (.t 25) (.t 28)), .s (.mv 6 (.t 29))] (.tk 1 (.tk 3 (.tk 4 (.tk 5 (.one 0 false (.one 2 false (.one 6 true (.tk 7 (.done none)))))))))) (.seq (.rgd [] [.s (.bs 30 .span []), .s (.fa 31 (.t 3) 2), .s (.load 32 false 1 (.t 31)), .s (.app 33 .span (.t 30) (.t 32)), .s (.fa 34 (.t 3) 3), .s (.load 35 false 1 (.t 34)), .s (.app 36 .span (.t 33) (.t 35)), .s (.mv 7 (.t 36))] (.tk 1 (.tk 2 (.tk 4 (.tk 5 (.one 0 false (.one 3 false (.one 6 true (.tk 7 (.done none)))))))))) (.seq (.seq (.reg [.s (.mv 8 (.k (.v (.c (.int .i64 0)))))]) (.blk 2 (.loop [3, 4, 5, 6, 7, 8] lb_laws_FnOnlyLive_0))) (.reg [.s (.load 59 true 4 (.t 3)), .s (.mv 60 (.t 4)), .s (.call (some 61) 76 [(.t 59), (.t 60)]), .s (.mv 58 (.t 61)), .s (.ext 62 (.t 58) 0), .s (.ext 63 (.t 58) 1), .s (.store 4 (.t 3) (.t 62)), .s (.mv 4 (.t 63))]))))) (.reg [.s (.mv 21 (.t 5)), .s (.bin 22 .add (.t 21) (.k (.v (.c (.int .i64 1))))), .s (.mv 5 (.t 22))]))
def pf_laws_FnOnlyLive : PF := ⟨[.t 2], .seq (.reg [.s (.mv 2 (.k (.v (.c .ff))))]) (.seq (.seq (.reg [.s (.mv 9 (.t 0)), .s (.call (some 10) 12 [(.t 9)])]) (.cond (.t 10) (.seq (.reg [.s (.mv 2 (.k (.v (.c .tt))))]) (.ret)) (.skip))) (.seq (.reg [.s (.mv 12 (.t 0)), .s (.call (some 13) 73 [(.t 12)]), .s (.mv 11 (.t 13)), .s (.ext 14 (.t 11) 0), .s (.ext 15 (.t 11) 1), .s (.alloc 3 [.nils .word, .nils .bool, .nils .span, .nils .span]), .s (.store 4 (.t 3) (.t 14)), .s (.mv 4 (.t 15))]) (.seq (.seq (.reg [.s (.load 16 true 4 (.t 3)), .s (.call (some 17) 74 [(.t 16)]), .s (.bnot 18 (.t 17))]) (.cond (.t 18) (.seq (.reg [.s (.mv 2 (.k (.v (.c .ff))))]) (.ret)) (.skip))) (.seq (.seq (.reg [.s (.mv 5 (.k (.v (.c (.int .i64 0)))))]) (.blk 0 (.loop [3, 4, 5] lb_laws_FnOnlyLive_1))) (.seq (.reg [.s (.mv 2 (.k (.v (.c .tt))))]) (.ret))))))⟩
def c_laws_FnOnlyLive : Fun := ⟨10, [], fun ts K => as1 ts fun t0 => arC (pL (.int .u8)) t0 fun code => chk (code.length ≤ 9223372036854775807) (K (tB true) [])⟩
theorem run_laws_FnOnlyLive (FU : Nat) (code : List (FT.Ty (.int .u8))) (hpre : code.length ≤ 9223372036854775807) : runK [c_laws_big, c_spec_DrawHeld2, c_impl_HeapOk, c_laws_inOne, c_impl_Clean] (100 + FU) [] pf_laws_FnOnlyLive [tL false (.int .u8) code] fun r o => r = tB true ∧ o = [] := by
  conv => whnf
  refine sel_i (fun h => ?_) (fun h => ?_) <;> conv => whnf
  · exact ⟨rfl, rfl⟩
  have hc : code.length ≤ 1048576 := by simp at h; omega
  clear h
  refine chk_i hc ?_
  conv => whnf
  intro H rs hgl
  obtain ⟨hg, hl⟩ := hgl
  have hlen := hg.len
  conv => whnf
  repeat' (first | (refine sel_i (fun h => ?_) (fun h => ?_) <;> conv => whnf) | (refine chk_c ?_ ?_ <;> conv => whnf) | (refine And.intro ?_ rfl) | (refine And.intro ?_ ?_ <;> conv => whnf))
  all_goals (try simp only [etaKey, etaWord, etaMemory, etaHeap, etaSpan] at *)
  all_goals first
    | (refine ⟨?_⟩; exact hlen.mono (by decide))
    | (exfalso; rw [hg.ok] at h; cases h; done)
    | skip
  clear h
  refine loop (α := Nat × Heap × List Word) (fun q => ⟨[(3, .v (.c (.ptr 0 0))), (4, .v (.c (.sl false .word 5))), (5, .v (.c (.int .i64 (q.1 : Int))))],
        [(5, some (.flat true .word none q.2.2)), (4, some (.flat true .span none q.2.1.waits)), (3, some (.flat true .span none q.2.1.live)), (2, some (.flat true .bool none q.2.1.mem.gone)), (1, some (.flat true .word none q.2.1.mem.words)), (0, some (.box true [.sl false .word 1, .sl false .bool 2, .sl false .span 3, .sl false .span 4]))], nums.tail.tail.tail.tail.tail.tail, [], false, []⟩)
      (fun q => q.1 ≤ 2 ∧ Good q.2.1 q.2.2 ∧ q.2.2.length ≤ 14) (fun q => 2 - q.1) (fun q R hI hR => ?_) (0, H, rs) _ ⟨Nat.zero_le _, hg, hl⟩ (by show 2 - 0 < 100 + FU; omega)
  clear hg hl hlen
  obtain ⟨n, H, rs⟩ := q
  obtain ⟨hn, hg, hl⟩ := hI
  dsimp only at hn hg hl ⊢
  have hlen := hg.len
  obtain ⟨⟨k1, k2⟩, k3, k4⟩ := hlen
  conv => whnf
  repeat' (first | (refine sel_i (fun h => ?_) (fun h => ?_) <;> conv => whnf) | (refine chk_c ?_ ?_ <;> conv => whnf) | (refine And.intro ?_ rfl) | (refine And.intro ?_ ?_ <;> conv => whnf))
  all_goals (try simp only [etaKey, etaWord, etaMemory, etaHeap, etaSpan] at *)
  all_goals first
    | (refine ⟨?_⟩; simp only [List.length_nil, List.length_append]; omega)
    | rfl
    | trivial
    | skip
  have hin : ∀ w ∈ [] ++ rs ++ H.mem.words, InSpan ([] ++ H.live ++ H.waits) w := fun w hw => by
    rw [List.nil_append] at hw ⊢
    rcases List.mem_append.1 hw with q | q
    · exact (hg.regs w q).2
    · exact hg.mem w q
  have hsp : ∀ s ∈ [] ++ H.live ++ H.waits, spanOk s = true := fun s hs => by
    rw [List.nil_append] at hs; exact heapOk_spans hg.ok s hs
  have hal : ([] ++ rs ++ H.mem.words).length ≤ 38 := by simp only [List.nil_append, List.length_append]; omega
  have hsl : ([] ++ H.live ++ H.waits).length ≤ 48 := by simp only [List.nil_append, List.length_append]; omega
  generalize [] ++ rs ++ H.mem.words = all at *
  generalize [] ++ H.live ++ H.waits = sps at *
  have hn2 : n < 2 := by have h := of_decide_eq_true h; omega
  clear h
  have hgc := good_clean hg
  have hcl := clean_len2 H rs
  refine loop (α := Nat) (fun i => ⟨[(3, .v (.c (.ptr 0 0))), (4, .v (.c (.sl false .word 5))), (5, .v (.c (.int .i64 (n : Int)))), (6, .v (.c (.sl true .word 6))), (7, .v (.c (.sl true .span 7))), (8, .v (.c (.int .i64 (i : Int))))],
        [(7, some (.flat true .span none sps)), (6, some (.flat true .word none all)), (5, some (.flat true .word none rs)), (4, some (.flat true .span none H.waits)), (3, some (.flat true .span none H.live)), (2, some (.flat true .bool none H.mem.gone)), (1, some (.flat true .word none H.mem.words)), (0, some (.box true [.sl false .word 1, .sl false .bool 2, .sl false .span 3, .sl false .span 4]))], nums.tail.tail.tail.tail.tail.tail.tail.tail, [], false, []⟩)
      (fun i => i ≤ all.length) (fun i => all.length - i) (fun i R2 hI hR2 => ?_) 0 _ (Nat.zero_le _) (by show all.length - 0 < 100 + FU; omega)
  conv => whnf
  repeat' (first | (refine sel_i (fun h => ?_) (fun h => ?_) <;> conv => whnf) | (refine chk_c ?_ ?_ <;> conv => whnf) | (refine And.intro ?_ rfl) | (refine And.intro ?_ ?_ <;> conv => whnf))
  all_goals (try simp only [etaKey, etaWord, etaMemory, etaHeap, etaSpan, Int.toNat_natCast, Bool.not_eq_true', Bool.not_eq_false', decide_eq_true_eq, decide_eq_false_iff_not] at *)
  all_goals first
    | (refine ⟨?_⟩; omega)
    | (refine ⟨?_⟩; exact ⟨⟨⟨by omega, by omega⟩, by omega, by omega⟩, by omega⟩)
    | (exfalso; rw [inOne_yes (hin _ (getD_mem (by omega))) (by assumption) hsp] at h; cases h; done)
    | (rw [wrap_id (n := (i : Int) + 1) (by omega) (by omega)]; exact hR2 (i + 1) (by omega) (by omega))
    | (rw [wrap_id (n := (n : Int) + 1) (by omega) (by omega)]; exact hR (n + 1, (clean H rs).1, (clean H rs).2) ⟨by dsimp only; omega, hgc, by dsimp only; omega⟩ (by dsimp only; omega))
    | trace_state
theorem ok_laws_FnOnlyLive : FunOk Try.prog c_laws_FnOnlyLive := funOk (E := [c_laws_big, c_spec_DrawHeld2, c_impl_HeapOk, c_laws_inOne, c_impl_Clean]) (envOk_cons ok_laws_big (envOk_cons ok_spec_DrawHeld2 (envOk_cons ok_impl_HeapOk (envOk_cons ok_laws_inOne (envOk_cons ok_impl_Clean (envOk_nil)))))) mixd Try.func10 (pf := pf_laws_FnOnlyLive) (by kernel_rfl) fun ts K h => by
  obtain ⟨t0, e0, h⟩ := as1_out h
  subst e0
  obtain ⟨code, e1, hq⟩ := arC_out (rd_l (.int .u8)) h
  clear h
  subst e1
  have h := hq
  clear hq
  obtain ⟨hpre, h⟩ := chk_o h
  exact ⟨_, _, h, Nat.le_of_ble_eq_true (show Nat.ble 1 Try.f10.ntmps = true by kernel_rfl), _, run_laws_FnOnlyLive 0 code hpre⟩

end Go.Pi
namespace Go.Proofs.Ythpjpaginggjaaa
open Go.Pi
theorem fnOnlyLive_lifted (os : Os) (started : os.Started) (H : Type) (enc : TypeId × Value → H) :
    ReturnsInHanded {} Try.checked os 10 .any (Rows.fnOnlyLiveSpec.pre6 enc Try.prog Try.f10 Rows.fnOnlyLiveRow.domain false) (Rows.fnOnlyLiveSpec.post enc Try.prog Try.f10 false true false false) :=
  lifted (C := Try.checked) (E := [c_laws_big, c_spec_DrawHeld2, c_impl_HeapOk, c_laws_inOne, c_impl_Clean]) (fuel := _) (pf := pf_laws_FnOnlyLive) (shs := [(false, [.sl (.int .u8)])]) (tb := 4) (by kernel_rfl) started (by kernel_rfl) Try.func10
    (ChangeSpec.witness6 (enc := enc) (C := Try.checked) false ⟨#[], #[.slice none 0 0], []⟩ 12 (by kernel_rfl) (by kernel_rfl) (by kernel_rfl) (by kernel_rfl))
    mixd (envOk_cons ok_laws_big (envOk_cons ok_spec_DrawHeld2 (envOk_cons ok_impl_HeapOk (envOk_cons ok_laws_inOne (envOk_cons ok_impl_Clean (envOk_nil)))))) (by kernel_rfl) (by kernel_rfl) (by kernel_rfl) rfl (by kernel_rfl) rfl
    (fun ds h => by
      obtain _ | ⟨d0, ds⟩ := ds
      · simp at h
      obtain _ | ⟨x, ds⟩ := ds
      · rfl
      · simp at h)
    (fun ain h0 => by
      obtain ⟨T0, ain0, e, k0, h1⟩ := areCons h0
      subst e
      have e := areNil h1
      subst e
      obtain ⟨code, e, w0⟩ := isL k0
      subst e
      exact run_laws_FnOnlyLive 0 code (w0.2))
theorem fnOnlyLive_over : Rows.fnOnlyLiveRow.holds Try.pinned (OpenSpec.ofChange Rows.fnOnlyLiveSpec) :=
  OpenClaim.holds_of_wide 10 Try.f10 rfl rfl rfl rfl rfl rfl rfl ⟨rfl, rfl, rfl, rfl, rfl⟩ rfl rfl rfl rfl rfl (by kernel_rfl) Try.func10 (by kernel_rfl)
    (of_decide_eq_true (by kernel_rfl)) (by unfold Func.isWrapper; first | (rw [if_pos (by decide +kernel)]; kernel_rfl) | (rw [if_neg (by decide +kernel)]; exact ⟨rfl, rfl⟩))
    (fun os started H enc _ => fnOnlyLive_lifted os started H enc)
theorem fnOnlyLive_holds : Rows.FnOnlyLiveSaid := fnOnlyLive_over
#print axioms fnOnlyLive_holds
end Go.Proofs.Ythpjpaginggjaaa
