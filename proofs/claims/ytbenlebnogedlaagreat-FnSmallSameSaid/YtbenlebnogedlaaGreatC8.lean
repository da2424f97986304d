/- Contracts of functions, each out of its run by PI. No conditions. -/
import Derived.Test.YtbenlebnogedlaaGreatC7
namespace Go.Pi
open Go.Proofs
set_option linter.unusedVariables false
set_option linter.unusedSimpArgs false
set_option maxRecDepth 100000
attribute [local irreducible] iterN
theorem small_same {l : List Inst} {s : State} {w : Int} (hs : stateOk s = true) (ht : s.trap = 0) (h0 : s.pc.n = 0) (hl : ∀ x ∈ l, x.op ≠ 12 ∧ x.op ≠ 13) (hlen : l.length ≤ 50) : (outOrder l s w 60).1 = (inOrder l s 60).1 ∧ 1 ≤ (inOrder l s 60).2 := by
  refine ⟨out_in (n := 60) hs ht (by decide) fun h => ?_, ?_⟩
  · have := (line_ends hs hl (by omega) h0 60 h).2
    omega
  · unfold inOrder
    rw [if_neg (by rw [hs]; decide), show (min (60 : Int) 600).toNat = 59 + 1 by decide]
    unfold inGo
    rw [if_pos ht]
    show (1 : Int) ≤ (((inGo l 59 (stepS l s)).2 + 1 : Nat) : Int)
    omega
theorem mark_ops {a n : Int} : ∀ x ∈ markCode a n, x.op ≠ 12 ∧ x.op ≠ 13 := by
  unfold markCode
  split
  · simp
  · simp
theorem copy_ops {a b n : Int} : ∀ x ∈ copyAll a b n, x.op ≠ 12 ∧ x.op ≠ 13 := by
  unfold copyAll copyCode
  split
  · simp only [List.mem_append, List.mem_flatMap, List.mem_cons, List.not_mem_nil, or_false]
    rintro x (⟨_, _, rfl | rfl⟩ | rfl) <;> simp
  · simp
def atDI (c : List Int) (i : Int) : Int := if i < c.length then c.getD i.toNat 0 else (i * 7 + c.length) % 256
theorem atDI_in {c : List Int} (h : U8s c) {i : Int} (h0 : 0 ≤ i) : 0 ≤ atDI c i ∧ atDI c i ≤ 255 := by
  unfold atDI
  split
  · exact h.at i.toNat
  · omega
theorem tmodI {d m : Int} (h : 0 ≤ d) (hm : 0 < m) : 0 ≤ d.tmod m ∧ d.tmod m < m := by
  rw [Int.tmod_eq_emod_of_nonneg h]
  exact ⟨Int.emod_nonneg _ (by omega), Int.emod_lt_of_pos _ hm⟩
theorem small_all {l : List Inst} {d : Mem} {w : Int} (hd : memoryOk d = true) (hl : ∀ x ∈ l, x.op ≠ 12 ∧ x.op ≠ 13) (hlen : l.length ≤ 50) :
    (outOrder l ⟨stateNew.regs, stateNew.pc, d, stateNew.trap⟩ w 60).1 = (inOrder l ⟨stateNew.regs, stateNew.pc, d, stateNew.trap⟩ 60).1 ∧ 1 ≤ (inOrder l ⟨stateNew.regs, stateNew.pc, d, stateNew.trap⟩ 60).2 ∧ LState (inOrder l ⟨stateNew.regs, stateNew.pc, d, stateNew.trap⟩ 60).1 2147483647 :=
  have hs := runFrom_ok hd
  have h := small_same (w := w) hs rfl (show stateNew.pc.n = 0 by decide +kernel) hl hlen
  ⟨h.1, h.2, (stateOk_len (inOrder_ok hs)).l⟩
theorem small_room {x n : Int} (h : 0 ≤ x ∧ x ≤ 9) (h2 : 1 ≤ n ∧ n ≤ 6) : room x n = true := by
  unfold room
  rw [show w64 (24 - n) = 24 - n from wrap_id (by omega) (by omega), Bool.and_eq_true, inR_t, inR_t]
  omega

def c_laws_at_v_Det : Fun := ⟨8, [], fun ts K => as2 ts fun t0 t1 => arC (pL (.int .u8)) t0 fun c => arC (pI .i64) t1 fun i => chk (c.length ≤ 1048576 ∧ 0 ≤ i ∧ i ≤ 1000 ∧ U8s c) (K (tN (atDI c i)) [])⟩
theorem run_laws_at_v_Det (c : List (FT.Ty (.int .u8))) (i : Int) (hpre : c.length ≤ 1048576 ∧ 0 ≤ i ∧ i ≤ 1000 ∧ U8s c) : runK [] (0) [] pf_laws_at [tL false (.int .u8) c, tI .i64 i] fun r o => r = tN (atDI c i) ∧ o = [] := by
  obtain ⟨l1, l2, l3, l4⟩ := hpre
  conv => whnf
  repeat' (first | (refine sel_i (fun h => ?_) (fun h => ?_) <;> conv => whnf) | (refine chk_c ?_ ?_ <;> conv => whnf) | (refine And.intro ?_ rfl) | (refine And.intro ?_ ?_ <;> conv => whnf))
  all_goals (try simp only [decide_eq_true_eq, decide_eq_false_iff_not] at *)
  all_goals first
    | (refine ⟨?_⟩; decide)
    | (refine ⟨?_⟩; omega)
    | (have hv := l4.at i.toNat
       rw [wrap_id (n := c.getD i.toNat (FT.zero (.int .u8))) (by simp only [zu8]; omega) (by simp only [zu8]; omega)]
       unfold atDI; rw [if_pos (by assumption)]; rfl)
    | (rw [wrap_id (n := i * 7) (by omega) (by omega), wrap_id (n := i * 7 + (c.length : Int)) (by omega) (by omega), Int.tmod_eq_emod_of_nonneg (by omega)]
       unfold atDI; rw [if_neg (by assumption)])
    | trace_state
theorem ok_laws_at_v_Det : FunOk Tryz.prog c_laws_at_v_Det := funOk (E := []) (envOk_nil) mixd Tryz.func8 (pf := pf_laws_at) (by kernel_rfl) fun ts K h => by
  obtain ⟨t0, t1, e0, h⟩ := as2_out h
  subst e0
  obtain ⟨c, e1, hq⟩ := arC_out (rd_l (.int .u8)) h
  clear h
  subst e1
  have h := hq
  clear hq
  obtain ⟨i, e1, hq⟩ := arC_out (rd_int .i64) h
  clear h
  subst e1
  have h := hq
  clear hq
  obtain ⟨hpre, h⟩ := chk_o h
  exact ⟨_, _, h, Nat.le_of_ble_eq_true (show Nat.ble 2 Tryz.f8.ntmps = true by kernel_rfl), _, run_laws_at_v_Det c i hpre⟩
end Go.Pi
