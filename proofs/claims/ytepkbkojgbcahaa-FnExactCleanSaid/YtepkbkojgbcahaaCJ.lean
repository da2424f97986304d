/- Contracts of functions, each out of its run by PI. No conditions. -/
import Derived.Test.YtepkbkojgbcahaaCI
namespace Go.Pi
open Go.Proofs
set_option linter.unusedVariables false
set_option linter.unusedSimpArgs false
set_option maxRecDepth 100000
attribute [local irreducible] iterN
def hasP (w : Word) (p : Int) : Bool := w.is && (andI w.key.perms p != 0)
theorem scan_out {ws : List Word} : ∀ (n c : Nat) {out : List Word}, WOut out → WOut (scan ws n c out)
  | 0, _, _, h => h
  | n + 1, c, out, h => scan_out n (c + 1) (putW_out h)
theorem closGo_out {ws : List Word} : ∀ (n i : Nat) {out : List Word}, WOut out → WOut (closGo ws n i out)
  | 0, _, _, h => h
  | n + 1, i, out, h => by
    unfold closGo
    split
    · refine closGo_out n (i + 1) ?_
      unfold closStep
      split
      · exact scan_out _ _ h
      · exact h
    · exact h
theorem foldPut_out : ∀ (l : List Word) {out : List Word}, WOut out → WOut (l.foldl putW out)
  | [], _, h => h
  | w :: l, _, h => foldPut_out l (putW_out h)
theorem foldPut_len : ∀ (l : List Word) (out : List Word), (l.foldl putW out).length ≤ out.length + l.length
  | [], _ => by simp
  | w :: l, out => by
    have := foldPut_len l (putW out w)
    have := (putW_len out w).2
    simp only [List.foldl_cons, List.length_cons]; omega
theorem closure_out (m : Mem) (l : List Word) : WOut (closure m l) := by
  unfold closure
  split
  · exact closGo_out _ _ (foldPut_out l (by simp [WOut]))
  · simp [WOut]
theorem missing_zero (out : List Word) (w : Word) (ws : List Word) (hw : w = FT.zero .word) : putW out w = out := by
  subst hw; exact putW_is rfl
theorem scan_miss {ws : List Word} : ∀ (n c : Nat) (out : List Word), (scan ws n c out).length + missing ws (scan ws n c out) ≤ out.length + missing ws out
  | 0, _, _ => Nat.le_refl _
  | n + 1, c, out => by
    unfold scan
    refine Nat.le_trans (scan_miss n (c + 1) _) ?_
    by_cases hc : c < ws.length
    · exact missing_put (getD_mem hc)
    · rw [missing_zero out _ ws (by simp [List.getD_eq_getElem?_getD, show ws.length ≤ c by omega])]
      exact Nat.le_refl _
theorem closGo_miss {ws : List Word} : ∀ (n i : Nat) (out : List Word), (closGo ws n i out).length + missing ws (closGo ws n i out) ≤ out.length + missing ws out
  | 0, _, _ => Nat.le_refl _
  | n + 1, i, out => by
    unfold closGo
    split
    · refine Nat.le_trans (closGo_miss n (i + 1) _) ?_
      unfold closStep
      split
      · exact scan_miss _ _ _
      · exact Nat.le_refl _
    · exact Nat.le_refl _
theorem closure_len (m : Mem) (l : List Word) : (closure m l).length ≤ l.length + 24 := by
  unfold closure
  split
  · rename_i h
    have h1 := closGo_miss (ws := m.words) (l.length + 24) 0 (closFirst l)
    have h2 := foldPut_len l []
    have h3 := missing_le m.words (closFirst l)
    have h4 := (memoryOk_n h).1
    simp only [closFirst, List.length_nil] at *
    omega
  · simp
def canSeal (m : Mem) (l : List Word) : Bool := (closure m l).any (fun w => hasP w 32)
theorem hasP_is {out : List Word} (h : WOut out) {w : Word} (hw : w ∈ out) (p : Int) : hasP w p = (andI w.key.perms p != 0) := by simp [hasP, (h w hw).2]

def pf_impl_has : PF := ⟨[.t 4], .seq (.reg [.s (.box 2 (.t 0)), .s (.mv 4 (.k (.v (.c .ff))))]) (.seq (.reg [.s (.fa 5 (.t 2) 1), .s (.load 6 false 1 (.t 5)), .s (.mv 7 (.t 6)), .g 7 true (some 8) (.fa 8 (.t 2) 2), .g 7 true (some 9) (.fa 9 (.t 8) 2), .g 7 true (some 10) (.load 10 false 1 (.t 9)), .g 7 true (some 11) (.mv 11 (.t 1)), .g 7 true (some 12) (.bin 12 .and (.t 10) (.t 11)), .g 7 true (some 13) (.bin 13 .neq (.t 12) (.k (.v (.c (.int .i64 0))))), .s (.pick 14 (.t 7) (.t 13) (.k (.v (.c .ff)))), .s (.mv 4 (.t 14))]) (.ret))⟩
def c_impl_has : Fun := ⟨115, [], fun ts K => as2 ts fun t0 t1 => arG pWordT t0 fun w => arC (pI .i64) t1 fun p => K (tB (hasP w p)) []⟩
theorem run_impl_has (w : Word) (p : Int) : runK [] (0) [] pf_impl_has [tG (w.tc []), tI .i64 p] fun r o => r = tB (hasP w p) ∧ o = [] := by
  conv => whnf
  repeat' (first | (refine sel_i (fun h => ?_) (fun h => ?_) <;> conv => whnf) | (refine chk_c ?_ ?_ <;> conv => whnf) | (refine And.intro ?_ rfl) | (refine And.intro ?_ ?_ <;> conv => whnf))
  all_goals (try simp only [andI_eq] at *)
  all_goals (simp_all [hasP]; done)
theorem ok_impl_has : FunOk Try.prog c_impl_has := funOk (E := []) (envOk_nil) mixd Try.func115 (pf := pf_impl_has) (by kernel_rfl) fun ts K h => by
  obtain ⟨t0, t1, e0, h⟩ := as2_out h
  subst e0
  obtain ⟨w, e1, hq⟩ := arG_out rd_word h
  clear h
  subst e1
  have h := hq
  clear hq
  obtain ⟨p, e1, hq⟩ := arC_out (rd_int .i64) h
  clear h
  subst e1
  have h := hq
  clear hq
  exact ⟨_, _, h, Nat.le_of_ble_eq_true (show Nat.ble 2 Try.f115.ntmps = true by kernel_rfl), _, run_impl_has w p⟩

def pf_impl_CanSeal_1 : PF := ⟨[.t 2], .seq (.reg [.s (.box 1 (.t 0)), .s (.mv 2 (.k (.v (.c .ff))))]) (.seq (.reg [.s (.load 3 true 6 (.t 1)), .s (.call (some 4) 115 [(.t 3), (.k (.v (.c (.int .i64 32))))]), .s (.mv 2 (.t 4))]) (.ret))⟩
def c_impl_CanSeal_1 : Fun := ⟨121, [], fun ts K => as1 ts fun t0 => arG pWordT t0 fun w => K (tB (hasP w 32)) []⟩
theorem run_impl_CanSeal_1 (w : Word) : runK [c_impl_has] (0) [] pf_impl_CanSeal_1 [tG (w.tc [])] fun r o => r = tB (hasP w 32) ∧ o = [] := by
  conv => whnf
  repeat' (first
    | exact rfl
    | exact trivial
    | (refine sel_i (fun h => ?_) (fun h => ?_) <;> conv => whnf)
    | (refine chk_c ?_ ?_ <;> conv => whnf)
    | (refine And.intro ?_ ?_ <;> conv => whnf))
theorem ok_impl_CanSeal_1 : FunOk Try.prog c_impl_CanSeal_1 := funOk (E := [c_impl_has]) (envOk_cons ok_impl_has (envOk_nil)) mixd Try.func121 (pf := pf_impl_CanSeal_1) (by kernel_rfl) fun ts K h => by
  obtain ⟨t0, e0, h⟩ := as1_out h
  subst e0
  obtain ⟨w, e1, hq⟩ := arG_out rd_word h
  clear h
  subst e1
  have h := hq
  clear hq
  exact ⟨_, _, h, Nat.le_of_ble_eq_true (show Nat.ble 1 Try.f121.ntmps = true by kernel_rfl), _, run_impl_CanSeal_1 w⟩

def c_slices_IndexFunc_Word__impl_CanSeal_1 : Fun := ⟨111, [], fun ts K => as2 ts fun t0 t1 => arC (pL .word) t0 fun xs => arF0 121 t1 fun g => chk (xs.length ≤ 2147483647) (K (tN (idxOf (fun w => hasP w 32) xs)) [])⟩
theorem run_slices_IndexFunc_Word__impl_CanSeal_1 (xs : List (FT.Ty .word)) (g : Unit) (hpre : xs.length ≤ 2147483647) : runK [c_impl_CanSeal_1] (xs.length + 1) [] pf_slices_IndexFunc_Word [tL false .word xs, .fn 121 []] fun r o => r = tN (idxOf (fun w => hasP w 32) xs) ∧ o = [] := by
  conv => whnf
  refine loop (α := Nat) (fun i => ⟨[(0, .v (.c (.sl false .word 0))), (1, .fn 121 []), (7, .v (.c (.int .i64 (xs.length : Int)))), (8, .v (.c (.int .i64 (i : Int))))], [(0, some (.flat false .word none xs))], nums.tail, [], false, []⟩)
      (fun i => i ≤ xs.length ∧ idxOf (fun w => hasP w 32) xs = idxGo (fun w => hasP w 32) (xs.drop i) i) (fun i => xs.length - i) (fun i R hI hR => ?_) 0 _ ⟨by simp, rfl⟩ (by simp)
  obtain ⟨hi, hx⟩ := hI
  conv => whnf
  refine sel_i (fun h2 => ?_) (fun h2 => ?_)
  · have hlt : i < xs.length := by simp at h2; omega
    conv => whnf
    repeat (refine chk_i (by first | omega | (simp; omega)) ?_; conv => whnf)
    refine sel_i (fun h3 => ?_) (fun h3 => ?_)
    · conv => whnf
      rw [hx, idxGo_yes (z := FT.zero .word) hlt (by first | (simp only [keyEq] at h3; exact h3) | (simpa using h3))]
      exact ⟨rfl, rfl⟩
    · conv => whnf
      rw [wrap_id (n := (i : Int) + 1) (by omega) (by omega)]
      exact hR (i + 1) ⟨by omega, by rw [hx, idxGo_no (z := FT.zero .word) hlt (by first | (simp only [keyEq] at h3; exact h3) | (simpa using h3))]⟩ (by omega)
  · conv => whnf
    rw [hx, idxGo_end (by simp at h2; omega)]
    exact ⟨rfl, rfl⟩
theorem ok_slices_IndexFunc_Word__impl_CanSeal_1 : FunOk Try.prog c_slices_IndexFunc_Word__impl_CanSeal_1 := funOk (E := [c_impl_CanSeal_1]) (envOk_cons ok_impl_CanSeal_1 (envOk_nil)) mixd Try.func111 (pf := pf_slices_IndexFunc_Word) (by kernel_rfl) fun ts K h => by
  obtain ⟨t0, t1, e0, h⟩ := as2_out h
  subst e0
  obtain ⟨xs, e1, hq⟩ := arC_out (rd_l .word) h
  clear h
  subst e1
  have h := hq
  clear hq
  obtain ⟨g, e1, hq⟩ := arF0_out h
  clear h
  subst e1
  have h := hq
  clear hq
  obtain ⟨hpre, h⟩ := chk_o h
  exact ⟨_, _, h, Nat.le_of_ble_eq_true (show Nat.ble 2 Try.f111.ntmps = true by kernel_rfl), _, run_slices_IndexFunc_Word__impl_CanSeal_1 xs g hpre⟩

def c_slices_ContainsFunc_Word__impl_CanSeal_1 : Fun := ⟨61, [], fun ts K => as2 ts fun t0 t1 => arC (pL .word) t0 fun xs => arF0 121 t1 fun g => chk (xs.length ≤ 2147483647) (K (tB (xs.any (fun w => hasP w 32))) [])⟩
theorem run_slices_ContainsFunc_Word__impl_CanSeal_1 (xs : List (FT.Ty .word)) (g : Unit) (hpre : xs.length ≤ 2147483647) : runK [c_slices_IndexFunc_Word__impl_CanSeal_1, c_impl_CanSeal_1] (0) [] pf_slices_ContainsFunc_Word [tL false .word xs, .fn 121 []] fun r o => r = tB (xs.any (fun w => hasP w 32)) ∧ o = [] := by
  conv => whnf
  repeat' (first | (refine sel_i (fun h => ?_) (fun h => ?_) <;> conv => whnf) | (refine chk_c ?_ ?_ <;> conv => whnf) | (refine And.intro ?_ rfl) | (refine And.intro ?_ ?_ <;> conv => whnf))
  all_goals first | (refine ⟨?_⟩; exact hpre) | exact hpre | (rw [← idxOf_any]; rfl) | (rw [← idxOf_any])
theorem ok_slices_ContainsFunc_Word__impl_CanSeal_1 : FunOk Try.prog c_slices_ContainsFunc_Word__impl_CanSeal_1 := funOk (E := [c_slices_IndexFunc_Word__impl_CanSeal_1, c_impl_CanSeal_1]) (envOk_cons ok_slices_IndexFunc_Word__impl_CanSeal_1 (envOk_cons ok_impl_CanSeal_1 (envOk_nil))) mixd Try.func61 (pf := pf_slices_ContainsFunc_Word) (by kernel_rfl) fun ts K h => by
  obtain ⟨t0, t1, e0, h⟩ := as2_out h
  subst e0
  obtain ⟨xs, e1, hq⟩ := arC_out (rd_l .word) h
  clear h
  subst e1
  have h := hq
  clear hq
  obtain ⟨g, e1, hq⟩ := arF0_out h
  clear h
  subst e1
  have h := hq
  clear hq
  obtain ⟨hpre, h⟩ := chk_o h
  exact ⟨_, _, h, Nat.le_of_ble_eq_true (show Nat.ble 2 Try.f61.ntmps = true by kernel_rfl), _, run_slices_ContainsFunc_Word__impl_CanSeal_1 xs g hpre⟩

def pf_impl_CanSeal : PF := ⟨[.t 4], .seq (.reg [.s (.box 2 (.t 0)), .s (.mv 4 (.k (.v (.c .ff))))]) (.seq (.reg [.s (.load 5 true 2 (.t 2)), .s (.mv 6 (.t 1)), .s (.call (some 7) 17 [(.t 5), (.t 6)]), .s (.call (some 8) 61 [(.t 7), (.k (.fn 121 []))]), .s (.mv 4 (.t 8))]) (.ret))⟩
def c_impl_CanSeal : Fun := ⟨84, [], fun ts K => as2 ts fun t0 t1 => arG pMemT t0 fun m => arC (pL .word) t1 fun l => chk (LMem m 2147483647 ∧ l.length ≤ 1048576) (K (tB (canSeal m l)) [])⟩
theorem run_impl_CanSeal (m : Mem) (l : List (FT.Ty .word)) (hpre : LMem m 2147483647 ∧ l.length ≤ 1048576) : runK [c_impl_Closure, c_slices_ContainsFunc_Word__impl_CanSeal_1, c_impl_CanSeal_1] (0) [] pf_impl_CanSeal [tG (m.tc false []), tL false .word l] fun r o => r = tB (canSeal m l) ∧ o = [] := by
  have h1 := closure_len m l
  conv => whnf
  repeat' (first | (refine sel_i (fun h => ?_) (fun h => ?_) <;> conv => whnf) | (refine chk_c ?_ ?_ <;> conv => whnf) | (refine And.intro ?_ rfl) | (refine And.intro ?_ ?_ <;> conv => whnf))
  all_goals first
    | (refine ⟨?_⟩; exact hpre)
    | (refine ⟨?_⟩; simp only [etaMemory]; omega)
    | rfl
    | trace_state
theorem ok_impl_CanSeal : FunOk Try.prog c_impl_CanSeal := funOk (E := [c_impl_Closure, c_slices_ContainsFunc_Word__impl_CanSeal_1, c_impl_CanSeal_1]) (envOk_cons ok_impl_Closure (envOk_cons ok_slices_ContainsFunc_Word__impl_CanSeal_1 (envOk_cons ok_impl_CanSeal_1 (envOk_nil)))) mixd Try.func84 (pf := pf_impl_CanSeal) (by kernel_rfl) fun ts K h => by
  obtain ⟨t0, t1, e0, h⟩ := as2_out h
  subst e0
  obtain ⟨m, e1, hq⟩ := arG_out rd_mem h
  clear h
  subst e1
  have h := hq
  clear hq
  obtain ⟨l, e1, hq⟩ := arC_out (rd_l .word) h
  clear h
  subst e1
  have h := hq
  clear hq
  obtain ⟨hpre, h⟩ := chk_o h
  exact ⟨_, _, h, Nat.le_of_ble_eq_true (show Nat.ble 2 Try.f84.ntmps = true by kernel_rfl), _, run_impl_CanSeal m l hpre⟩

def lb_spec_CanSeal_0 : PC := .seq (.seq (.reg [.s (.mv 10 (.t 6)), .s (.mv 11 (.t 5)), .s (.len 12 false (.t 11)), .s (.bin 13 .lss (.t 10) (.t 12))]) (.cond (.t 13) (.skip) (.exit 0))) (.seq (.blk 1 (.seq (.reg [.s (.mv 16 (.t 5)), .s (.mv 17 (.t 6)), .s (.ia 18 .word (.t 16) (.t 17)), .s (.fa 19 (.t 18) 2), .s (.fa 20 (.t 19) 2), .s (.load 21 false 1 (.t 20)), .s (.bin 22 .and (.t 21) (.k (.v (.c (.int .i64 32))))), .s (.bin 23 .neq (.t 22) (.k (.v (.c (.int .i64 0)))))]) (.cond (.t 23) (.seq (.reg [.s (.mv 4 (.k (.v (.c .tt))))]) (.ret)) (.skip)))) (.reg [.s (.mv 14 (.t 6)), .s (.bin 15 .add (.t 14) (.k (.v (.c (.int .i64 1))))), .s (.mv 6 (.t 15))]))
def pf_spec_CanSeal : PF := ⟨[.t 4], .seq (.reg [.s (.box 2 (.t 0)), .s (.mv 4 (.k (.v (.c .ff))))]) (.seq (.reg [.s (.load 7 true 2 (.t 2)), .s (.mv 8 (.t 1)), .s (.call (some 9) 14 [(.t 7), (.t 8)]), .s (.mv 5 (.t 9))]) (.seq (.seq (.reg [.s (.mv 6 (.k (.v (.c (.int .i64 0)))))]) (.blk 0 (.loop [5, 6] lb_spec_CanSeal_0))) (.seq (.reg [.s (.mv 4 (.k (.v (.c .ff))))]) (.ret))))⟩
def c_spec_CanSeal : Fun := ⟨79, [], fun ts K => as2 ts fun t0 t1 => arG pMemT t0 fun m => arC (pL .word) t1 fun l => chk (LMem m 2147483647 ∧ l.length ≤ 1048576) (K (tB (canSeal m l)) [])⟩
theorem run_spec_CanSeal (m : Mem) (l : List (FT.Ty .word)) (hpre : LMem m 2147483647 ∧ l.length ≤ 1048576) : runK [c_spec_Closure] (l.length + 30) [] pf_spec_CanSeal [tG (m.tc false []), tL false .word l] fun r o => r = tB (canSeal m l) ∧ o = [] := by
  have h1 := closure_len m l
  have h2 := closure_out m l
  conv => whnf
  refine chk_i hpre ?_
  conv => whnf
  simp only [etaMemory]
  refine loop (α := Nat) (fun i => ⟨[(5, .v (.c (.sl false .word 0))), (6, .v (.c (.int .i64 (i : Int))))], [(0, some (.flat true .word none (closure m l)))], nums.tail, [], false, []⟩)
      (fun i => i ≤ (closure m l).length ∧ ((closure m l).drop i).any (fun w => hasP w 32) = canSeal m l) (fun i => (closure m l).length - i) (fun i R hI hR => ?_) 0 _ ⟨by simp, by simp [canSeal]⟩ (by omega)
  obtain ⟨hi, hx⟩ := hI
  conv => whnf
  repeat' (first | (refine sel_i (fun h => ?_) (fun h => ?_) <;> conv => whnf) | (refine chk_c ?_ ?_ <;> conv => whnf) | (refine And.intro ?_ rfl) | (refine And.intro ?_ ?_ <;> conv => whnf))
  all_goals simp only [andI_eq, Int.toNat_natCast, decide_eq_true_eq, decide_eq_false_iff_not] at *
  all_goals first
    | (refine ⟨?_⟩; omega)
    | (rw [show canSeal m l = true from any_yes (z := FT.zero .word) (by omega) (by rw [hasP_is h2 (getD_mem (by omega))]; assumption) hx]; done)
    | (rw [show canSeal m l = false from any_end (by omega) hx]; done)
    | (rw [wrap_id (n := (i : Int) + 1) (by omega) (by omega)]; exact hR (i + 1) ⟨by omega, any_no (z := FT.zero .word) (by omega) (by rw [hasP_is h2 (getD_mem (by omega))]; assumption) hx⟩ (by omega))
    | trace_state
theorem ok_spec_CanSeal : FunOk Try.prog c_spec_CanSeal := funOk (E := [c_spec_Closure]) (envOk_cons ok_spec_Closure (envOk_nil)) mixd Try.func79 (pf := pf_spec_CanSeal) (by kernel_rfl) fun ts K h => by
  obtain ⟨t0, t1, e0, h⟩ := as2_out h
  subst e0
  obtain ⟨m, e1, hq⟩ := arG_out rd_mem h
  clear h
  subst e1
  have h := hq
  clear hq
  obtain ⟨l, e1, hq⟩ := arC_out (rd_l .word) h
  clear h
  subst e1
  have h := hq
  clear hq
  obtain ⟨hpre, h⟩ := chk_o h
  exact ⟨_, _, h, Nat.le_of_ble_eq_true (show Nat.ble 2 Try.f79.ntmps = true by kernel_rfl), _, run_spec_CanSeal m l hpre⟩
end Go.Pi
