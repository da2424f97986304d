/- Contracts of functions, each out of its run by PI. No conditions. -/
import Derived.Test.YthpjpaginggjaaaC1
namespace Go.Pi
open Go.Proofs
set_option linter.unusedVariables false
set_option linter.unusedSimpArgs false
set_option maxRecDepth 100000
attribute [local irreducible] iterN
def hasP (w : Word) (p : Int) : Bool := w.is && (andI w.key.perms p != 0)
theorem scan_out {ws : List Word} : ∀ (n c : Nat) {out : List Word}, WOut out → WOut (scan ws n c out)
  | 0, _, _, h => h
  | n + 1, c, out, h => scan_out n (c + 1) (putW_out h)
theorem closGo_out {ws : List Word} : ∀ (n i : Nat) {out : List Word}, WOut out → WOut (closGo ws n i out)
  | 0, _, _, h => h
  | n + 1, i, out, h => by
    unfold closGo
    split
    · refine closGo_out n (i + 1) ?_
      unfold closStep
      split
      · exact scan_out _ _ h
      · exact h
    · exact h
theorem foldPut_out : ∀ (l : List Word) {out : List Word}, WOut out → WOut (l.foldl putW out)
  | [], _, h => h
  | w :: l, _, h => foldPut_out l (putW_out h)
theorem foldPut_len : ∀ (l : List Word) (out : List Word), (l.foldl putW out).length ≤ out.length + l.length
  | [], _ => by simp
  | w :: l, out => by
    have := foldPut_len l (putW out w)
    have := (putW_len out w).2
    simp only [List.foldl_cons, List.length_cons]; omega
theorem closure_out (m : Mem) (l : List Word) : WOut (closure m l) := by
  unfold closure
  split
  · exact closGo_out _ _ (foldPut_out l (by simp [WOut]))
  · simp [WOut]
theorem missing_zero (out : List Word) (w : Word) (ws : List Word) (hw : w = FT.zero .word) : putW out w = out := by
  subst hw; exact putW_is rfl
theorem scan_miss {ws : List Word} : ∀ (n c : Nat) (out : List Word), (scan ws n c out).length + missing ws (scan ws n c out) ≤ out.length + missing ws out
  | 0, _, _ => Nat.le_refl _
  | n + 1, c, out => by
    unfold scan
    refine Nat.le_trans (scan_miss n (c + 1) _) ?_
    by_cases hc : c < ws.length
    · exact missing_put (getD_mem hc)
    · rw [missing_zero out _ ws (by simp [List.getD_eq_getElem?_getD, show ws.length ≤ c by omega])]
      exact Nat.le_refl _
theorem closGo_miss {ws : List Word} : ∀ (n i : Nat) (out : List Word), (closGo ws n i out).length + missing ws (closGo ws n i out) ≤ out.length + missing ws out
  | 0, _, _ => Nat.le_refl _
  | n + 1, i, out => by
    unfold closGo
    split
    · refine Nat.le_trans (closGo_miss n (i + 1) _) ?_
      unfold closStep
      split
      · exact scan_miss _ _ _
      · exact Nat.le_refl _
    · exact Nat.le_refl _
theorem closure_len (m : Mem) (l : List Word) : (closure m l).length ≤ l.length + 24 := by
  unfold closure
  split
  · rename_i h
    have h1 := closGo_miss (ws := m.words) (l.length + 24) 0 (closFirst l)
    have h2 := foldPut_len l []
    have h3 := missing_le m.words (closFirst l)
    have h4 := (memoryOk_n h).1
    simp only [closFirst, List.length_nil] at *
    omega
  · simp
def canSeal (m : Mem) (l : List Word) : Bool := (closure m l).any (fun w => hasP w 32)
theorem hasP_is {out : List Word} (h : WOut out) {w : Word} (hw : w ∈ out) (p : Int) : hasP w p = (andI w.key.perms p != 0) := by simp [hasP, (h w hw).2]

def pf_impl_has : PF := ⟨[.t 4], .seq (.reg [.s (.box 2 (.t 0)), .s (.mv 4 (.k (.v (.c .ff))))]) (.seq (.reg [.s (.fa 5 (.t 2) 1), .s (.load 6 false 1 (.t 5)), .s (.mv 7 (.t 6)), .g 7 true (some 8) (.fa 8 (.t 2) 2), .g 7 true (some 9) (.fa 9 (.t 8) 2), .g 7 true (some 10) (.load 10 false 1 (.t 9)), .g 7 true (some 11) (.mv 11 (.t 1)), .g 7 true (some 12) (.bin 12 .and (.t 10) (.t 11)), .g 7 true (some 13) (.bin 13 .neq (.t 12) (.k (.v (.c (.int .i64 0))))), .s (.pick 14 (.t 7) (.t 13) (.k (.v (.c .ff)))), .s (.mv 4 (.t 14))]) (.ret))⟩
def c_impl_has : Fun := ⟨96, [], fun ts K => as2 ts fun t0 t1 => arG pWordT t0 fun w => arC (pI .i64) t1 fun p => K (tB (hasP w p)) []⟩
theorem run_impl_has (w : Word) (p : Int) : runK [] (0) [] pf_impl_has [tG (w.tc []), tI .i64 p] fun r o => r = tB (hasP w p) ∧ o = [] := by
  conv => whnf
  repeat' (first | (refine sel_i (fun h => ?_) (fun h => ?_) <;> conv => whnf) | (refine chk_c ?_ ?_ <;> conv => whnf) | (refine And.intro ?_ rfl) | (refine And.intro ?_ ?_ <;> conv => whnf))
  all_goals (try simp only [andI_eq] at *)
  all_goals (simp_all [hasP]; done)
theorem ok_impl_has : FunOk Try.prog c_impl_has := funOk (E := []) (envOk_nil) mixd Try.func96 (pf := pf_impl_has) (by kernel_rfl) fun ts K h => by
  obtain ⟨t0, t1, e0, h⟩ := as2_out h
  subst e0
  obtain ⟨w, e1, hq⟩ := arG_out rd_word h
  clear h
  subst e1
  have h := hq
  clear hq
  obtain ⟨p, e1, hq⟩ := arC_out (rd_int .i64) h
  clear h
  subst e1
  have h := hq
  clear hq
  exact ⟨_, _, h, Nat.le_of_ble_eq_true (show Nat.ble 2 Try.f96.ntmps = true by kernel_rfl), _, run_impl_has w p⟩

def pf_impl_CanSeal_1 : PF := ⟨[.t 2], .seq (.reg [.s (.box 1 (.t 0)), .s (.mv 2 (.k (.v (.c .ff))))]) (.seq (.reg [.s (.load 3 true 6 (.t 1)), .s (.call (some 4) 96 [(.t 3), (.k (.v (.c (.int .i64 32))))]), .s (.mv 2 (.t 4))]) (.ret))⟩
def c_impl_CanSeal_1 : Fun := ⟨95, [], fun ts K => as1 ts fun t0 => arG pWordT t0 fun w => K (tB (hasP w 32)) []⟩
theorem run_impl_CanSeal_1 (w : Word) : runK [c_impl_has] (0) [] pf_impl_CanSeal_1 [tG (w.tc [])] fun r o => r = tB (hasP w 32) ∧ o = [] := by
  conv => whnf
  repeat' (first
    | exact rfl
    | exact trivial
    | (refine sel_i (fun h => ?_) (fun h => ?_) <;> conv => whnf)
    | (refine chk_c ?_ ?_ <;> conv => whnf)
    | (refine And.intro ?_ ?_ <;> conv => whnf))
theorem ok_impl_CanSeal_1 : FunOk Try.prog c_impl_CanSeal_1 := funOk (E := [c_impl_has]) (envOk_cons ok_impl_has (envOk_nil)) mixd Try.func95 (pf := pf_impl_CanSeal_1) (by kernel_rfl) fun ts K h => by
  obtain ⟨t0, e0, h⟩ := as1_out h
  subst e0
  obtain ⟨w, e1, hq⟩ := arG_out rd_word h
  clear h
  subst e1
  have h := hq
  clear hq
  exact ⟨_, _, h, Nat.le_of_ble_eq_true (show Nat.ble 1 Try.f95.ntmps = true by kernel_rfl), _, run_impl_CanSeal_1 w⟩

def c_slices_IndexFunc_Word__impl_CanSeal_1 : Fun := ⟨159, [], fun ts K => as2 ts fun t0 t1 => arC (pL .word) t0 fun xs => arF0 95 t1 fun g => chk (xs.length ≤ 2147483647) (K (tN (idxOf (fun w => hasP w 32) xs)) [])⟩
theorem run_slices_IndexFunc_Word__impl_CanSeal_1 (xs : List (FT.Ty .word)) (g : Unit) (hpre : xs.length ≤ 2147483647) : runK [c_impl_CanSeal_1] (xs.length + 1) [] pf_slices_IndexFunc_Word [tL false .word xs, .fn 95 []] fun r o => r = tN (idxOf (fun w => hasP w 32) xs) ∧ o = [] := by
  conv => whnf
  refine loop (α := Nat) (fun i => ⟨[(0, .v (.c (.sl false .word 0))), (1, .fn 95 []), (7, .v (.c (.int .i64 (xs.length : Int)))), (8, .v (.c (.int .i64 (i : Int))))], [(0, some (.flat false .word none xs))], nums.tail, [], false, []⟩)
      (fun i => i ≤ xs.length ∧ idxOf (fun w => hasP w 32) xs = idxGo (fun w => hasP w 32) (xs.drop i) i) (fun i => xs.length - i) (fun i R hI hR => ?_) 0 _ ⟨by simp, rfl⟩ (by simp)
  obtain ⟨hi, hx⟩ := hI
  conv => whnf
  refine sel_i (fun h2 => ?_) (fun h2 => ?_)
  · have hlt : i < xs.length := by simp at h2; omega
    conv => whnf
    repeat (refine chk_i (by first | omega | (simp; omega)) ?_; conv => whnf)
    refine sel_i (fun h3 => ?_) (fun h3 => ?_)
    · conv => whnf
      rw [hx, idxGo_yes (z := FT.zero .word) hlt (by first | (simp only [keyEq] at h3; exact h3) | (simpa using h3))]
      exact ⟨rfl, rfl⟩
    · conv => whnf
      rw [wrap_id (n := (i : Int) + 1) (by omega) (by omega)]
      exact hR (i + 1) ⟨by omega, by rw [hx, idxGo_no (z := FT.zero .word) hlt (by first | (simp only [keyEq] at h3; exact h3) | (simpa using h3))]⟩ (by omega)
  · conv => whnf
    rw [hx, idxGo_end (by simp at h2; omega)]
    exact ⟨rfl, rfl⟩
theorem ok_slices_IndexFunc_Word__impl_CanSeal_1 : FunOk Try.prog c_slices_IndexFunc_Word__impl_CanSeal_1 := funOk (E := [c_impl_CanSeal_1]) (envOk_cons ok_impl_CanSeal_1 (envOk_nil)) mixd Try.func159 (pf := pf_slices_IndexFunc_Word) (by kernel_rfl) fun ts K h => by
  obtain ⟨t0, t1, e0, h⟩ := as2_out h
  subst e0
  obtain ⟨xs, e1, hq⟩ := arC_out (rd_l .word) h
  clear h
  subst e1
  have h := hq
  clear hq
  obtain ⟨g, e1, hq⟩ := arF0_out h
  clear h
  subst e1
  have h := hq
  clear hq
  obtain ⟨hpre, h⟩ := chk_o h
  exact ⟨_, _, h, Nat.le_of_ble_eq_true (show Nat.ble 2 Try.f159.ntmps = true by kernel_rfl), _, run_slices_IndexFunc_Word__impl_CanSeal_1 xs g hpre⟩

def c_slices_ContainsFunc_Word__impl_CanSeal_1 : Fun := ⟨86, [], fun ts K => as2 ts fun t0 t1 => arC (pL .word) t0 fun xs => arF0 95 t1 fun g => chk (xs.length ≤ 2147483647) (K (tB (xs.any (fun w => hasP w 32))) [])⟩
theorem run_slices_ContainsFunc_Word__impl_CanSeal_1 (xs : List (FT.Ty .word)) (g : Unit) (hpre : xs.length ≤ 2147483647) : runK [c_slices_IndexFunc_Word__impl_CanSeal_1, c_impl_CanSeal_1] (0) [] pf_slices_ContainsFunc_Word [tL false .word xs, .fn 95 []] fun r o => r = tB (xs.any (fun w => hasP w 32)) ∧ o = [] := by
  conv => whnf
  repeat' (first | (refine sel_i (fun h => ?_) (fun h => ?_) <;> conv => whnf) | (refine chk_c ?_ ?_ <;> conv => whnf) | (refine And.intro ?_ rfl) | (refine And.intro ?_ ?_ <;> conv => whnf))
  all_goals first | (refine ⟨?_⟩; exact hpre) | exact hpre | (rw [← idxOf_any]; rfl) | (rw [← idxOf_any])
theorem ok_slices_ContainsFunc_Word__impl_CanSeal_1 : FunOk Try.prog c_slices_ContainsFunc_Word__impl_CanSeal_1 := funOk (E := [c_slices_IndexFunc_Word__impl_CanSeal_1, c_impl_CanSeal_1]) (envOk_cons ok_slices_IndexFunc_Word__impl_CanSeal_1 (envOk_cons ok_impl_CanSeal_1 (envOk_nil))) mixd Try.func86 (pf := pf_slices_ContainsFunc_Word) (by kernel_rfl) fun ts K h => by
  obtain ⟨t0, t1, e0, h⟩ := as2_out h
  subst e0
  obtain ⟨xs, e1, hq⟩ := arC_out (rd_l .word) h
  clear h
  subst e1
  have h := hq
  clear hq
  obtain ⟨g, e1, hq⟩ := arF0_out h
  clear h
  subst e1
  have h := hq
  clear hq
  obtain ⟨hpre, h⟩ := chk_o h
  exact ⟨_, _, h, Nat.le_of_ble_eq_true (show Nat.ble 2 Try.f86.ntmps = true by kernel_rfl), _, run_slices_ContainsFunc_Word__impl_CanSeal_1 xs g hpre⟩

def pf_impl_CanSeal : PF := ⟨[.t 4], .seq (.reg [.s (.box 2 (.t 0)), .s (.mv 4 (.k (.v (.c .ff))))]) (.seq (.reg [.s (.load 5 true 2 (.t 2)), .s (.mv 6 (.t 1)), .s (.call (some 7) 14 [(.t 5), (.t 6)]), .s (.call (some 8) 86 [(.t 7), (.k (.fn 95 []))]), .s (.mv 4 (.t 8))]) (.ret))⟩
def c_impl_CanSeal : Fun := ⟨25, [], fun ts K => as2 ts fun t0 t1 => arG pMemT t0 fun m => arC (pL .word) t1 fun l => chk (LMem m 2147483647 ∧ l.length ≤ 1048576) (K (tB (canSeal m l)) [])⟩
theorem run_impl_CanSeal (m : Mem) (l : List (FT.Ty .word)) (hpre : LMem m 2147483647 ∧ l.length ≤ 1048576) : runK [c_impl_Closure, c_slices_ContainsFunc_Word__impl_CanSeal_1, c_impl_CanSeal_1] (0) [] pf_impl_CanSeal [tG (m.tc false []), tL false .word l] fun r o => r = tB (canSeal m l) ∧ o = [] := by
  have h1 := closure_len m l
  conv => whnf
  repeat' (first | (refine sel_i (fun h => ?_) (fun h => ?_) <;> conv => whnf) | (refine chk_c ?_ ?_ <;> conv => whnf) | (refine And.intro ?_ rfl) | (refine And.intro ?_ ?_ <;> conv => whnf))
  all_goals first
    | (refine ⟨?_⟩; exact hpre)
    | (refine ⟨?_⟩; simp only [etaMemory]; omega)
    | rfl
    | trace_state
theorem ok_impl_CanSeal : FunOk Try.prog c_impl_CanSeal := funOk (E := [c_impl_Closure, c_slices_ContainsFunc_Word__impl_CanSeal_1, c_impl_CanSeal_1]) (envOk_cons ok_impl_Closure (envOk_cons ok_slices_ContainsFunc_Word__impl_CanSeal_1 (envOk_cons ok_impl_CanSeal_1 (envOk_nil)))) mixd Try.func25 (pf := pf_impl_CanSeal) (by kernel_rfl) fun ts K h => by
  obtain ⟨t0, t1, e0, h⟩ := as2_out h
  subst e0
  obtain ⟨m, e1, hq⟩ := arG_out rd_mem h
  clear h
  subst e1
  have h := hq
  clear hq
  obtain ⟨l, e1, hq⟩ := arC_out (rd_l .word) h
  clear h
  subst e1
  have h := hq
  clear hq
  obtain ⟨hpre, h⟩ := chk_o h
  exact ⟨_, _, h, Nat.le_of_ble_eq_true (show Nat.ble 2 Try.f25.ntmps = true by kernel_rfl), _, run_impl_CanSeal m l hpre⟩

def lb_spec_CanSeal_0 : PC := .seq (.seq (.reg [.s (.mv 10 (.t 6)), .s (.mv 11 (.t 5)), .s (.len 12 false (.t 11)), .s (.bin 13 .lss (.t 10) (.t 12))]) (.cond (.t 13) (.skip) (.exit 0))) (.seq (.blk 1 (.seq (.reg [.s (.mv 16 (.t 5)), .s (.mv 17 (.t 6)), .s (.ia 18 .word (.t 16) (.t 17)), .s (.fa 19 (.t 18) 2), .s (.fa 20 (.t 19) 2), .s (.load 21 false 1 (.t 20)), .s (.bin 22 .and (.t 21) (.k (.v (.c (.int .i64 32))))), .s (.bin 23 .neq (.t 22) (.k (.v (.c (.int .i64 0)))))]) (.cond (.t 23) (.seq (.reg [.s (.mv 4 (.k (.v (.c .tt))))]) (.ret)) (.skip)))) (.reg [.s (.mv 14 (.t 6)), .s (.bin 15 .add (.t 14) (.k (.v (.c (.int .i64 1))))), .s (.mv 6 (.t 15))]))
def pf_spec_CanSeal : PF := ⟨[.t 4], .seq (.reg [.s (.box 2 (.t 0)), .s (.mv 4 (.k (.v (.c .ff))))]) (.seq (.reg [.s (.load 7 true 2 (.t 2)), .s (.mv 8 (.t 1)), .s (.call (some 9) 19 [(.t 7), (.t 8)]), .s (.mv 5 (.t 9))]) (.seq (.seq (.reg [.s (.mv 6 (.k (.v (.c (.int .i64 0)))))]) (.blk 0 (.loop [5, 6] lb_spec_CanSeal_0))) (.seq (.reg [.s (.mv 4 (.k (.v (.c .ff))))]) (.ret))))⟩
def c_spec_CanSeal : Fun := ⟨26, [], fun ts K => as2 ts fun t0 t1 => arG pMemT t0 fun m => arC (pL .word) t1 fun l => chk (LMem m 2147483647 ∧ l.length ≤ 1048576) (K (tB (canSeal m l)) [])⟩
theorem run_spec_CanSeal (m : Mem) (l : List (FT.Ty .word)) (hpre : LMem m 2147483647 ∧ l.length ≤ 1048576) : runK [c_spec_Closure] (l.length + 30) [] pf_spec_CanSeal [tG (m.tc false []), tL false .word l] fun r o => r = tB (canSeal m l) ∧ o = [] := by
  have h1 := closure_len m l
  have h2 := closure_out m l
  conv => whnf
  refine chk_i hpre ?_
  conv => whnf
  simp only [etaMemory]
  refine loop (α := Nat) (fun i => ⟨[(5, .v (.c (.sl false .word 0))), (6, .v (.c (.int .i64 (i : Int))))], [(0, some (.flat true .word none (closure m l)))], nums.tail, [], false, []⟩)
      (fun i => i ≤ (closure m l).length ∧ ((closure m l).drop i).any (fun w => hasP w 32) = canSeal m l) (fun i => (closure m l).length - i) (fun i R hI hR => ?_) 0 _ ⟨by simp, by simp [canSeal]⟩ (by omega)
  obtain ⟨hi, hx⟩ := hI
  conv => whnf
  repeat' (first | (refine sel_i (fun h => ?_) (fun h => ?_) <;> conv => whnf) | (refine chk_c ?_ ?_ <;> conv => whnf) | (refine And.intro ?_ rfl) | (refine And.intro ?_ ?_ <;> conv => whnf))
  all_goals simp only [andI_eq, Int.toNat_natCast, decide_eq_true_eq, decide_eq_false_iff_not] at *
  all_goals first
    | (refine ⟨?_⟩; omega)
    | (rw [show canSeal m l = true from any_yes (z := FT.zero .word) (by omega) (by rw [hasP_is h2 (getD_mem (by omega))]; assumption) hx]; done)
    | (rw [show canSeal m l = false from any_end (by omega) hx]; done)
    | (rw [wrap_id (n := (i : Int) + 1) (by omega) (by omega)]; exact hR (i + 1) ⟨by omega, any_no (z := FT.zero .word) (by omega) (by rw [hasP_is h2 (getD_mem (by omega))]; assumption) hx⟩ (by omega))
    | trace_state
theorem ok_spec_CanSeal : FunOk Try.prog c_spec_CanSeal := funOk (E := [c_spec_Closure]) (envOk_cons ok_spec_Closure (envOk_nil)) mixd Try.func26 (pf := pf_spec_CanSeal) (by kernel_rfl) fun ts K h => by
  obtain ⟨t0, t1, e0, h⟩ := as2_out h
  subst e0
  obtain ⟨m, e1, hq⟩ := arG_out rd_mem h
  clear h
  subst e1
  have h := hq
  clear hq
  obtain ⟨l, e1, hq⟩ := arC_out (rd_l .word) h
  clear h
  subst e1
  have h := hq
  clear hq
  obtain ⟨hpre, h⟩ := chk_o h
  exact ⟨_, _, h, Nat.le_of_ble_eq_true (show Nat.ble 2 Try.f26.ntmps = true by kernel_rfl), _, run_spec_CanSeal m l hpre⟩

def U8s (b : List Int) : Prop := ∀ x ∈ b, 0 ≤ x ∧ x ≤ 255
theorem U8s.at {b : List Int} (h : U8s b) (i : Nat) : 0 ≤ b.getD i 0 ∧ b.getD i 0 ≤ 255 := by
  rw [List.getD_eq_getElem?_getD]
  cases e : b[i]? with
  | none => simp
  | some x => exact h x (List.mem_of_getElem? e)
theorem wordOk_n {w : Word} (h : wordOk w = true) : 0 ≤ w.n ∧ w.n ≤ 65535 := by
  simp only [wordOk, Bool.and_eq_true] at h; simpa [inR] using h.1
theorem U8s.win {b : List Int} (h : U8s b) (o n : Nat) : U8s (win b o n) := fun x hx => h x (List.mem_of_mem_drop (List.mem_of_mem_take hx))


def filt (f : Nat → Bool) (n : Nat) : List Int := ((List.range n).filter f).map (fun c : Nat => (c : Int))
theorem filt_yes {f : Nat → Bool} {n : Nat} (h : f n = true) : filt f (n + 1) = filt f n ++ [(n : Int)] := by simp [filt, List.range_succ, List.filter_append, h]
theorem filt_no {f : Nat → Bool} {n : Nat} (h : f n = false) : filt f (n + 1) = filt f n := by simp [filt, List.range_succ, List.filter_append, h]
theorem filt_len (f : Nat → Bool) (n : Nat) : (filt f n).length ≤ n := by
  have := List.length_filter_le f (List.range n)
  simp [filt] at this ⊢; exact this
def coverP (ws : List Word) (p : Int) (c : Nat) : Bool := ws.any (fun w => hasP w p && inR c w.key.base (w.key.top - 1))
def cellsBy (m : Mem) (l : List Word) (p : Int) : List Int := filt (coverP (closure m l) p) 24
theorem any_take {α : Type} (p : α → Bool) {xs : List α} {i : Nat} (z : α) (h : i < xs.length) : (xs.take (i + 1)).any p = ((xs.take i).any p || p (xs.getD i z)) := by
  have e : xs.getD i z = xs[i] := by simp [List.getD_eq_getElem?_getD, h]
  rw [List.take_add_one, List.getElem?_eq_getElem h, List.any_append, e]; simp
theorem getD_set {α : Type} (xs : List α) (i j : Nat) (v d : α) (h : j < xs.length) : (xs.set i v).getD j d = if i = j then v else xs.getD j d := by
  simp only [List.getD_eq_getElem?_getD, List.getElem?_set]
  by_cases e : i = j
  · subst e; simp [h]
  · simp [e]
theorem rep_getD {α : Type} {n c : Nat} {x d : α} (h : c < n) : (List.replicate n x).getD c d = x := by
  simp only [List.getD_eq_getElem?_getD, List.getElem?_replicate, if_pos h, Option.getD_some]

def lb_spec_l21Cells_0 : PC := .seq (.seq (.reg [.s (.mv 20 (.t 10)), .s (.mv 21 (.t 7)), .s (.len 22 false (.t 21)), .s (.bin 23 .lss (.t 20) (.t 22))]) (.cond (.t 23) (.skip) (.exit 2))) (.seq (.blk 3 (.seq (.reg [.s (.mv 26 (.t 7)), .s (.mv 27 (.t 10)), .s (.ia 28 .word (.t 26) (.t 27)), .s (.fa 29 (.t 28) 2), .s (.load 30 true 4 (.t 29)), .s (.alloc 11 [.int .i64 0, .int .i64 0, .int .i64 0, .int .i64 0]), .s (.store 4 (.t 11) (.t 30))]) (.seq (.reg [.s (.fa 31 (.t 11) 2), .s (.load 32 false 1 (.t 31)), .s (.mv 33 (.t 2)), .s (.bin 34 .and (.t 32) (.t 33)), .s (.bin 35 .neq (.t 34) (.k (.v (.c (.int .i64 0))))), .s (.mv 36 (.t 35)), .g 36 true (some 37) (.mv 37 (.t 9)), .g 36 true (some 38) (.fa 38 (.t 11) 0), .g 36 true (some 39) (.load 39 false 1 (.t 38)), .g 36 true (some 40) (.fa 40 (.t 11) 1), .g 36 true (some 41) (.load 41 false 1 (.t 40)), .g 36 true (some 42) (.bin 42 .sub (.t 41) (.k (.v (.c (.int .i64 1))))), .g 36 true (some 43) (.call (some 43) 149 [(.t 37), (.t 39), (.t 42)]), .s (.pick 44 (.t 36) (.t 43) (.k (.v (.c .ff))))]) (.cond (.t 44) (.seq (.reg [.s (.mv 45 (.t 8)), .s (.mv 46 (.t 9)), .s (.bs 47 (.int .i64) [(.t 46)]), .s (.app 48 (.int .i64) (.t 45) (.t 47)), .s (.mv 8 (.t 48))]) (.exit 2)) (.skip))))) (.reg [.s (.mv 24 (.t 10)), .s (.bin 25 .add (.t 24) (.k (.v (.c (.int .i64 1))))), .s (.mv 10 (.t 25))]))
def lb_spec_l21Cells_1 : PC := .seq (.seq (.reg [.s (.mv 16 (.t 9)), .s (.bin 17 .lss (.t 16) (.k (.v (.c (.int .i64 24)))))]) (.cond (.t 17) (.skip) (.exit 0))) (.seq (.blk 1 (.seq (.reg [.s (.mv 10 (.k (.v (.c (.int .i64 0)))))]) (.blk 2 (.loop [2, 7, 8, 9, 10] lb_spec_l21Cells_0)))) (.reg [.s (.mv 18 (.t 9)), .s (.bin 19 .add (.t 18) (.k (.v (.c (.int .i64 1))))), .s (.mv 9 (.t 19))]))
def pf_spec_l21Cells : PF := ⟨[.t 6], .seq (.reg [.s (.box 3 (.t 0)), .s (.mv 6 (.k (.v (.c (.nils (.int .i64))))))]) (.seq (.reg [.s (.load 12 true 2 (.t 3)), .s (.mv 13 (.t 1)), .s (.call (some 14) 19 [(.t 12), (.t 13)]), .s (.mv 7 (.t 14))]) (.seq (.reg [.s (.bs 15 (.int .i64) []), .s (.mv 8 (.t 15))]) (.seq (.seq (.reg [.s (.mv 9 (.k (.v (.c (.int .i64 0)))))]) (.blk 0 (.loop [2, 7, 8, 9] lb_spec_l21Cells_1))) (.seq (.reg [.s (.mv 49 (.t 8)), .s (.mv 6 (.t 49))]) (.ret)))))⟩
def c_spec_l21Cells : Fun := ⟨94, [], fun ts K => as3 ts fun t0 t1 t2 => arG pMemT t0 fun m => arC (pL .word) t1 fun l => arC (pI .i64) t2 fun p => chk (LMem m 2147483647 ∧ l.length ≤ 1048576) (K (tL true (.int .i64) (cellsBy m l p)) [])⟩
theorem run_spec_l21Cells (m : Mem) (l : List (FT.Ty .word)) (p : Int) (hpre : LMem m 2147483647 ∧ l.length ≤ 1048576) : runK [c_spec_Closure, c_spec_l1In] (l.length + 30) [] pf_spec_l21Cells [tG (m.tc false []), tL false .word l, tI .i64 p] fun r o => r = tL true (.int .i64) (cellsBy m l p) ∧ o = [] := by
  have h1 := closure_len m l
  have h2 := closure_out m l
  conv => whnf
  refine chk_i hpre ?_
  conv => whnf
  simp only [etaMemory]
  unfold cellsBy
  generalize closure m l = ws at *
  refine loop (α := Nat × List Int) (fun q => ⟨[(2, .v (.c (.int .i64 p))), (7, .v (.c (.sl false .word 0))), (8, .v (.c (.sl true (.int .i64) 1))), (9, .v (.c (.int .i64 (q.1 : Int))))],
        [(1, some (.flat true (.int .i64) none q.2)), (0, some (.flat true .word none ws))], nums.tail.tail, [], false, []⟩)
      (fun q => q.1 ≤ 24 ∧ q.2 = filt (coverP ws p) q.1) (fun q => 24 - q.1) (fun q R hI hR => ?_) (0, []) _ ⟨by simp, rfl⟩ (by dsimp only; omega)
  obtain ⟨c, out⟩ := q
  obtain ⟨hc, hx⟩ := hI
  dsimp only at hc hx
  dsimp only
  have hol : out.length ≤ c := by rw [hx]; exact filt_len _ _
  conv => whnf
  refine sel_i (fun h => ?_) (fun h => ?_)
  · have hc2 : c < 24 := by simp at h; omega
    clear h
    conv => whnf
    refine loop (α := Nat) (fun i => ⟨[(2, .v (.c (.int .i64 p))), (7, .v (.c (.sl false .word 0))), (8, .v (.c (.sl true (.int .i64) 1))), (9, .v (.c (.int .i64 (c : Int)))), (10, .v (.c (.int .i64 (i : Int))))],
          [(1, some (.flat true (.int .i64) none out)), (0, some (.flat true .word none ws))], nums.tail.tail, [], false, []⟩)
        (fun i => i ≤ ws.length ∧ (ws.drop i).any (fun w => hasP w p && inR c w.key.base (w.key.top - 1)) = coverP ws p c) (fun i => ws.length - i) (fun i R2 hI2 hR2 => ?_) 0 _ ⟨by simp, by simp [coverP]⟩ (by omega)
    obtain ⟨hi, hy⟩ := hI2
    conv => whnf
    refine sel_i (fun h => ?_) (fun h => ?_)
    · have hlt : i < ws.length := by simpa using h
      clear h
      obtain ⟨b1, b2, b3⟩ := wout_bounds h2 hlt
      have hh := hasP_is h2 (getD_mem hlt) p
      have w1 : IntKind.i64.wrap ((ws.getD i (FT.zero .word)).key.top - 1) = (ws.getD i (FT.zero .word)).key.top - 1 := wrap_id (by omega) (by omega)
      conv => whnf
      repeat' (first | (refine sel_i (fun h => ?_) (fun h => ?_) <;> conv => whnf) | (refine chk_c ?_ ?_ <;> conv => whnf) | (refine And.intro ?_ rfl) | (refine And.intro ?_ ?_ <;> conv => whnf))
      all_goals (try simp only [andI_eq, Int.toNat_natCast, w1] at *)
      all_goals first
        | (refine ⟨?_⟩; omega)
        | (refine ⟨?_⟩; simp; omega)
        | skip
      · rename_i g1
        have e : coverP ws p c = true := any_yes (z := FT.zero .word) hlt (by simp only [hh, g1, h, Bool.and_self]) hy
        rw [wrap_id (n := (c : Int) + 1) (by omega) (by omega)]
        exact hR (c + 1, out ++ [(c : Int)]) ⟨by dsimp only; omega, by rw [filt_yes e, hx]⟩ (by dsimp only; omega)
      · rename_i g1
        rw [wrap_id (n := (i : Int) + 1) (by omega) (by omega)]
        exact hR2 (i + 1) ⟨hlt, any_no (z := FT.zero .word) hlt (by simp only [hh, g1, h, Bool.and_false]) hy⟩ (by omega)
      · rw [wrap_id (n := (i : Int) + 1) (by omega) (by omega)]
        exact hR2 (i + 1) ⟨hlt, any_no (z := FT.zero .word) hlt (by simp only [hh, h, Bool.false_and]) hy⟩ (by omega)
    · have e : coverP ws p c = false := any_end (by simp at h; omega) hy
      conv => whnf
      rw [wrap_id (n := (c : Int) + 1) (by omega) (by omega)]
      exact hR (c + 1, out) ⟨by dsimp only; omega, by rw [filt_no e, hx]⟩ (by dsimp only; omega)
  · have e : c = 24 := by simp at h; omega
    subst e
    conv => whnf
    rw [hx]
    exact ⟨rfl, rfl⟩
theorem ok_spec_l21Cells : FunOk Try.prog c_spec_l21Cells := funOk (E := [c_spec_Closure, c_spec_l1In]) (envOk_cons ok_spec_Closure (envOk_cons ok_spec_l1In (envOk_nil))) mixd Try.func94 (pf := pf_spec_l21Cells) (by kernel_rfl) fun ts K h => by
  obtain ⟨t0, t1, t2, e0, h⟩ := as3_out h
  subst e0
  obtain ⟨m, e1, hq⟩ := arG_out rd_mem h
  clear h
  subst e1
  have h := hq
  clear hq
  obtain ⟨l, e1, hq⟩ := arC_out (rd_l .word) h
  clear h
  subst e1
  have h := hq
  clear hq
  obtain ⟨p, e1, hq⟩ := arC_out (rd_int .i64) h
  clear h
  subst e1
  have h := hq
  clear hq
  obtain ⟨hpre, h⟩ := chk_o h
  exact ⟨_, _, h, Nat.le_of_ble_eq_true (show Nat.ble 3 Try.f94.ntmps = true by kernel_rfl), _, run_spec_l21Cells m l p hpre⟩

def lb_impl_cellsBy_0 : PC := .seq (.seq (.reg [.s (.mv 36 (.t 12)), .s (.mv 37 (.t 11)), .s (.bin 38 .lss (.t 36) (.t 37))]) (.cond (.t 38) (.skip) (.exit 2))) (.seq (.blk 3 (.reg [.s (.mv 41 (.t 7)), .s (.mv 42 (.t 12)), .s (.ia 43 .bool (.t 41) (.t 42)), .s (.store 1 (.t 43) (.k (.v (.c .tt))))])) (.reg [.s (.mv 39 (.t 12)), .s (.bin 40 .add (.t 39) (.k (.v (.c (.int .i64 1))))), .s (.mv 12 (.t 40))]))
def lb_impl_cellsBy_1 : PC := .seq (.reg [.s (.bin 22 .lss (.t 21) (.t 20))]) (.seq (.cond (.t 22) (.skip) (.exit 0)) (.seq (.blk 1 (.seq (.reg [.s (.ia 23 .word (.t 19) (.t 21)), .s (.load 24 true 6 (.t 23)), .s (.alloc 9 [.int .i64 0, .ff, .int .i64 0, .int .i64 0, .int .i64 0, .int .i64 0]), .s (.store 6 (.t 9) (.t 24))]) (.seq (.seq (.reg [.s (.load 25 true 6 (.t 9)), .s (.mv 26 (.t 2)), .s (.call (some 27) 96 [(.t 25), (.t 26)]), .s (.bnot 28 (.t 27))]) (.cond (.t 28) (.exit 1) (.skip))) (.seq (.reg [.s (.fa 30 (.t 9) 2), .s (.load 31 true 4 (.t 30)), .s (.call (some 32) 88 [(.t 31)]), .s (.mv 29 (.t 32)), .s (.ext 33 (.t 29) 0), .s (.ext 34 (.t 29) 1), .s (.mv 10 (.t 33)), .s (.mv 11 (.t 34))]) (.seq (.reg [.s (.mv 35 (.t 10)), .s (.mv 12 (.t 35))]) (.blk 2 (.loop [2, 7, 11, 12, 19, 20, 21] lb_impl_cellsBy_0))))))) (.reg [.s (.bin 44 .add (.t 21) (.k (.v (.c (.int .i64 1))))), .s (.mv 21 (.t 44))])))
def lb_impl_cellsBy_2 : PC := .seq (.reg [.s (.bin 49 .lss (.t 48) (.t 47))]) (.seq (.cond (.t 49) (.skip) (.exit 4)) (.seq (.blk 5 (.seq (.reg [.s (.mv 50 (.t 48)), .s (.ia 51 .bool (.t 46) (.t 48)), .s (.load 52 false 1 (.t 51)), .s (.mv 14 (.t 50)), .s (.mv 15 (.t 52))]) (.seq (.reg [.s (.mv 53 (.t 15))]) (.cond (.t 53) (.reg [.s (.mv 54 (.t 13)), .s (.mv 55 (.t 14)), .s (.bs 56 (.int .i64) [(.t 55)]), .s (.app 57 (.int .i64) (.t 54) (.t 56)), .s (.mv 13 (.t 57))]) (.skip))))) (.reg [.s (.bin 58 .add (.t 48) (.k (.v (.c (.int .i64 1))))), .s (.mv 48 (.t 58))])))
def pf_impl_cellsBy : PF := ⟨[.t 6], .seq (.reg [.s (.box 3 (.t 0)), .s (.mv 6 (.k (.v (.c (.nils (.int .i64))))))]) (.seq (.reg [.s (.mkS 16 .bool (.k (.v (.c (.int .i64 24))))), .s (.mv 7 (.t 16))]) (.seq (.seq (.reg [.s (.load 17 true 2 (.t 3)), .s (.mv 18 (.t 1)), .s (.call (some 19) 14 [(.t 17), (.t 18)]), .s (.len 20 false (.t 19)), .s (.mv 21 (.k (.v (.c (.int .i64 0)))))]) (.blk 0 (.loop [2, 7, 19, 20, 21] lb_impl_cellsBy_1))) (.seq (.reg [.s (.bs 45 (.int .i64) []), .s (.mv 13 (.t 45))]) (.seq (.seq (.reg [.s (.mv 46 (.t 7)), .s (.len 47 false (.t 46)), .s (.mv 48 (.k (.v (.c (.int .i64 0)))))]) (.blk 4 (.loop [13, 46, 47, 48] lb_impl_cellsBy_2))) (.seq (.reg [.s (.mv 59 (.t 13)), .s (.mv 6 (.t 59))]) (.ret))))))⟩
def c_impl_cellsBy : Fun := ⟨93, [], fun ts K => as3 ts fun t0 t1 t2 => arG pMemT t0 fun m => arC (pL .word) t1 fun l => arC (pI .i64) t2 fun p => chk (LMem m 2147483647 ∧ l.length ≤ 1048576) (K (tL true (.int .i64) (cellsBy m l p)) [])⟩
theorem run_impl_cellsBy (m : Mem) (l : List (FT.Ty .word)) (p : Int) (hpre : LMem m 2147483647 ∧ l.length ≤ 1048576) : runK [c_impl_Closure, c_impl_spanned, c_impl_has] (l.length + 30) [] pf_impl_cellsBy [tG (m.tc false []), tL false .word l, tI .i64 p] fun r o => r = tL true (.int .i64) (cellsBy m l p) ∧ o = [] := by
  have h1 := closure_len m l
  have h2 := closure_out m l
  conv => whnf
  refine chk_i (by omega) ?_
  conv => whnf
  refine chk_i hpre ?_
  conv => whnf
  simp only [etaMemory]
  unfold cellsBy
  generalize closure m l = ws at *
  refine loop (α := Nat × List Bool) (fun q => ⟨[(2, .v (.c (.int .i64 p))), (7, .v (.c (.sl true .bool 0))), (19, .v (.c (.sl false .word 1))), (20, .v (.c (.int .i64 (ws.length : Int)))), (21, .v (.c (.int .i64 (q.1 : Int))))],
        [(1, some (.flat true .word none ws)), (0, some (.flat true .bool none q.2))], nums.tail.tail, [], false, []⟩)
      (fun q => q.1 ≤ ws.length ∧ q.2.length = 24 ∧ ∀ c, c < 24 → q.2.getD c false = coverP (ws.take q.1) p c) (fun q => ws.length - q.1) (fun q R hI hR => ?_) (0, List.replicate 24 false) _
      ⟨by simp, by simp, fun c hc => by rw [rep_getD hc]; rfl⟩ (by dsimp only; omega)
  obtain ⟨i, hit⟩ := q
  obtain ⟨hi, hl, hx⟩ := hI
  dsimp only at hi hl hx
  dsimp only
  conv => whnf
  refine sel_i (fun h => ?_) (fun h => ?_)
  · have hlt : i < ws.length := by simpa using h
    clear h
    obtain ⟨b1, b2, b3⟩ := wout_bounds h2 hlt
    have hs : ∀ c : Nat, coverP (ws.take (i + 1)) p c = (coverP (ws.take i) p c || (hasP (ws.getD i (FT.zero .word)) p && inR c (ws.getD i (FT.zero .word)).key.base ((ws.getD i (FT.zero .word)).key.top - 1))) := fun c => any_take _ (FT.zero .word) hlt
    conv => whnf
    repeat' (first | (refine sel_i (fun h => ?_) (fun h => ?_) <;> conv => whnf) | (refine chk_c ?_ ?_ <;> conv => whnf) | (refine And.intro ?_ rfl) | (refine And.intro ?_ ?_ <;> conv => whnf))
    all_goals (try simp only [etaKey, etaWord, Int.toNat_natCast, Bool.not_eq_true', Bool.not_eq_false'] at *)
    all_goals generalize ws.getD i (FT.zero .word) = w at *
    all_goals first
      | (refine ⟨?_⟩; omega)
      | skip
    · rw [wrap_id (n := (i : Int) + 1) (by omega) (by omega)]
      exact hR (i + 1, hit) ⟨hlt, hl, fun c hc => by rw [hs, h, Bool.false_and, Bool.or_false]; exact hx c hc⟩ (by dsimp only; omega)
    refine loop (α := Int × List Bool) (fun q => ⟨[(2, .v (.c (.int .i64 p))), (7, .v (.c (.sl true .bool 0))), (11, .v (.c (.int .i64 (min w.key.top 24)))), (12, .v (.c (.int .i64 q.1))), (19, .v (.c (.sl false .word 1))), (20, .v (.c (.int .i64 (ws.length : Int)))), (21, .v (.c (.int .i64 (i : Int))))],
          [(1, some (.flat true .word none ws)), (0, some (.flat true .bool none q.2))], nums.tail.tail, [], false, []⟩)
        (fun q => (w.key.base ≤ q.1 ∧ q.1 ≤ max w.key.base (min w.key.top 24)) ∧ q.2.length = 24 ∧ ∀ c : Nat, c < 24 → q.2.getD c false = (hit.getD c false || (decide (w.key.base ≤ c) && decide ((c : Int) < q.1)))) (fun q => (min w.key.top 24 - q.1).toNat) (fun q R2 hI2 hR2 => ?_) (w.key.base, hit) _
        ⟨by dsimp only; omega, hl, fun c hc => by
          have : (decide (w.key.base ≤ (c : Int)) && decide ((c : Int) < w.key.base)) = false := by
            by_cases hh : w.key.base ≤ (c : Int) <;> simp [hh] <;> omega
          simp only [this, Bool.or_false]⟩ (by dsimp only; omega)
    obtain ⟨n, hit2⟩ := q
    obtain ⟨gn, gl, gx⟩ := hI2
    dsimp only at gn gl gx
    dsimp only
    conv => whnf
    refine sel_i (fun h3 => ?_) (fun h3 => ?_)
    · have hn : n < min w.key.top 24 := by simpa using h3
      clear h3
      conv => whnf
      repeat' (first | (refine sel_i (fun h => ?_) (fun h => ?_) <;> conv => whnf) | (refine chk_c ?_ ?_ <;> conv => whnf) | (refine And.intro ?_ rfl) | (refine And.intro ?_ ?_ <;> conv => whnf))
      all_goals first
        | (refine ⟨?_⟩; omega)
        | skip
      rw [wrap_id (n := n + 1) (by omega) (by omega)]
      exact hR2 (n + 1, hit2.set n.toNat true) ⟨by dsimp only; omega, by simpa using gl, fun c hc => by
        rw [getD_set _ _ _ _ _ (by omega), gx c hc]
        by_cases e : n.toNat = c
        · rw [if_pos e]
          have e1 : decide (w.key.base ≤ (c : Int)) = true := decide_eq_true (by omega)
          have e2 : decide ((c : Int) < n + 1) = true := decide_eq_true (by omega)
          simp only [e1, e2, Bool.and_self, Bool.or_true]
        · rw [if_neg e]
          have e2 : decide ((c : Int) < n + 1) = decide ((c : Int) < n) := decide_eq_decide.2 (by omega)
          rw [e2]⟩ (by dsimp only; omega)
    · have hn : min w.key.top 24 ≤ n := by simp at h3; omega
      conv => whnf
      rw [wrap_id (n := (i : Int) + 1) (by omega) (by omega)]
      exact hR (i + 1, hit2) ⟨hlt, gl, fun c hc => by
        rw [hs, h, gx c hc, hx c hc, Bool.true_and]
        congr 1
        unfold inR
        by_cases e : w.key.base ≤ (c : Int)
        · rw [decide_eq_true e, Bool.true_and, Bool.true_and]
          exact decide_eq_decide.2 (by omega)
        · rw [decide_eq_false e]; rfl⟩ (by dsimp only; omega)
  · have he : i = ws.length := by simp at h; omega
    clear h hR
    subst he
    rw [List.take_length] at hx
    conv => whnf
    refine loop (α := Nat × List Int) (fun q => ⟨[(13, .v (.c (.sl true (.int .i64) 0))), (46, .v (.c (.sl true .bool 1))), (47, .v (.c (.int .i64 (hit.length : Int)))), (48, .v (.c (.int .i64 (q.1 : Int))))],
          [(1, some (.flat true .bool none hit)), (0, some (.flat true (.int .i64) none q.2))], nums.tail.tail, [], false, []⟩)
        (fun q => q.1 ≤ 24 ∧ q.2 = filt (coverP ws p) q.1) (fun q => 24 - q.1) (fun q R hI hR => ?_) (0, []) _ ⟨by simp, rfl⟩ (by dsimp only; omega)
    obtain ⟨c, out⟩ := q
    obtain ⟨hc, hy⟩ := hI
    dsimp only at hc hy
    dsimp only
    have hol : out.length ≤ c := by rw [hy]; exact filt_len _ _
    conv => whnf
    rw [hl]
    refine sel_i (fun h => ?_) (fun h => ?_)
    · have hc2 : c < 24 := by simp at h; omega
      clear h
      conv => whnf
      repeat' (first | (refine sel_i (fun h => ?_) (fun h => ?_) <;> conv => whnf) | (refine chk_c ?_ ?_ <;> conv => whnf) | (refine And.intro ?_ rfl) | (refine And.intro ?_ ?_ <;> conv => whnf))
      all_goals (try simp only [Int.toNat_natCast] at *)
      all_goals first
        | (refine ⟨?_⟩; omega)
        | (refine ⟨?_⟩; simp; omega)
        | skip
      · rw [wrap_id (n := (c : Int) + 1) (by omega) (by omega)]
        have := hR (c + 1, out ++ [(c : Int)]) ⟨by dsimp only; omega, by rw [filt_yes (by rw [← hx c hc2]; exact h), hy]⟩ (by dsimp only; omega)
        rw [hl] at this
        exact this
      · rw [wrap_id (n := (c : Int) + 1) (by omega) (by omega)]
        have := hR (c + 1, out) ⟨by dsimp only; omega, by rw [filt_no (by rw [← hx c hc2]; exact h), hy]⟩ (by dsimp only; omega)
        rw [hl] at this
        exact this
    · have e : c = 24 := by simp at h; omega
      subst e
      conv => whnf
      rw [hy]
      exact ⟨rfl, rfl⟩
theorem ok_impl_cellsBy : FunOk Try.prog c_impl_cellsBy := funOk (E := [c_impl_Closure, c_impl_spanned, c_impl_has]) (envOk_cons ok_impl_Closure (envOk_cons ok_impl_spanned (envOk_cons ok_impl_has (envOk_nil)))) mixd Try.func93 (pf := pf_impl_cellsBy) (by kernel_rfl) fun ts K h => by
  obtain ⟨t0, t1, t2, e0, h⟩ := as3_out h
  subst e0
  obtain ⟨m, e1, hq⟩ := arG_out rd_mem h
  clear h
  subst e1
  have h := hq
  clear hq
  obtain ⟨l, e1, hq⟩ := arC_out (rd_l .word) h
  clear h
  subst e1
  have h := hq
  clear hq
  obtain ⟨p, e1, hq⟩ := arC_out (rd_int .i64) h
  clear h
  subst e1
  have h := hq
  clear hq
  obtain ⟨hpre, h⟩ := chk_o h
  exact ⟨_, _, h, Nat.le_of_ble_eq_true (show Nat.ble 3 Try.f93.ntmps = true by kernel_rfl), _, run_impl_cellsBy m l p hpre⟩

def pf_spec_LoadCells : PF := ⟨[.t 4], .seq (.reg [.s (.box 2 (.t 0)), .s (.mv 4 (.k (.v (.c (.nils (.int .i64))))))]) (.seq (.reg [.s (.load 5 true 2 (.t 2)), .s (.mv 6 (.t 1)), .s (.call (some 7) 94 [(.t 5), (.t 6), (.k (.v (.c (.int .i64 1))))]), .s (.mv 4 (.t 7))]) (.ret))⟩
def c_spec_LoadCells : Fun := ⟨22, [], fun ts K => as2 ts fun t0 t1 => arG pMemT t0 fun m => arC (pL .word) t1 fun l => chk (LMem m 2147483647 ∧ l.length ≤ 1048576) (K (tL true (.int .i64) (cellsBy m l 1)) [])⟩
theorem run_spec_LoadCells (m : Mem) (l : List (FT.Ty .word)) (hpre : LMem m 2147483647 ∧ l.length ≤ 1048576) : runK [c_spec_l21Cells] (0) [] pf_spec_LoadCells [tG (m.tc false []), tL false .word l] fun r o => r = tL true (.int .i64) (cellsBy m l 1) ∧ o = [] := by
  conv => whnf
  repeat' (first | (refine sel_i (fun h => ?_) (fun h => ?_) <;> conv => whnf) | (refine chk_c ?_ ?_ <;> conv => whnf) | (refine And.intro ?_ rfl) | (refine And.intro ?_ ?_ <;> conv => whnf))
  all_goals first | rfl | (refine ⟨?_⟩; exact hpre)
theorem ok_spec_LoadCells : FunOk Try.prog c_spec_LoadCells := funOk (E := [c_spec_l21Cells]) (envOk_cons ok_spec_l21Cells (envOk_nil)) mixd Try.func22 (pf := pf_spec_LoadCells) (by kernel_rfl) fun ts K h => by
  obtain ⟨t0, t1, e0, h⟩ := as2_out h
  subst e0
  obtain ⟨m, e1, hq⟩ := arG_out rd_mem h
  clear h
  subst e1
  have h := hq
  clear hq
  obtain ⟨l, e1, hq⟩ := arC_out (rd_l .word) h
  clear h
  subst e1
  have h := hq
  clear hq
  obtain ⟨hpre, h⟩ := chk_o h
  exact ⟨_, _, h, Nat.le_of_ble_eq_true (show Nat.ble 2 Try.f22.ntmps = true by kernel_rfl), _, run_spec_LoadCells m l hpre⟩

def pf_impl_LoadCells : PF := ⟨[.t 4], .seq (.reg [.s (.box 2 (.t 0)), .s (.mv 4 (.k (.v (.c (.nils (.int .i64))))))]) (.seq (.reg [.s (.load 5 true 2 (.t 2)), .s (.mv 6 (.t 1)), .s (.call (some 7) 93 [(.t 5), (.t 6), (.k (.v (.c (.int .i64 1))))]), .s (.mv 4 (.t 7))]) (.ret))⟩
def c_impl_LoadCells : Fun := ⟨21, [], fun ts K => as2 ts fun t0 t1 => arG pMemT t0 fun m => arC (pL .word) t1 fun l => chk (LMem m 2147483647 ∧ l.length ≤ 1048576) (K (tL true (.int .i64) (cellsBy m l 1)) [])⟩
theorem run_impl_LoadCells (m : Mem) (l : List (FT.Ty .word)) (hpre : LMem m 2147483647 ∧ l.length ≤ 1048576) : runK [c_impl_cellsBy] (0) [] pf_impl_LoadCells [tG (m.tc false []), tL false .word l] fun r o => r = tL true (.int .i64) (cellsBy m l 1) ∧ o = [] := by
  conv => whnf
  repeat' (first | (refine sel_i (fun h => ?_) (fun h => ?_) <;> conv => whnf) | (refine chk_c ?_ ?_ <;> conv => whnf) | (refine And.intro ?_ rfl) | (refine And.intro ?_ ?_ <;> conv => whnf))
  all_goals first | rfl | (refine ⟨?_⟩; exact hpre)
theorem ok_impl_LoadCells : FunOk Try.prog c_impl_LoadCells := funOk (E := [c_impl_cellsBy]) (envOk_cons ok_impl_cellsBy (envOk_nil)) mixd Try.func21 (pf := pf_impl_LoadCells) (by kernel_rfl) fun ts K h => by
  obtain ⟨t0, t1, e0, h⟩ := as2_out h
  subst e0
  obtain ⟨m, e1, hq⟩ := arG_out rd_mem h
  clear h
  subst e1
  have h := hq
  clear hq
  obtain ⟨l, e1, hq⟩ := arC_out (rd_l .word) h
  clear h
  subst e1
  have h := hq
  clear hq
  obtain ⟨hpre, h⟩ := chk_o h
  exact ⟨_, _, h, Nat.le_of_ble_eq_true (show Nat.ble 2 Try.f21.ntmps = true by kernel_rfl), _, run_impl_LoadCells m l hpre⟩

def pf_spec_StoreCells : PF := ⟨[.t 4], .seq (.reg [.s (.box 2 (.t 0)), .s (.mv 4 (.k (.v (.c (.nils (.int .i64))))))]) (.seq (.reg [.s (.load 5 true 2 (.t 2)), .s (.mv 6 (.t 1)), .s (.call (some 7) 94 [(.t 5), (.t 6), (.k (.v (.c (.int .i64 2))))]), .s (.mv 4 (.t 7))]) (.ret))⟩
def c_spec_StoreCells : Fun := ⟨24, [], fun ts K => as2 ts fun t0 t1 => arG pMemT t0 fun m => arC (pL .word) t1 fun l => chk (LMem m 2147483647 ∧ l.length ≤ 1048576) (K (tL true (.int .i64) (cellsBy m l 2)) [])⟩
theorem run_spec_StoreCells (m : Mem) (l : List (FT.Ty .word)) (hpre : LMem m 2147483647 ∧ l.length ≤ 1048576) : runK [c_spec_l21Cells] (0) [] pf_spec_StoreCells [tG (m.tc false []), tL false .word l] fun r o => r = tL true (.int .i64) (cellsBy m l 2) ∧ o = [] := by
  conv => whnf
  repeat' (first | (refine sel_i (fun h => ?_) (fun h => ?_) <;> conv => whnf) | (refine chk_c ?_ ?_ <;> conv => whnf) | (refine And.intro ?_ rfl) | (refine And.intro ?_ ?_ <;> conv => whnf))
  all_goals first | rfl | (refine ⟨?_⟩; exact hpre)
theorem ok_spec_StoreCells : FunOk Try.prog c_spec_StoreCells := funOk (E := [c_spec_l21Cells]) (envOk_cons ok_spec_l21Cells (envOk_nil)) mixd Try.func24 (pf := pf_spec_StoreCells) (by kernel_rfl) fun ts K h => by
  obtain ⟨t0, t1, e0, h⟩ := as2_out h
  subst e0
  obtain ⟨m, e1, hq⟩ := arG_out rd_mem h
  clear h
  subst e1
  have h := hq
  clear hq
  obtain ⟨l, e1, hq⟩ := arC_out (rd_l .word) h
  clear h
  subst e1
  have h := hq
  clear hq
  obtain ⟨hpre, h⟩ := chk_o h
  exact ⟨_, _, h, Nat.le_of_ble_eq_true (show Nat.ble 2 Try.f24.ntmps = true by kernel_rfl), _, run_spec_StoreCells m l hpre⟩

def pf_impl_StoreCells : PF := ⟨[.t 4], .seq (.reg [.s (.box 2 (.t 0)), .s (.mv 4 (.k (.v (.c (.nils (.int .i64))))))]) (.seq (.reg [.s (.load 5 true 2 (.t 2)), .s (.mv 6 (.t 1)), .s (.call (some 7) 93 [(.t 5), (.t 6), (.k (.v (.c (.int .i64 2))))]), .s (.mv 4 (.t 7))]) (.ret))⟩
def c_impl_StoreCells : Fun := ⟨23, [], fun ts K => as2 ts fun t0 t1 => arG pMemT t0 fun m => arC (pL .word) t1 fun l => chk (LMem m 2147483647 ∧ l.length ≤ 1048576) (K (tL true (.int .i64) (cellsBy m l 2)) [])⟩
theorem run_impl_StoreCells (m : Mem) (l : List (FT.Ty .word)) (hpre : LMem m 2147483647 ∧ l.length ≤ 1048576) : runK [c_impl_cellsBy] (0) [] pf_impl_StoreCells [tG (m.tc false []), tL false .word l] fun r o => r = tL true (.int .i64) (cellsBy m l 2) ∧ o = [] := by
  conv => whnf
  repeat' (first | (refine sel_i (fun h => ?_) (fun h => ?_) <;> conv => whnf) | (refine chk_c ?_ ?_ <;> conv => whnf) | (refine And.intro ?_ rfl) | (refine And.intro ?_ ?_ <;> conv => whnf))
  all_goals first | rfl | (refine ⟨?_⟩; exact hpre)
theorem ok_impl_StoreCells : FunOk Try.prog c_impl_StoreCells := funOk (E := [c_impl_cellsBy]) (envOk_cons ok_impl_cellsBy (envOk_nil)) mixd Try.func23 (pf := pf_impl_StoreCells) (by kernel_rfl) fun ts K h => by
  obtain ⟨t0, t1, e0, h⟩ := as2_out h
  subst e0
  obtain ⟨m, e1, hq⟩ := arG_out rd_mem h
  clear h
  subst e1
  have h := hq
  clear hq
  obtain ⟨l, e1, hq⟩ := arC_out (rd_l .word) h
  clear h
  subst e1
  have h := hq
  clear hq
  obtain ⟨hpre, h⟩ := chk_o h
  exact ⟨_, _, h, Nat.le_of_ble_eq_true (show Nat.ble 2 Try.f23.ntmps = true by kernel_rfl), _, run_impl_StoreCells m l hpre⟩

def heldW (s : Side) : List Word := s.regs ++ [s.pc]
def meetI (a b : List Int) : Bool := a.any (fun n => b.any (fun x => n == x))
def crossesB (m : Mem) (a b : List Word) : Bool := meetI (cellsBy m a 2) (cellsBy m b 1 ++ cellsBy m b 2)
def apartB (t : Two) : Bool := twoOk t && !canSeal t.mem (heldW t.a) && !canSeal t.mem (heldW t.b) && (!crossesB t.mem (heldW t.a) (heldW t.b) && !crossesB t.mem (heldW t.b) (heldW t.a))
theorem cellsBy_le (m : Mem) (l : List Word) (p : Int) : (cellsBy m l p).length ≤ 24 := filt_len _ _

def LHeap (h : Heap) (n : Nat) : Prop := LMem h.mem n ∧ h.live.length ≤ n ∧ h.waits.length ≤ n
theorem LHeap.mono {t : Heap} {n m : Nat} (h : LHeap t n) (k : n ≤ m) : LHeap t m := ⟨⟨Nat.le_trans h.1.1 k, Nat.le_trans h.1.2 k⟩, Nat.le_trans h.2.1 k, Nat.le_trans h.2.2 k⟩
theorem inR_t {n lo hi : Int} : inR n lo hi = true ↔ lo ≤ n ∧ n ≤ hi := by simp [inR]


def plainW (n : Int) : Word := ⟨andI n 65535, false, ⟨0, 0, 0, 0⟩⟩
def gonB (g : List Bool) (w : Word) : Bool := w.is && inR w.key.base 0 (g.length - 1) && g.getD w.key.base.toNat false
def filterW (g : List Bool) (w : Word) : Word := if gonB g w then plainW w.n else w

def pf_spec_Plain : PF := ⟨[.c 2 true 6], .seq (.reg [.s (.alloc 2 [.int .i64 0, .ff, .int .i64 0, .int .i64 0, .int .i64 0, .int .i64 0])]) (.seq (.reg [.s (.mv 3 (.t 0)), .s (.bin 4 .and (.t 3) (.k (.v (.c (.int .i64 65535))))), .s (.build 5 [.int .i64 0, .ff, .int .i64 0, .int .i64 0, .int .i64 0, .int .i64 0] [(0, 1, (.t 4))]), .s (.store 6 (.t 2) (.t 5))]) (.ret))⟩
def c_spec_Plain : Fun := ⟨164, [], fun ts K => as1 ts fun t0 => arC (pI .i64) t0 fun n => K (tG ((plainW n).tc [])) []⟩
theorem run_spec_Plain (n : Int) : runK [] (0) [] pf_spec_Plain [tI .i64 n] fun r o => r = tG ((plainW n).tc []) ∧ o = [] := by
  conv => whnf
  repeat' (first
    | exact rfl
    | exact trivial
    | (refine sel_i (fun h => ?_) (fun h => ?_) <;> conv => whnf)
    | (refine chk_c ?_ ?_ <;> conv => whnf)
    | (refine And.intro ?_ ?_ <;> conv => whnf))
theorem ok_spec_Plain : FunOk Try.prog c_spec_Plain := funOk (E := []) (envOk_nil) mixd Try.func164 (pf := pf_spec_Plain) (by kernel_rfl) fun ts K h => by
  obtain ⟨t0, e0, h⟩ := as1_out h
  subst e0
  obtain ⟨n, e1, hq⟩ := arC_out (rd_int .i64) h
  clear h
  subst e1
  have h := hq
  clear hq
  exact ⟨_, _, h, Nat.le_of_ble_eq_true (show Nat.ble 1 Try.f164.ntmps = true by kernel_rfl), _, run_spec_Plain n⟩


theorem andI_mask {q p : Int} (h : 0 ≤ p ∧ p ≤ 63) : (andI q p = p) ↔ (IntKind.i64.wrap (BitVec.ofInt IntKind.i64.bits p &&& ~~~ BitVec.ofInt IntKind.i64.bits q).toNat = 0) := by
  obtain ⟨m, rfl⟩ := Int.eq_ofNat_of_zero_le h.1
  have hy : (BitVec.ofInt IntKind.i64.bits (m : Int)).toNat = m := by
    rw [BitVec.ofInt_natCast, BitVec.toNat_ofNat]; exact Nat.mod_eq_of_lt (by show m < 2 ^ 64; omega)
  unfold andI
  generalize BitVec.ofInt IntKind.i64.bits (m : Int) = y at *
  generalize BitVec.ofInt IntKind.i64.bits q = x at *
  have h1 : (x &&& y).toNat ≤ y.toNat := by rw [BitVec.toNat_and]; exact Nat.and_le_right
  have h2 : (y &&& ~~~ x).toNat ≤ y.toNat := by rw [BitVec.toNat_and]; exact Nat.and_le_left
  have h3 : y.toNat ≤ 63 := by omega
  rw [wrap_id (by omega) (by omega), wrap_id (by omega) (by omega)]
  have e1 : (((x &&& y).toNat : Nat) : Int) = (m : Int) ↔ x &&& y = y := by
    rw [← hy, ← BitVec.toNat_inj]; omega
  have e2 : (((y &&& ~~~ x).toNat : Nat) : Int) = 0 ↔ y &&& ~~~ x = 0#_ := by
    rw [← BitVec.toNat_inj]; simp
  rw [e1, e2]
  constructor
  · intro h
    rw [← h]
    apply BitVec.eq_of_getLsbD_eq
    intro i hi
    simp only [BitVec.getLsbD_and, BitVec.getLsbD_not, BitVec.getLsbD_zero]
    cases x.getLsbD i <;> cases y.getLsbD i <;> simp
  · intro h
    apply BitVec.eq_of_getLsbD_eq
    intro i hi
    have := congrArg (fun v => v.getLsbD i) h
    simp only [BitVec.getLsbD_and, BitVec.getLsbD_not, BitVec.getLsbD_zero, hi, decide_true, Bool.true_and] at this ⊢
    cases hx : x.getLsbD i <;> cases hyy : y.getLsbD i <;> simp_all
def tryW (w : Word) (n p : Int) : Int := if w.is = false ∨ wordOk w = false then 1 else if w.key.sealed ≠ 0 then 2 else if andI w.key.perms p ≠ p then 3 else if n < w.key.base ∨ w.key.top ≤ n then 4 else 0
def takenW (y w : Word) : Word := if andI y.key.perms 8 = 0 then plainW w.n else w
def mayPut (y w : Word) : Bool := !w.is || andI y.key.perms 16 != 0
def openW (w : Word) : Bool := wordOk w && w.is && w.key.sealed == 0
def weakenW (w : Word) (m : Int) : Word := if openW w then { w with key := { w.key with perms := andI w.key.perms (andI m 63) } } else plainW w.n
def narrowW (w : Word) (n : Int) : Word :=
  if openW w && inR n 0 4096 && boundsOk w.n (IntKind.i64.wrap (w.n + n)) then
    (if (wide w.n (IntKind.i64.wrap (w.n + n))).1 < w.key.base ∨ w.key.top < (wide w.n (IntKind.i64.wrap (w.n + n))).2 then plainW w.n else { w with key := { w.key with base := (wide w.n (IntKind.i64.wrap (w.n + n))).1, top := (wide w.n (IntKind.i64.wrap (w.n + n))).2 } })
  else plainW w.n
def pointW (w : Word) (n : Int) : Word := if openW w then ⟨andI n 65535, true, w.key⟩ else plainW n
def sealsB (y : Word) : Bool := openW y && (andI y.key.perms 32 != 0) && decide (y.key.base ≤ y.n) && decide (y.n < y.key.top) && inR y.n 1 7
def sealBy (w y : Word) : Word := if openW w && sealsB y then { w with key := { w.key with sealed := y.n } } else plainW w.n
def openBy (w y : Word) : Word := if wordOk w && w.is && sealsB y && w.key.sealed == y.n then { w with key := { w.key with sealed := 0 } } else plainW w.n


def formS (op : Int) : ByteArray :=
  if op = 1 then ⟨#[82, 78]⟩ else if op = 2 ∨ op = 4 ∨ op = 5 ∨ op = 7 ∨ op = 8 then ⟨#[82, 65, 66]⟩ else if op = 3 ∨ op = 9 ∨ op = 12 then ⟨#[82, 65]⟩ else if op = 6 then ⟨#[82, 65, 66, 78]⟩ else
  if op = 10 then ⟨#[82, 65, 78]⟩ else if op = 11 then ⟨#[65, 66, 78]⟩ else if op = 13 then ⟨#[65, 78]⟩ else if op = 14 then ⟨#[65]⟩ else ⟨#[]⟩
def maskI (op : Int) : Int := if inR op 1 15 then ([0, 9, 7, 3, 7, 7, 15, 7, 7, 3, 11, 14, 3, 10, 2, 0] : List Int).getD op.toNat 0 else 0
def hasC (op c : Int) : Bool := (bytesI (formS op)).any (fun b => c == b)
def fld (v : Int) (b : Bool) : Bool := inR v 0 7 && (b || v == 0)
def insOk (x : Inst) : Bool := inR x.op 1 15 && fld x.r (andI (maskI x.op) 1 != 0) && fld x.a (andI (maskI x.op) 2 != 0) && fld x.b (andI (maskI x.op) 4 != 0) && inR x.n (-128) 127 && (andI (maskI x.op) 8 != 0 || x.n == 0)

abbrev zW : Word := ⟨0, false, ⟨0, 0, 0, 0⟩⟩
abbrev zI : Inst := ⟨0, 0, 0, 0, 0⟩
def readC (m : Mem) (y : Word) (n : Int) : Int := if tryW y n 1 ≠ 0 then tryW y n 1 else if inR n 0 (m.words.length - 1) then 0 else 4
def readM (m : Mem) (y : Word) (n : Int) : Word × Int := if readC m y n ≠ 0 then (zW, readC m y n) else (filterW m.gone (takenW y (m.words.getD n.toNat (FT.zero .word))), 0)
def writeC (m : Mem) (y : Word) (n : Int) (w : Word) : Int := if tryW y n 2 ≠ 0 then tryW y n 2 else if inR n 0 (m.words.length - 1) = false then 4 else if mayPut y w = false then 3 else 0
def fetchI (l : List Inst) (pc : Word) : Inst × Int := if tryW pc pc.n 4 ≠ 0 then (zI, tryW pc pc.n 4) else if inR pc.n 0 (l.length - 1) = false ∨ insOk (l.getD pc.n.toNat (FT.zero .inst)) = false then (zI, 4) else (l.getD pc.n.toNat (FT.zero .inst), 0)
def trapE (c : Int) (pc : Word) : Eff := ⟨c, -1, zW, pc, -1, zW, -1⟩
def madeW (x : Inst) (a b got : Word) : Word :=
  if x.op = 1 then plainW x.n else if x.op = 2 then plainW (IntKind.i64.wrap (a.n + b.n)) else if x.op = 3 then a else if x.op = 4 then weakenW a b.n else if x.op = 5 then narrowW a b.n else
  if x.op = 6 then pointW a (IntKind.i64.wrap (IntKind.i64.wrap (a.n + b.n) + x.n)) else if x.op = 7 then sealBy a b else if x.op = 8 then openBy a b else if x.op = 9 then (if a.is then plainW 1 else plainW 0) else got
def nextW (pc : Word) : Word := pointW pc (IntKind.i64.wrap (pc.n + 1))
def workE (x : Inst) (pc a b got : Word) : Eff :=
  if x.op = 11 then ⟨0, -1, zW, nextW pc, IntKind.i64.wrap (a.n + x.n), b, -1⟩ else
  if x.op = 12 then (if tryW a a.n 4 ≠ 0 then trapE (tryW a a.n 4) pc else ⟨0, x.r, nextW pc, a, -1, zW, -1⟩) else
  if x.op = 13 then ⟨0, -1, zW, if a.n = 0 then pointW pc (IntKind.i64.wrap (pc.n + x.n)) else nextW pc, -1, zW, -1⟩ else
  if x.op = 14 then (if tryW a a.n 32 ≠ 0 then trapE (tryW a a.n 32) pc else ⟨0, -1, zW, nextW pc, -1, zW, a.key.base⟩) else
  if x.op = 15 then trapE 5 pc else
  if hasC x.op 82 then ⟨0, x.r, if 0 ≤ x.r then madeW x a b got else zW, nextW pc, -1, zW, -1⟩ else ⟨0, -1, zW, nextW pc, -1, zW, -1⟩



def memE (m : Mem) (x : Inst) (a b : Word) : Word × Int :=
  if x.op = 10 then readM m a (IntKind.i64.wrap (a.n + x.n)) else if x.op = 11 then (zW, writeC m a (IntKind.i64.wrap (a.n + x.n)) b) else (zW, 0)
def effE (l : List Inst) (s : State) : Eff :=
  let x := (fetchI l s.pc).1
  let a := s.regs.getD x.a.toNat (FT.zero .word)
  let b := s.regs.getD x.b.toNat (FT.zero .word)
  if (fetchI l s.pc).2 ≠ 0 then trapE (fetchI l s.pc).2 s.pc else
  if (memE s.mem x a b).2 ≠ 0 then trapE (memE s.mem x a b).2 s.pc else workE x s.pc a b (memE s.mem x a b).1
def putE (s : State) (e : Eff) : State :=
  ⟨if inR e.r 0 7 then s.regs.set e.r.toNat e.val else s.regs, e.next,
   ⟨if inR e.addr 0 23 then s.mem.words.set e.addr.toNat e.put else s.mem.words, if inR e.drop 0 23 then s.mem.gone.set e.drop.toNat true else s.mem.gone⟩, s.trap⟩
abbrev zState : State := ⟨[], zW, ⟨[], []⟩, 0⟩
def stepS (l : List Inst) (s : State) : State :=
  if stateOk s = false then zState else if s.trap ≠ 0 then s else if (effE l s).trap ≠ 0 then ⟨s.regs, s.pc, s.mem, (effE l s).trap⟩ else putE s (effE l s)
def LenOk (s : State) : Prop := s.regs.length = 8 ∧ s.mem.words.length = 24 ∧ s.mem.gone.length = 24
theorem LenOk.l {s : State} (h : LenOk s) : LState s 2147483647 := by
  obtain ⟨h1, h2, h3⟩ := h; exact ⟨by omega, by omega, by omega⟩
theorem fetchI_ok {l : List Inst} {pc : Word} (h : (fetchI l pc).2 = 0) : insOk (fetchI l pc).1 = true := by
  unfold fetchI at h ⊢
  split at h
  · contradiction
  · rename_i h1
    rw [if_neg h1]
    split at h
    · cases h
    · rename_i h2
      rw [if_neg h2]
      cases e : insOk (l.getD pc.n.toNat (FT.zero .inst)) with
      | true => rfl
      | false => exact absurd (.inr e) h2
theorem memE_10 {m : Mem} {x : Inst} {a b : Word} (h : x.op = 10) : memE m x a b = readM m a (IntKind.i64.wrap (a.n + x.n)) := if_pos h
theorem memE_11 {m : Mem} {x : Inst} {a b : Word} (h0 : ¬ x.op = 10) (h : x.op = 11) : memE m x a b = (zW, writeC m a (IntKind.i64.wrap (a.n + x.n)) b) := by unfold memE; rw [if_neg h0, if_pos h]
theorem memE_x {m : Mem} {x : Inst} {a b : Word} (h0 : ¬ x.op = 10) (h : ¬ x.op = 11) : memE m x a b = (zW, 0) := by unfold memE; rw [if_neg h0, if_neg h]

theorem stepS_trap {l : List Inst} {s : State} (h : stateOk s = true) (h2 : ¬ s.trap = 0) : stepS l s = s := by
  unfold stepS; rw [if_neg (by rw [h]; decide), if_pos h2]
theorem stepS_e {l : List Inst} {s : State} (h : stateOk s = true) (h2 : s.trap = 0) (h3 : ¬ (effE l s).trap = 0) : stepS l s = ⟨s.regs, s.pc, s.mem, (effE l s).trap⟩ := by
  unfold stepS; rw [if_neg (by rw [h]; decide), if_neg (by simpa using h2), if_pos h3]
theorem stepS_0 {l : List Inst} {s : State} (h : stateOk s = true) (h2 : s.trap = 0) (h3 : (effE l s).trap = 0) : stepS l s = putE s (effE l s) := by
  unfold stepS; rw [if_neg (by rw [h]; decide), if_neg (by simpa using h2), if_neg (by simpa using h3)]

theorem LState.mono {t : State} {n m : Nat} (h : LState t n) (k : n ≤ m) : LState t m := ⟨Nat.le_trans h.1 k, Nat.le_trans h.2.1 k, Nat.le_trans h.2.2 k⟩










/-! words that are right, and what they are under -/
theorem wrap_bv (n : Int) : BitVec.ofInt IntKind.i64.bits (IntKind.i64.wrap n) = BitVec.ofInt IntKind.i64.bits n := by
  apply BitVec.eq_of_toNat_eq
  simp only [BitVec.toNat_ofInt, IntKind.wrap_i64]
  show (_ % (18446744073709551616 : Int)).toNat = (n % (18446744073709551616 : Int)).toNat
  omega
theorem andI_bv (a b : Int) : BitVec.ofInt IntKind.i64.bits (andI a b) = BitVec.ofInt IntKind.i64.bits a &&& BitVec.ofInt IntKind.i64.bits b := by
  unfold andI
  rw [wrap_bv, BitVec.ofInt_natCast, BitVec.ofNat_toNat, BitVec.setWidth_eq]
theorem andI_comm (a b : Int) : andI a b = andI b a := by unfold andI; rw [BitVec.and_comm]
theorem andI_assoc (a b c : Int) : andI (andI a b) c = andI a (andI b c) := by
  have h1 : andI (andI a b) c = IntKind.i64.wrap ((BitVec.ofInt IntKind.i64.bits a &&& BitVec.ofInt IntKind.i64.bits b) &&& BitVec.ofInt IntKind.i64.bits c).toNat := by rw [← andI_bv]; rfl
  have h2 : andI a (andI b c) = IntKind.i64.wrap (BitVec.ofInt IntKind.i64.bits a &&& (BitVec.ofInt IntKind.i64.bits b &&& BitVec.ofInt IntKind.i64.bits c)).toNat := by rw [← andI_bv]; rfl
  rw [h1, h2, BitVec.and_assoc]
theorem andI_zero (a : Int) : andI a 0 = 0 := by
  unfold andI
  rw [show BitVec.ofInt IntKind.i64.bits 0 = 0#_ from rfl, BitVec.and_zero]; rfl
theorem andI_nat {m n : Nat} (h : n < 9223372036854775808) : andI (m : Int) (n : Int) = ((m % 18446744073709551616 &&& n : Nat) : Int) := by
  unfold andI
  rw [BitVec.ofInt_natCast, BitVec.ofInt_natCast, BitVec.toNat_and, BitVec.toNat_ofNat, BitVec.toNat_ofNat]
  show IntKind.i64.wrap ((m % 18446744073709551616 &&& n % 18446744073709551616 : Nat) : Int) = _
  rw [Nat.mod_eq_of_lt (a := n) (by omega)]
  have : m % 18446744073709551616 &&& n ≤ n := Nat.and_le_right
  exact wrap_id (by omega) (by omega)
theorem andI_le (a : Int) {p : Int} (h : 0 ≤ p) (h2 : p < 9223372036854775808) : 0 ≤ andI a p ∧ andI a p ≤ p := by
  obtain ⟨n, rfl⟩ := Int.eq_ofNat_of_zero_le h
  unfold andI
  have h1 : (BitVec.ofInt IntKind.i64.bits a &&& BitVec.ofInt IntKind.i64.bits (n : Int)).toNat ≤ n := by
    rw [BitVec.toNat_and, BitVec.ofInt_natCast, BitVec.toNat_ofNat]
    refine Nat.le_trans Nat.and_le_right (Nat.mod_le _ _)
  rw [wrap_id (by omega) (by omega)]; omega
theorem andI_le' {p : Int} (a : Int) (h : 0 ≤ p) (h2 : p < 9223372036854775808) : 0 ≤ andI p a ∧ andI p a ≤ p := by rw [andI_comm]; exact andI_le a h h2
theorem andI_same (a b : Int) : andI a (andI a b) = andI a b := by
  rw [← andI_assoc]
  have h1 : andI (andI a a) b = IntKind.i64.wrap ((BitVec.ofInt IntKind.i64.bits a &&& BitVec.ofInt IntKind.i64.bits a) &&& BitVec.ofInt IntKind.i64.bits b).toNat := by rw [← andI_bv]; rfl
  rw [h1, BitVec.and_self]; rfl
theorem andI_self {a : Int} (h : 0 ≤ a) (h2 : a < 9223372036854775808) : andI a a = a := by
  obtain ⟨n, rfl⟩ := Int.eq_ofNat_of_zero_le h
  rw [andI_nat (by omega), Nat.mod_eq_of_lt (by omega), Nat.and_self]
theorem andI_bit {a b p : Int} (h : andI a b = b) (hp : ¬ andI b p = 0) : ¬ andI a p = 0 := fun h0 => hp (by
  rw [← h, andI_comm a b, andI_assoc, h0, andI_zero])

/-! ### bounds -/
theorem packGo_some {b t : Int} {p : Packed} : ∀ {n e0 : Nat}, packGo b t n e0 = some p → ∃ e : Nat, e0 ≤ e ∧ e < e0 + n ∧ p = ⟨e, packB b e, packL b t e⟩ ∧ packOk b t e = true
  | 0, e0, h => by cases h
  | n + 1, e0, h => by
    unfold packGo at h
    split at h
    · rename_i h1; cases h; exact ⟨e0, by omega, by omega, rfl, h1⟩
    · obtain ⟨e, h1, h2, h3, h4⟩ := packGo_some h; exact ⟨e, by omega, by omega, h3, h4⟩
theorem packGo_find {b t : Int} {e : Nat} (hp : packOk b t e = true) : ∀ {n e0 : Nat}, e0 ≤ e → e < e0 + n → ∃ f : Nat, e0 ≤ f ∧ f ≤ e ∧ packGo b t n e0 = some ⟨f, packB b f, packL b t f⟩ ∧ packOk b t f = true
  | 0, e0, h1, h2 => by omega
  | n + 1, e0, h1, h2 => by
    by_cases h : packOk b t e0 = true
    · exact ⟨e0, by omega, h1, packGo_t h, h⟩
    · have hne : e0 ≠ e := fun q => h (q ▸ hp)
      obtain ⟨f, g1, g2, g3, g4⟩ := packGo_find hp (n := n) (e0 := e0 + 1) (by omega) (by omega)
      exact ⟨f, by omega, g2, by rw [packGo_f (by simpa using h)]; exact g3, g4⟩
theorem packOk_n {b t : Int} {e : Nat} (h : packOk b t e = true) : packB b e ≤ 63 ∧ packL b t e ≤ 63 := by simpa [packOk] using h
theorem wide_e {b t : Int} (h : boundsOk b t = true) {e : Nat} (he : e ≤ 6) (hp : pack b t = some ⟨e, packB b e, packL b t e⟩) (ho : packOk b t e = true) :
    wide b t = (packB b e * 2 ^ e, min 4096 ((packB b e + packL b t e) * 2 ^ e)) := by
  obtain ⟨h0, h1, h2⟩ := bounds_n h
  obtain ⟨o1, o2⟩ := packOk_n ho
  have hu : unpackOk ⟨e, packB b e, packL b t e⟩ = true := by
    simp only [unpackOk, Bool.and_eq_true, inR_t]
    unfold packB packL at *
    rcases e_cases he with rfl | rfl | rfl | rfl | rfl | rfl | rfl <;> simp only [Int.reducePow, Int.pow_zero] at * <;> omega
  unfold wide
  rw [if_pos h, hp]
  simp only [Option.isSome_some, if_true, Option.getD_some]
  rw [unpack_yes hu]
  simp only [Int.toNat_natCast]
theorem wide_cases {b t : Int} (h : boundsOk b t = true) : wide b t = (0, 4096) ∨ ∃ e : Nat, e ≤ 6 ∧ packOk b t e = true ∧ wide b t = (packB b e * 2 ^ e, min 4096 ((packB b e + packL b t e) * 2 ^ e)) := by
  cases hp : pack b t with
  | none => left; unfold wide; rw [if_pos h, hp]; rfl
  | some p =>
    have hp2 := hp
    rw [pack_yes h] at hp2
    obtain ⟨e, h1, h2, rfl, h4⟩ := packGo_some hp2
    exact .inr ⟨e, by omega, h4, wide_e h (by omega) hp h4⟩
theorem wide_parts {e : Nat} (he : e ≤ 6) {lo hi B L : Int} (hB : 0 ≤ B ∧ B ≤ 63) (hL : 0 ≤ L ∧ L ≤ 63) (h1 : lo = B * 2 ^ e) (h2 : hi = min 4096 ((B + L) * 2 ^ e)) : boundsOk lo hi = true ∧ wide lo hi = (lo, hi) := by
  have hb : boundsOk lo hi = true := by
    simp only [boundsOk, Bool.and_eq_true, decide_eq_true_eq]
    rcases e_cases he with rfl | rfl | rfl | rfl | rfl | rfl | rfl <;> simp only [Int.reducePow, Int.pow_zero] at * <;> omega
  refine ⟨hb, ?_⟩
  have ho : packOk lo hi e = true := by
    simp only [packOk, Bool.and_eq_true, decide_eq_true_eq]
    unfold packB packL
    rcases e_cases he with rfl | rfl | rfl | rfl | rfl | rfl | rfl <;> simp only [Int.reducePow, Int.pow_zero] at * <;> omega
  obtain ⟨f, f1, f2, f3, f4⟩ := packGo_find ho (n := 7) (e0 := 0) (by omega) (by omega)
  rw [wide_e hb (e := f) (by omega) (by rw [pack_yes hb]; exact f3) f4]
  unfold packB packL
  rcases e_cases he with rfl | rfl | rfl | rfl | rfl | rfl | rfl <;> rcases e_cases (e := f) (by omega) with rfl | rfl | rfl | rfl | rfl | rfl | rfl <;>
    first
      | (exfalso; omega)
      | (simp only [Int.reducePow, Int.pow_zero, Prod.mk.injEq] at *; omega)
theorem wide_ok {b t : Int} (h : boundsOk b t = true) : 0 ≤ (wide b t).1 ∧ (wide b t).1 ≤ b ∧ t ≤ (wide b t).2 ∧ (wide b t).2 ≤ 4096 ∧ exact_ (wide b t).1 (wide b t).2 = true := by
  obtain ⟨h0, h1, h2⟩ := bounds_n h
  rcases wide_cases h with e | ⟨e, he, ho, hw⟩
  · rw [e]; exact ⟨by decide, by omega, by omega, by decide, by decide +kernel⟩
  · obtain ⟨o1, o2⟩ := packOk_n ho
    have hB : 0 ≤ packB b e ∧ packB b e ≤ 63 := ⟨by
      unfold packB
      rcases e_cases he with rfl | rfl | rfl | rfl | rfl | rfl | rfl <;> simp only [Int.reducePow, Int.pow_zero] <;> omega, o1⟩
    have hL : 0 ≤ packL b t e ∧ packL b t e ≤ 63 := ⟨by
      unfold packL
      rcases e_cases he with rfl | rfl | rfl | rfl | rfl | rfl | rfl <;> simp only [Int.reducePow, Int.pow_zero] <;> omega, o2⟩
    obtain ⟨g1, g2⟩ := wide_parts he hB hL rfl rfl
    rw [hw]
    refine ⟨?_, ?_, ?_, by dsimp only; omega, by simp only [exact_, g1, g2, decide_true, Bool.and_self]⟩
    all_goals
      dsimp only
      unfold packB packL at *
      rcases e_cases he with rfl | rfl | rfl | rfl | rfl | rfl | rfl <;> simp only [Int.reducePow, Int.pow_zero] at * <;> omega
/-! ### keys and words -/
theorem keyOk_n {k : Key} (h : keyOk k = true) : 0 ≤ k.base ∧ k.base ≤ k.top ∧ k.top ≤ 4096 ∧ 0 ≤ k.perms ∧ k.perms ≤ 63 ∧ 0 ≤ k.sealed ∧ k.sealed ≤ 7 := by
  simp only [keyOk, Bool.and_eq_true, exact_, inR_t] at h
  have := bounds_n h.1.1.1.1
  omega
theorem keyOk_mk {k : Key} (h : exact_ k.base k.top = true) (h1 : 0 ≤ k.perms ∧ k.perms ≤ 63) (h2 : 0 ≤ k.sealed ∧ k.sealed ≤ 7) : keyOk k = true := by
  simp only [keyOk, Bool.and_eq_true, inR_t]; exact ⟨⟨h, h1⟩, h2⟩
theorem keyOk_exact {k : Key} (h : keyOk k = true) : exact_ k.base k.top = true := by simp only [keyOk, Bool.and_eq_true] at h; exact h.1.1
theorem wordOk_is {w : Word} (h : wordOk w = true) (h2 : w.is = true) : keyOk w.key = true := by
  simp only [wordOk, h2, if_true, Bool.and_eq_true] at h; exact h.2
theorem wordOk_mk {n : Int} {k : Key} (h : 0 ≤ n ∧ n ≤ 65535) (h2 : keyOk k = true) : wordOk ⟨n, true, k⟩ = true := by
  simp only [wordOk, if_true, Bool.and_eq_true, inR_t]; exact ⟨h, h2⟩
theorem and65 (n : Int) : 0 ≤ andI n 65535 ∧ andI n 65535 ≤ 65535 := andI_le n (by decide) (by decide)
theorem plainW_ok (n : Int) : wordOk (plainW n) = true := by
  simp only [wordOk, plainW, Bool.and_eq_true, inR_t, Bool.false_eq_true, if_false, decide_true, and_true]
  exact and65 n
def coversK (a b : Key) : Bool := keyOk a && keyOk b && decide (a.base ≤ b.base) && decide (b.top ≤ a.top) && decide (andI a.perms b.perms = b.perms)
theorem coversK_iff {a b : Key} : coversK a b = true ↔ keyOk a = true ∧ keyOk b = true ∧ a.base ≤ b.base ∧ b.top ≤ a.top ∧ andI a.perms b.perms = b.perms := by
  simp only [coversK, Bool.and_eq_true, decide_eq_true_eq, and_assoc]
theorem coversK_refl {a : Key} (h : keyOk a = true) : coversK a a = true :=
  coversK_iff.2 ⟨h, h, Int.le_refl _, Int.le_refl _, andI_self (by have := keyOk_n h; omega) (by have := keyOk_n h; omega)⟩
theorem coversK_trans {a b c : Key} (h : coversK a b = true) (k : coversK b c = true) : coversK a c = true := by
  obtain ⟨h1, h2, h3, h4, h5⟩ := coversK_iff.1 h
  obtain ⟨k1, k2, k3, k4, k5⟩ := coversK_iff.1 k
  exact coversK_iff.2 ⟨h1, k2, by omega, by omega, by rw [← k5, ← andI_assoc, h5]⟩
def undersW (w : Word) (l : List Word) : Bool := !w.is || l.any (fun x => x.is && coversK x.key w.key)
theorem undersW_iff {w : Word} {l : List Word} : undersW w l = true ↔ (w.is = true → ∃ c ∈ l, c.is = true ∧ coversK c.key w.key = true) := by
  simp only [undersW, Bool.or_eq_true, Bool.not_eq_true', List.any_eq_true, Bool.and_eq_true]
  cases w.is <;> simp
def Und (C : List Word) (w : Word) : Prop := w.is = true → ∃ c ∈ C, c.is = true ∧ coversK c.key w.key = true
theorem und_bare (C : List Word) (n : Int) : Und C (plainW n) := fun h => by cases h
theorem und_zero (C : List Word) : Und C zW := fun h => by cases h
theorem und_of {C : List Word} {w v : Word} (h : Und C w) (hw : w.is = true) (hk : coversK w.key v.key = true) : Und C v := fun _ => by
  obtain ⟨c, h1, h2, h3⟩ := h hw
  exact ⟨c, h1, h2, coversK_trans h3 hk⟩
theorem openW_iff {w : Word} : openW w = true ↔ wordOk w = true ∧ w.is = true ∧ w.key.sealed = 0 := by
  simp only [openW, Bool.and_eq_true, beq_iff_eq, and_assoc]
theorem sealsB_n {y : Word} (h : sealsB y = true) : openW y = true ∧ ¬ andI y.key.perms 32 = 0 ∧ 1 ≤ y.n ∧ y.n ≤ 7 := by
  simp only [sealsB, Bool.and_eq_true, bne_iff_ne, inR_t] at h
  exact ⟨h.1.1.1.1, h.1.1.1.2, h.2.1, h.2.2⟩
def Fine (w v : Word) : Prop := wordOk v = true ∧ (v.is = true → w.is = true ∧ coversK w.key v.key = true)
theorem fine_bare (w : Word) (n : Int) : Fine w (plainW n) := ⟨plainW_ok n, fun h => by cases h⟩
theorem fine_self {w : Word} (h : wordOk w = true) : Fine w w := ⟨h, fun hi => ⟨hi, coversK_refl (wordOk_is h hi)⟩⟩
theorem Fine.und {C : List Word} {w v : Word} (h : Fine w v) (hu : Und C w) : Und C v := fun hi => by
  obtain ⟨h1, h2⟩ := h.2 hi
  exact und_of hu h1 h2 hi
theorem weakenW_fine (w : Word) (m : Int) : Fine w (weakenW w m) := by
  unfold weakenW
  split
  · rename_i h
    obtain ⟨h1, h2, h3⟩ := openW_iff.1 h
    have hk := wordOk_is h1 h2
    have hn := keyOk_n hk
    have hp := andI_le' (andI m 63) (p := w.key.perms) (by omega) (by omega)
    have hk' : keyOk { w.key with perms := andI w.key.perms (andI m 63) } = true := keyOk_mk (k := ⟨w.key.base, w.key.top, andI w.key.perms (andI m 63), w.key.sealed⟩) (keyOk_exact (k := w.key) hk) ⟨hp.1, by dsimp only; omega⟩ (by dsimp only; omega)
    refine ⟨?_, fun _ => ⟨h2, coversK_iff.2 ⟨hk, hk', Int.le_refl _, Int.le_refl _, andI_same _ _⟩⟩⟩
    have hw := wordOk_n h1
    simp only [wordOk, h2, if_true, Bool.and_eq_true, inR_t]
    exact ⟨hw, hk'⟩
  · exact fine_bare w _
theorem narrowW_fine (w : Word) (n : Int) : Fine w (narrowW w n) := by
  unfold narrowW
  split
  · rename_i h
    simp only [Bool.and_eq_true] at h
    obtain ⟨⟨h, _⟩, hb⟩ := h
    obtain ⟨h1, h2, h3⟩ := openW_iff.1 h
    have hk := wordOk_is h1 h2
    have hn := keyOk_n hk
    split
    · exact fine_bare w _
    · rename_i hr
      obtain ⟨w1, w2, w3, w4, w5⟩ := wide_ok hb
      have hk' : keyOk { w.key with base := (wide w.n (IntKind.i64.wrap (w.n + n))).1, top := (wide w.n (IntKind.i64.wrap (w.n + n))).2 } = true := keyOk_mk w5 (by dsimp only; omega) (by dsimp only; omega)
      refine ⟨?_, fun _ => ⟨h2, coversK_iff.2 ⟨hk, hk', by dsimp only; omega, by dsimp only; omega, andI_self (by omega) (by omega)⟩⟩⟩
      have hw := wordOk_n h1
      simp only [wordOk, h2, if_true, Bool.and_eq_true, inR_t]
      exact ⟨hw, hk'⟩
  · exact fine_bare w _
theorem pointW_fine (w : Word) (n : Int) : Fine w (pointW w n) := by
  unfold pointW
  split
  · rename_i h
    obtain ⟨h1, h2, h3⟩ := openW_iff.1 h
    exact ⟨wordOk_mk (and65 n) (wordOk_is h1 h2), fun _ => ⟨h2, coversK_refl (wordOk_is h1 h2)⟩⟩
  · exact fine_bare w _
theorem seal_fine {w : Word} (h1 : wordOk w = true) (h2 : w.is = true) {s : Int} (hs : 0 ≤ s ∧ s ≤ 7) : Fine w { w with key := { w.key with sealed := s } } := by
  have hk := wordOk_is h1 h2
  have hn := keyOk_n hk
  have hk' : keyOk { w.key with sealed := s } = true := keyOk_mk (k := ⟨w.key.base, w.key.top, w.key.perms, s⟩) (keyOk_exact (k := w.key) hk) (by dsimp only; omega) hs
  refine ⟨?_, fun _ => ⟨h2, coversK_iff.2 ⟨hk, hk', Int.le_refl _, Int.le_refl _, andI_self (by omega) (by omega)⟩⟩⟩
  have hw := wordOk_n h1
  simp only [wordOk, h2, if_true, Bool.and_eq_true, inR_t]
  exact ⟨hw, hk'⟩
theorem sealBy_fine (w y : Word) : Fine w (sealBy w y) := by
  unfold sealBy
  split
  · rename_i h
    simp only [Bool.and_eq_true] at h
    obtain ⟨h1, h2, h3⟩ := openW_iff.1 h.1
    exact seal_fine h1 h2 (by have := sealsB_n h.2; omega)
  · exact fine_bare w _
theorem openBy_fine (w y : Word) : Fine w (openBy w y) := by
  unfold openBy
  split
  · rename_i h
    simp only [Bool.and_eq_true] at h
    exact seal_fine h.1.1.1 h.1.1.2 (by decide)
  · exact fine_bare w _
theorem takenW_fine {y w : Word} (h : wordOk w = true) : Fine w (takenW y w) := by
  unfold takenW
  split
  · exact fine_bare w _
  · exact fine_self h
theorem filterW_fine {g : List Bool} {w : Word} (h : wordOk w = true) : Fine w (filterW g w) := by
  unfold filterW
  split
  · exact fine_bare w _
  · exact fine_self h
theorem zW_ok : wordOk zW = true := by decide
theorem tryW_0 {w : Word} {n p : Int} (h : tryW w n p = 0) : wordOk w = true ∧ w.is = true ∧ w.key.sealed = 0 ∧ andI w.key.perms p = p ∧ w.key.base ≤ n ∧ n < w.key.top := by
  unfold tryW at h
  split at h
  · cases h
  · rename_i h1
    split at h
    · cases h
    · rename_i h2
      split at h
      · cases h
      · rename_i h3
        split at h
        · cases h
        · rename_i h4
          exact ⟨by cases e : wordOk w with | true => rfl | false => exact absurd (.inr e) h1, by cases e : w.is with | true => rfl | false => exact absurd (.inl e) h1, by omega, by omega, by omega, by omega⟩
theorem tryW_in (w : Word) (n p : Int) : 0 ≤ tryW w n p ∧ tryW w n p ≤ 4 := by
  unfold tryW
  repeat' split
  all_goals omega
theorem getD_ok {ws : List Word} (h : ∀ w ∈ ws, wordOk w = true) (i : Nat) : wordOk (ws.getD i (FT.zero .word)) = true := by
  rw [List.getD_eq_getElem?_getD]
  cases e : ws[i]? with
  | none => exact zW_ok
  | some w => exact h w (List.mem_of_getElem? e)
theorem getD_und {C ws : List Word} (h : ∀ w ∈ ws, Und C w) (i : Nat) : Und C (ws.getD i (FT.zero .word)) := by
  rw [List.getD_eq_getElem?_getD]
  cases e : ws[i]? with
  | none => exact und_zero C
  | some w => exact h w (List.mem_of_getElem? e)

/-! states that are right stay so -/
theorem memoryOk_iff {m : Mem} : memoryOk m = true ↔ m.words.length = 24 ∧ m.gone.length = 24 ∧ ∀ w ∈ m.words, wordOk w = true := by
  simp only [memoryOk, Bool.and_eq_true, decide_eq_true_eq, List.all_eq_true, and_assoc]
theorem stateOk_iff {s : State} : stateOk s = true ↔ s.regs.length = 8 ∧ (∀ w ∈ s.regs, wordOk w = true) ∧ wordOk s.pc = true ∧ memoryOk s.mem = true ∧ 0 ≤ s.trap ∧ s.trap ≤ 5 := by
  simp only [stateOk, Bool.and_eq_true, decide_eq_true_eq, List.all_eq_true, inR_t, and_assoc]
theorem fine_zero (w : Word) : Fine w zW := ⟨zW_ok, fun h => by cases h⟩
def Made (pc a b got v : Word) : Prop := Fine pc v ∨ Fine a v ∨ Fine b v ∨ Fine got v
theorem Made.ok {pc a b got v : Word} (h : Made pc a b got v) : wordOk v = true := by rcases h with h | h | h | h <;> exact h.1
theorem Made.und {C : List Word} {pc a b got v : Word} (h : Made pc a b got v) (h1 : Und C pc) (h2 : Und C a) (h3 : Und C b) (h4 : Und C got) : Und C v := by
  rcases h with h | h | h | h
  · exact h.und h1
  · exact h.und h2
  · exact h.und h3
  · exact h.und h4
theorem madeW_made {x : Inst} {pc a b got : Word} (ha : wordOk a = true) (hg : wordOk got = true) : Made pc a b got (madeW x a b got) := by
  unfold madeW
  repeat' split
  · exact .inr (.inl (fine_bare _ _))
  · exact .inr (.inl (fine_bare _ _))
  · exact .inr (.inl (fine_self ha))
  · exact .inr (.inl (weakenW_fine _ _))
  · exact .inr (.inl (narrowW_fine _ _))
  · exact .inr (.inl (pointW_fine _ _))
  · exact .inr (.inl (sealBy_fine _ _))
  · exact .inr (.inl (openBy_fine _ _))
  · exact .inr (.inl (fine_bare _ _))
  · exact .inr (.inl (fine_bare _ _))
  · exact .inr (.inr (.inr (fine_self hg)))
theorem nextW_made {pc a b got : Word} : Made pc a b got (nextW pc) := .inl (pointW_fine _ _)
theorem made_zero {pc a b got : Word} : Made pc a b got zW := .inl (fine_zero _)
structure WorkSpec (x : Inst) (pc a b got : Word) (e : Eff) : Prop where
  val : Made pc a b got e.val
  next : Made pc a b got e.next
  put : Made pc a b got e.put
  addr : e.addr ≠ -1 → x.op = 11 ∧ e.addr = IntKind.i64.wrap (a.n + x.n) ∧ e.put = b
  drop : e.drop ≠ -1 → tryW a a.n 32 = 0 ∧ e.drop = a.key.base
theorem workE_spec {x : Inst} {pc a b got : Word} (ha : wordOk a = true) (hb : wordOk b = true) (hg : wordOk got = true) :
    (0 ≤ (workE x pc a b got).trap ∧ (workE x pc a b got).trap ≤ 5) ∧ ((workE x pc a b got).trap = 0 → WorkSpec x pc a b got (workE x pc a b got)) := by
  unfold workE
  split
  · rename_i h
    exact ⟨(show (0 : Int) ≤ 0 ∧ (0 : Int) ≤ 5 by decide), fun _ => ⟨made_zero, nextW_made, .inr (.inr (.inl (fine_self hb))), fun _ => ⟨h, rfl, rfl⟩, fun h => absurd rfl h⟩⟩
  split
  · split
    · have := tryW_in a a.n 4
      rename_i h2
      exact ⟨by show 0 ≤ tryW a a.n 4 ∧ tryW a a.n 4 ≤ 5; omega, fun h => absurd h h2⟩
    · exact ⟨(show (0 : Int) ≤ 0 ∧ (0 : Int) ≤ 5 by decide), fun _ => ⟨nextW_made, .inr (.inl (fine_self ha)), made_zero, fun h => absurd rfl h, fun h => absurd rfl h⟩⟩
  split
  · refine ⟨(show (0 : Int) ≤ 0 ∧ (0 : Int) ≤ 5 by decide), fun _ => ⟨made_zero, ?_, made_zero, fun h => absurd rfl h, fun h => absurd rfl h⟩⟩
    dsimp only
    split
    · exact .inl (pointW_fine _ _)
    · exact nextW_made
  split
  · split
    · have := tryW_in a a.n 32
      rename_i h2
      exact ⟨by show 0 ≤ tryW a a.n 32 ∧ tryW a a.n 32 ≤ 5; omega, fun h => absurd h h2⟩
    · rename_i h2
      exact ⟨(show (0 : Int) ≤ 0 ∧ (0 : Int) ≤ 5 by decide), fun _ => ⟨made_zero, nextW_made, made_zero, fun h => absurd rfl h, fun _ => ⟨by simpa using h2, rfl⟩⟩⟩
  split
  · exact ⟨(show (0 : Int) ≤ 5 ∧ (5 : Int) ≤ 5 by decide), fun h => by cases h⟩
  split
  · refine ⟨(show (0 : Int) ≤ 0 ∧ (0 : Int) ≤ 5 by decide), fun _ => ⟨?_, nextW_made, made_zero, fun h => absurd rfl h, fun h => absurd rfl h⟩⟩
    dsimp only
    split
    · exact madeW_made ha hg
    · exact made_zero
  · exact ⟨(show (0 : Int) ≤ 0 ∧ (0 : Int) ≤ 5 by decide), fun _ => ⟨made_zero, nextW_made, made_zero, fun h => absurd rfl h, fun h => absurd rfl h⟩⟩
theorem readC_00 {m : Mem} {y : Word} {n : Int} (h : readC m y n = 0) : tryW y n 1 = 0 ∧ 0 ≤ n ∧ n ≤ m.words.length - 1 := by
  unfold readC at h
  split at h
  · rename_i h1; exact absurd h h1
  · rename_i h1
    split at h
    · rename_i h2; exact ⟨by omega, by have := inR_t.1 h2; omega⟩
    · cases h
theorem writeC_00 {m : Mem} {y w : Word} {n : Int} (h : writeC m y n w = 0) : tryW y n 2 = 0 ∧ 0 ≤ n ∧ n ≤ m.words.length - 1 := by
  unfold writeC at h
  split at h
  · rename_i h1; exact absurd h h1
  · rename_i h1
    split at h
    · cases h
    · rename_i h2
      have h2 : inR n 0 (m.words.length - 1) = true := by simpa using h2
      exact ⟨by omega, by have := inR_t.1 h2; omega⟩
theorem readM_00 {m : Mem} {y : Word} {n : Int} (h : (readM m y n).2 = 0) : tryW y n 1 = 0 ∧ 0 ≤ n ∧ n ≤ m.words.length - 1 ∧ (readM m y n).1 = filterW m.gone (takenW y (m.words.getD n.toNat (FT.zero .word))) := by
  unfold readM at h ⊢
  split at h
  · rename_i h1; exact absurd h h1
  · rename_i h1
    rw [if_neg h1]
    have := readC_00 (m := m) (y := y) (n := n) (by omega)
    exact ⟨this.1, this.2.1, this.2.2, rfl⟩
theorem readM_ok {m : Mem} (hm : ∀ w ∈ m.words, wordOk w = true) (y : Word) (n : Int) : wordOk (readM m y n).1 = true := by
  unfold readM
  split
  · exact zW_ok
  · exact (filterW_fine (takenW_fine (getD_ok hm _)).1).1
theorem memE_ok {m : Mem} (hm : ∀ w ∈ m.words, wordOk w = true) (x : Inst) (a b : Word) : wordOk (memE m x a b).1 = true := by
  unfold memE
  repeat' split
  · exact readM_ok hm _ _
  · exact zW_ok
  · exact zW_ok
structure EffSpec (l : List Inst) (s : State) (x : Inst) (a b got : Word) : Prop where
  fetch : fetchI l s.pc = (x, 0)
  hx : insOk x = true
  ha : a = s.regs.getD x.a.toNat (FT.zero .word)
  hb : b = s.regs.getD x.b.toNat (FT.zero .word)
  mem : memE s.mem x a b = (got, 0)
  eff : effE l s = workE x s.pc a b got
theorem effE_parts {l : List Inst} {s : State} (h : (effE l s).trap = 0) : ∃ x a b got, EffSpec l s x a b got := by
  by_cases h1 : (fetchI l s.pc).2 = 0
  · by_cases h2 : (memE s.mem (fetchI l s.pc).1 (s.regs.getD (fetchI l s.pc).1.a.toNat (FT.zero .word)) (s.regs.getD (fetchI l s.pc).1.b.toNat (FT.zero .word))).2 = 0
    · refine ⟨(fetchI l s.pc).1, _, _, (memE s.mem (fetchI l s.pc).1 (s.regs.getD (fetchI l s.pc).1.a.toNat (FT.zero .word)) (s.regs.getD (fetchI l s.pc).1.b.toNat (FT.zero .word))).1, ?_, fetchI_ok h1, rfl, rfl, ?_, ?_⟩
      · rw [← h1]
      · rw [← h2]
      · unfold effE; simp only; rw [if_neg (by simpa using h1), if_neg (by simpa using h2)]
    · unfold effE at h; simp only at h; rw [if_neg (by simpa using h1), if_pos h2] at h; exact absurd h h2
  · unfold effE at h; simp only at h; rw [if_pos h1] at h; exact absurd h h1
theorem EffSpec.work {l : List Inst} {s : State} {x : Inst} {a b got : Word} (h : EffSpec l s x a b got) (hs : stateOk s = true) (h0 : (effE l s).trap = 0) : WorkSpec x s.pc a b got (effE l s) := by
  obtain ⟨h1, h2, h3, h4, h5, h6⟩ := stateOk_iff.1 hs
  obtain ⟨m1, m2, m3⟩ := memoryOk_iff.1 h4
  have hg := memE_ok m3 x a b
  rw [h.mem] at hg
  rw [h.eff] at h0 ⊢
  exact (workE_spec (by rw [h.ha]; exact getD_ok h2 _) (by rw [h.hb]; exact getD_ok h2 _) hg).2 h0
theorem EffSpec.store {l : List Inst} {s : State} {x : Inst} {a b got : Word} (h : EffSpec l s x a b got) (hs : stateOk s = true) (h0 : (effE l s).trap = 0) (ha : (effE l s).addr ≠ -1) :
    tryW a (effE l s).addr 2 = 0 ∧ 0 ≤ (effE l s).addr ∧ (effE l s).addr ≤ 23 ∧ (effE l s).put = b := by
  obtain ⟨w1, w2, w3⟩ := (h.work hs h0).addr ha
  have hm := h.mem
  rw [memE_11 (by omega) w1] at hm
  have := writeC_00 (congrArg Prod.snd hm)
  obtain ⟨h1, h2, h3, h4, h5, h6⟩ := stateOk_iff.1 hs
  obtain ⟨m1, m2, m3⟩ := memoryOk_iff.1 h4
  rw [← w2] at this
  exact ⟨this.1, this.2.1, by omega, w3⟩
theorem EffSpec.load {l : List Inst} {s : State} {x : Inst} {a b got : Word} (h : EffSpec l s x a b got) : got = zW ∨ ∃ n : Int, tryW a n 1 = 0 ∧ 0 ≤ n ∧ n ≤ s.mem.words.length - 1 ∧ got = filterW s.mem.gone (takenW a (s.mem.words.getD n.toNat (FT.zero .word))) := by
  have hm := h.mem
  by_cases h1 : x.op = 10
  · rw [memE_10 h1] at hm
    obtain ⟨r1, r2, r3, r4⟩ := readM_00 (congrArg Prod.snd hm)
    right
    refine ⟨_, r1, r2, r3, ?_⟩
    rw [← r4, hm]
  · left
    by_cases h2 : x.op = 11
    · rw [memE_11 h1 h2] at hm; exact (congrArg Prod.fst hm).symm
    · rw [memE_x h1 h2] at hm; exact (congrArg Prod.fst hm).symm
theorem mem_set {α : Type} {xs : List α} {i : Nat} {v x : α} (h : x ∈ xs.set i v) : x ∈ xs ∨ x = v := List.mem_or_eq_of_mem_set h
theorem stepS_cases {l : List Inst} {s : State} (hs : stateOk s = true) :
    (s.trap ≠ 0 ∧ stepS l s = s) ∨ (s.trap = 0 ∧ (effE l s).trap ≠ 0 ∧ stepS l s = ⟨s.regs, s.pc, s.mem, (effE l s).trap⟩) ∨ (s.trap = 0 ∧ (effE l s).trap = 0 ∧ stepS l s = putE s (effE l s)) := by
  by_cases h : s.trap = 0
  · by_cases h2 : (effE l s).trap = 0
    · exact .inr (.inr ⟨h, h2, stepS_0 hs h h2⟩)
    · exact .inr (.inl ⟨h, h2, stepS_e hs h h2⟩)
  · exact .inl ⟨h, stepS_trap hs h⟩

/-! a closure: it has its roots, what its words open, and no more -/
theorem hasKey_iff {l : List Word} {k : Key} : hasKey l k = true ↔ ∃ x ∈ l, x.key = k := by
  simp only [hasKey, List.any_eq_true, decide_eq_true_eq]
theorem hasKey_mono {a b : List Word} {k : Key} (h : ∀ x ∈ a, x ∈ b) (hk : hasKey a k = true) : hasKey b k = true := by
  obtain ⟨x, h1, h2⟩ := hasKey_iff.1 hk
  exact hasKey_iff.2 ⟨x, h x h1, h2⟩
theorem putW_pre (out : List Word) (w : Word) : out <+: putW out w := by
  unfold putW; split
  · exact List.prefix_append _ _
  · exact List.prefix_rfl
theorem putW_has' {out : List Word} {w : Word} (h1 : w.is = true) (h2 : wordOk w = true) : hasKey (putW out w) w.key = true := by
  by_cases h : hasKey out w.key = true
  · rw [putW_has h]; exact h
  · rw [putW_yes h2 h1 (by simpa using h)]; exact hasKey_iff.2 ⟨w, by simp, rfl⟩
theorem putW_min {P : Word → Prop} {out : List Word} {w : Word} (h : ∀ x ∈ out, P x) (hw : w.is = true → wordOk w = true → P w) : ∀ x ∈ putW out w, P x := by
  intro x hx
  unfold putW at hx
  split at hx
  · rename_i hc
    simp only [Bool.and_eq_true] at hc
    rcases List.mem_append.1 hx with q | q
    · exact h x q
    · rw [List.mem_singleton.1 q]; exact hw hc.1.1 hc.1.2
  · exact h x hx
theorem foldPut_pre : ∀ (l out : List Word), out <+: l.foldl putW out
  | [], out => List.prefix_rfl
  | w :: l, out => (putW_pre out w).trans (foldPut_pre l _)
theorem foldPut_has : ∀ {l out : List Word} {w : Word}, w ∈ l → w.is = true → wordOk w = true → hasKey (l.foldl putW out) w.key = true
  | v :: l, out, w, h, h1, h2 => by
    rcases List.mem_cons.1 h with rfl | h
    · exact hasKey_mono (fun x hx => (foldPut_pre l _).subset hx) (putW_has' h1 h2)
    · exact foldPut_has (l := l) h h1 h2
theorem foldPut_min {P : Word → Prop} : ∀ {l out : List Word}, (∀ x ∈ out, P x) → (∀ w ∈ l, w.is = true → wordOk w = true → P w) → ∀ x ∈ l.foldl putW out, P x
  | [], out, h, _ => h
  | v :: l, out, h, hl => foldPut_min (l := l) (putW_min h (hl v (by simp))) (fun w hw => hl w (by simp [hw]))
theorem scan_pre {ws : List Word} : ∀ (n c : Nat) (out : List Word), out <+: scan ws n c out
  | 0, _, out => List.prefix_rfl
  | n + 1, c, out => (putW_pre out _).trans (scan_pre n (c + 1) _)
theorem scan_has {ws : List Word} : ∀ {n c : Nat} {out : List Word} {j : Nat}, c ≤ j → j < c + n → (ws.getD j (FT.zero .word)).is = true → wordOk (ws.getD j (FT.zero .word)) = true → hasKey (scan ws n c out) (ws.getD j (FT.zero .word)).key = true
  | 0, c, out, j, h1, h2, _, _ => by omega
  | n + 1, c, out, j, h1, h2, h3, h4 => by
    by_cases e : j = c
    · subst e
      exact hasKey_mono (fun x hx => (scan_pre n (j + 1) _).subset hx) (putW_has' h3 h4)
    · exact scan_has (n := n) (c := c + 1) (by omega) (by omega) h3 h4
theorem scan_min {P : Word → Prop} {ws : List Word} : ∀ {n c : Nat} {out : List Word}, (∀ x ∈ out, P x) → (∀ j, c ≤ j → j < c + n → (ws.getD j (FT.zero .word)).is = true → P (ws.getD j (FT.zero .word))) → ∀ x ∈ scan ws n c out, P x
  | 0, c, out, h, _ => h
  | n + 1, c, out, h, hj => scan_min (n := n) (c := c + 1) (putW_min h fun hi _ => hj c (by omega) (by omega) hi) (fun j h1 h2 => hj j (by omega) (by omega))
def Cov (ws out : List Word) (k : Key) : Prop := opens k = true → ∀ j : Nat, k.base.toNat ≤ j → j < k.base.toNat + (min k.top 24 - k.base).toNat → (ws.getD j (FT.zero .word)).is = true → hasKey out (ws.getD j (FT.zero .word)).key = true
theorem Cov.mono {ws a b : List Word} {k : Key} (h : Cov ws a k) (hs : ∀ x ∈ a, x ∈ b) : Cov ws b k := fun ho j h1 h2 h3 => hasKey_mono hs (h ho j h1 h2 h3)
theorem closStep_pre {ws out : List Word} {k : Key} : out <+: closStep ws out k := by
  unfold closStep; split
  · exact scan_pre _ _ _
  · exact List.prefix_rfl
theorem closStep_cov {ws out : List Word} (hw : ∀ w ∈ ws, wordOk w = true) {k : Key} : Cov ws (closStep ws out k) k := fun ho j h1 h2 h3 => by
  rw [closStep_yes ho]; exact scan_has h1 h2 h3 (getD_ok hw j)
theorem closGo_pre {ws : List Word} : ∀ (n i : Nat) (out : List Word), out <+: closGo ws n i out
  | 0, _, out => List.prefix_rfl
  | n + 1, i, out => by
    unfold closGo; split
    · exact closStep_pre.trans (closGo_pre n (i + 1) _)
    · exact List.prefix_rfl
theorem pre_getD {a b : List Word} (h : a <+: b) {i : Nat} (hi : i < a.length) : b.getD i (FT.zero .word) = a.getD i (FT.zero .word) := by
  obtain ⟨t, rfl⟩ := h
  rw [List.getD_eq_getElem?_getD, List.getD_eq_getElem?_getD, List.getElem?_append_left hi]
theorem closGo_cov {ws : List Word} (hw : ∀ w ∈ ws, wordOk w = true) : ∀ {n i : Nat} {out : List Word}, i ≤ out.length → (∀ j, j < i → Cov ws out (out.getD j (FT.zero .word)).key) → (closGo ws n i out).length ≤ i + n →
    ∀ j, j < (closGo ws n i out).length → Cov ws (closGo ws n i out) ((closGo ws n i out).getD j (FT.zero .word)).key
  | 0, i, out, h1, h2, h3, j, hj => h2 j (by have h3 : out.length ≤ i + 0 := h3; have hj : j < out.length := hj; omega)
  | n + 1, i, out, h1, h2, h3, j, hj => by
    by_cases hi : i < out.length
    · rw [closGo_step hi] at h3 hj ⊢
      have hp := closStep_pre (ws := ws) (out := out) (k := (out.getD i (FT.zero .word)).key)
      have h3' : (closGo ws n (i + 1) (closStep ws out (out.getD i (FT.zero .word)).key)).length ≤ i + (n + 1) := h3
      refine closGo_cov hw (n := n) (i := i + 1) (Nat.le_trans hi hp.length_le) (fun q hq => ?_) (by omega) j hj
      rw [pre_getD hp (by omega)]
      by_cases e : q = i
      · subst e; exact closStep_cov hw
      · exact (h2 q (by omega)).mono fun x hx => hp.subset hx
    · rw [closGo_end (by omega)] at hj ⊢
      exact h2 j (by omega)
theorem closGo_min {P : Word → Prop} {ws : List Word} (hk : ∀ k : Word, P k → opens k.key = true → ∀ j : Nat, k.key.base.toNat ≤ j → j < k.key.base.toNat + (min k.key.top 24 - k.key.base).toNat → (ws.getD j (FT.zero .word)).is = true → P (ws.getD j (FT.zero .word))) :
    ∀ {n i : Nat} {out : List Word}, (∀ x ∈ out, P x) → ∀ x ∈ closGo ws n i out, P x
  | 0, _, _, h => h
  | n + 1, i, out, h => by
    unfold closGo; split
    · rename_i hi
      refine closGo_min hk (n := n) ?_
      unfold closStep; split
      · rename_i ho
        exact scan_min h (fun j h1 h2 h3 => hk _ (h _ (getD_mem hi)) ho j h1 h2 h3)
      · exact h
    · exact h
theorem closure_roots {m : Mem} {l : List Word} (hm : memoryOk m = true) {w : Word} (h : w ∈ l) (h1 : w.is = true) (h2 : wordOk w = true) : hasKey (closure m l) w.key = true := by
  unfold closure; rw [if_pos hm]
  exact hasKey_mono (fun x hx => (closGo_pre _ _ _).subset hx) (foldPut_has h h1 h2)
theorem closure_cov {m : Mem} {l : List Word} (hm : memoryOk m = true) {k : Word} (h : k ∈ closure m l) : Cov m.words (closure m l) k.key := by
  have hl := closure_len m l
  unfold closure at h hl ⊢
  rw [if_pos hm] at h hl ⊢
  obtain ⟨j, hj, e⟩ := List.mem_iff_getElem.1 h
  have := closGo_cov (ws := m.words) (memoryOk_iff.1 hm).2.2 (n := l.length + 24) (i := 0) (out := closFirst l) (Nat.zero_le _) (fun j hj => by omega) (by omega) j hj
  rwa [List.getD_eq_getElem?_getD, List.getElem?_eq_getElem hj, Option.getD_some, e] at this
theorem closure_min {P : Word → Prop} {m : Mem} {l : List Word} (hl : ∀ w ∈ l, w.is = true → wordOk w = true → P w)
    (hk : ∀ k : Word, P k → opens k.key = true → ∀ j : Nat, k.key.base.toNat ≤ j → j < k.key.base.toNat + (min k.key.top 24 - k.key.base).toNat → (m.words.getD j (FT.zero .word)).is = true → P (m.words.getD j (FT.zero .word))) : ∀ x ∈ closure m l, P x := by
  unfold closure; split
  · exact closGo_min hk (foldPut_min (fun x hx => by cases hx) hl)
  · intro x hx; cases hx
/-! ### what is under a closed set -/
def Reach (C : List Word) (m : Mem) : Prop := ∀ c ∈ C, c.is = true → opens c.key = true → ∀ j : Nat, c.key.base ≤ j → (j : Int) < c.key.top → j < 24 → Und C (m.words.getD j (FT.zero .word))
theorem und_key {C : List Word} (hC : WOut C) {w : Word} (h : hasKey C w.key = true) : Und C w := fun hi => by
  obtain ⟨c, h1, h2⟩ := hasKey_iff.1 h
  obtain ⟨g1, g2⟩ := hC c h1
  exact ⟨c, h1, g2, by rw [h2, ← h2]; exact coversK_refl (wordOk_is g1 g2)⟩
theorem closure_und {m : Mem} {l : List Word} (hm : memoryOk m = true) {w : Word} (h : w ∈ l) (h2 : wordOk w = true) : Und (closure m l) w := fun hi => und_key (closure_out m l) (closure_roots hm h hi h2) hi
theorem opens_iff {k : Key} : opens k = true ↔ ¬ andI k.perms 1 = 0 ∧ ¬ andI k.perms 8 = 0 := by simp [opens]
theorem opens_up {a b : Key} (h : coversK a b = true) (ho : opens b = true) : opens a = true := by
  obtain ⟨h1, h2, h3, h4, h5⟩ := coversK_iff.1 h
  obtain ⟨o1, o2⟩ := opens_iff.1 ho
  exact opens_iff.2 ⟨andI_bit h5 o1, andI_bit h5 o2⟩
theorem closure_under {C : List Word} {m : Mem} {l : List Word} (hl : ∀ w ∈ l, Und C w) (hr : Reach C m) : ∀ x ∈ closure m l, Und C x := by
  intro x hx
  have hm : memoryOk m = true := by
    unfold closure at hx; split at hx
    · assumption
    · cases hx
  obtain ⟨m1, m2, m3⟩ := memoryOk_iff.1 hm
  refine (closure_min (P := fun x => (x.is = true ∧ wordOk x = true) ∧ Und C x) (fun w hw h1 h2 => ⟨⟨h1, h2⟩, hl w hw⟩) (fun k hk ho j h1 h2 h3 => ?_) x hx).2
  obtain ⟨⟨hki, hko⟩, hku⟩ := hk
  have hn := keyOk_n (wordOk_is hko hki)
  refine ⟨⟨h3, getD_ok m3 j⟩, ?_⟩
  obtain ⟨c, c1, c2, c3⟩ := hku hki
  obtain ⟨q1, q2, q3, q4, q5⟩ := coversK_iff.1 c3
  exact hr c c1 c2 (opens_up c3 ho) j (by omega) (by omega) (by omega)
theorem hasP_iff {w : Word} {p : Int} : hasP w p = true ↔ w.is = true ∧ ¬ andI w.key.perms p = 0 := by simp [hasP]
theorem mem_filt {f : Nat → Bool} {n : Nat} {c : Int} : c ∈ filt f n ↔ ∃ j : Nat, j < n ∧ f j = true ∧ c = j := by
  simp only [filt, List.mem_map, List.mem_filter, List.mem_range]
  constructor
  · rintro ⟨j, ⟨h1, h2⟩, rfl⟩; exact ⟨j, h1, h2, rfl⟩
  · rintro ⟨j, h1, h2, rfl⟩; exact ⟨j, ⟨h1, h2⟩, rfl⟩
theorem coverP_iff {ws : List Word} {p : Int} {c : Nat} : coverP ws p c = true ↔ ∃ w ∈ ws, hasP w p = true ∧ w.key.base ≤ c ∧ (c : Int) ≤ w.key.top - 1 := by
  simp only [coverP, List.any_eq_true, Bool.and_eq_true, inR_t]
theorem cover_up {C : List Word} {w : Word} {p : Int} {c : Nat} (h : Und C w) (hp : hasP w p = true) (h1 : w.key.base ≤ c) (h2 : (c : Int) ≤ w.key.top - 1) : coverP C p c = true := by
  obtain ⟨p1, p2⟩ := hasP_iff.1 hp
  obtain ⟨d, d1, d2, d3⟩ := h p1
  obtain ⟨q1, q2, q3, q4, q5⟩ := coversK_iff.1 d3
  exact coverP_iff.2 ⟨d, d1, hasP_iff.2 ⟨d2, andI_bit q5 p2⟩, by omega, by omega⟩
theorem mem_cellsBy {m : Mem} {l : List Word} {p c : Int} : c ∈ cellsBy m l p ↔ ∃ j : Nat, j < 24 ∧ coverP (closure m l) p j = true ∧ c = j := mem_filt
structure Inv (C : List Word) (s : State) : Prop where
  ok : stateOk s = true
  regs : ∀ w ∈ s.regs, Und C w
  pc : Und C s.pc
  mem : Reach C s.mem
def hold (s : State) : List Word := s.regs ++ [s.pc]
theorem Inv.under {C : List Word} {s : State} (h : Inv C s) : ∀ x ∈ closure s.mem (hold s), Und C x := closure_under (fun w hw => by
  rcases List.mem_append.1 hw with q | q
  · exact h.regs w q
  · rw [List.mem_singleton.1 q]; exact h.pc) h.mem
theorem Inv.got {C : List Word} {l : List Inst} {s : State} (h : Inv C s) {x : Inst} {a b got : Word} (he : EffSpec l s x a b got) : Und C a ∧ Und C b ∧ Und C got := by
  obtain ⟨r1, r2, r3, r4, r5, r6⟩ := stateOk_iff.1 h.ok
  obtain ⟨m1, m2, m3⟩ := memoryOk_iff.1 r4
  have ha : Und C a := by rw [he.ha]; exact getD_und h.regs _
  have hb : Und C b := by rw [he.hb]; exact getD_und h.regs _
  refine ⟨ha, hb, ?_⟩
  rcases he.load with rfl | ⟨n, h1, h2, h3, rfl⟩
  · exact und_zero C
  · obtain ⟨t1, t2, t3, t4, t5, t6⟩ := tryW_0 h1
    obtain ⟨j, rfl⟩ := Int.eq_ofNat_of_zero_le h2
    have hj : j < 24 := by omega
    rw [Int.toNat_natCast]
    by_cases h8 : andI a.key.perms 8 = 0
    · rw [show takenW a (s.mem.words.getD j (FT.zero .word)) = plainW (s.mem.words.getD j (FT.zero .word)).n from if_pos h8]
      exact (filterW_fine (plainW_ok _)).und (und_bare C _)
    · obtain ⟨c, c1, c2, c3⟩ := ha t2
      obtain ⟨q1, q2, q3, q4, q5⟩ := coversK_iff.1 c3
      have hu := h.mem c c1 c2 (opens_up c3 (opens_iff.2 ⟨by rw [t4]; decide, h8⟩)) j (by omega) (by omega) hj
      exact (filterW_fine (takenW_fine (getD_ok m3 j)).1).und ((takenW_fine (getD_ok m3 j)).und hu)
theorem Inv.gone {C : List Word} {l : List Inst} {s : State} (h : Inv C s) (hC : ∀ c ∈ C, hasP c 32 = false) : (stepS l s).mem.gone = s.mem.gone := by
  have hs := h.ok
  rcases stepS_cases (l := l) hs with ⟨h1, h2⟩ | ⟨h1, h2, h3⟩ | ⟨h1, h2, h3⟩
  · rw [h2]
  · rw [h3]
  · rw [h3]
    obtain ⟨x, a, b, got, he⟩ := effE_parts h2
    obtain ⟨u1, u2, u3⟩ := h.got he
    unfold putE; dsimp only
    split
    · rename_i hr
      have hr := inR_t.1 hr
      obtain ⟨d1, d2⟩ := (he.work hs h2).drop (by omega)
      obtain ⟨t1, t2, t3, t4, t5, t6⟩ := tryW_0 d1
      obtain ⟨d, e1, e2, e3⟩ := u1 t2
      obtain ⟨q1, q2, q3, q4, q5⟩ := coversK_iff.1 e3
      have := hC d e1
      rw [hasP_iff.2 ⟨e2, andI_bit q5 (by rw [t4]; decide)⟩] at this
      cases this
    · rfl

theorem covers_mask {a b : Key} (h : keyOk b = true) : (IntKind.i64.wrap (BitVec.ofInt IntKind.i64.bits b.perms &&& ~~~ BitVec.ofInt IntKind.i64.bits a.perms).toNat = 0) ↔ andI a.perms b.perms = b.perms :=
  (andI_mask (q := a.perms) (p := b.perms) (by have := keyOk_n h; omega)).symm

def pf_impl_Covers : PF := ⟨[.t 4], .seq (.reg [.s (.box 2 (.t 0)), .s (.box 3 (.t 1)), .s (.mv 4 (.k (.v (.c .ff))))]) (.seq (.reg [.s (.load 5 true 4 (.t 2)), .s (.call (some 6) 99 [(.t 5)]), .s (.mv 7 (.t 6)), .g 7 true (some 8) (.load 8 true 4 (.t 3)), .g 7 true (some 9) (.call (some 9) 99 [(.t 8)]), .s (.pick 10 (.t 7) (.t 9) (.k (.v (.c .ff)))), .s (.mv 11 (.t 10)), .g 11 true (some 12) (.fa 12 (.t 2) 0), .g 11 true (some 13) (.load 13 false 1 (.t 12)), .g 11 true (some 14) (.fa 14 (.t 3) 0), .g 11 true (some 15) (.load 15 false 1 (.t 14)), .g 11 true (some 16) (.bin 16 .leq (.t 13) (.t 15)), .s (.pick 17 (.t 11) (.t 16) (.k (.v (.c .ff)))), .s (.mv 18 (.t 17)), .g 18 true (some 19) (.fa 19 (.t 3) 1), .g 18 true (some 20) (.load 20 false 1 (.t 19)), .g 18 true (some 21) (.fa 21 (.t 2) 1), .g 18 true (some 22) (.load 22 false 1 (.t 21)), .g 18 true (some 23) (.bin 23 .leq (.t 20) (.t 22)), .s (.pick 24 (.t 18) (.t 23) (.k (.v (.c .ff)))), .s (.mv 25 (.t 24)), .g 25 true (some 26) (.fa 26 (.t 3) 2), .g 25 true (some 27) (.load 27 false 1 (.t 26)), .g 25 true (some 28) (.fa 28 (.t 2) 2), .g 25 true (some 29) (.load 29 false 1 (.t 28)), .g 25 true (some 30) (.bin 30 .andNot (.t 27) (.t 29)), .g 25 true (some 31) (.bin 31 .eql (.t 30) (.k (.v (.c (.int .i64 0))))), .s (.pick 32 (.t 25) (.t 31) (.k (.v (.c .ff)))), .s (.mv 4 (.t 32))]) (.ret))⟩
def c_impl_Covers : Fun := ⟨101, [], fun ts K => as2 ts fun t0 t1 => arG pKeyT t0 fun a => arG pKeyT t1 fun b => K (tB (coversK a b)) []⟩
theorem run_impl_Covers (a : Key) (b : Key) : runK [c_impl_KeyOk] (0) [] pf_impl_Covers [tG (a.tc []), tG (b.tc [])] fun r o => r = tB (coversK a b) ∧ o = [] := by
  conv => whnf
  repeat' (first | (refine sel_i (fun h => ?_) (fun h => ?_) <;> conv => whnf) | (refine chk_c ?_ ?_ <;> conv => whnf) | (refine And.intro ?_ rfl) | (refine And.intro ?_ ?_ <;> conv => whnf))
  all_goals (try simp only [etaKey, decide_eq_true_eq, decide_eq_false_iff_not, beqI] at *)
  all_goals first
    | (simp only [coversK, *, Bool.true_and, decide_true]; exact congrArg (fun b => tB b) (decide_eq_decide.2 (covers_mask (a := a) (b := b) (by assumption))))
    | (simp only [coversK, *, decide_false, Bool.and_false, Bool.false_and]; done)
    | trace_state
theorem ok_impl_Covers : FunOk Try.prog c_impl_Covers := funOk (E := [c_impl_KeyOk]) (envOk_cons ok_impl_KeyOk (envOk_nil)) mixd Try.func101 (pf := pf_impl_Covers) (by kernel_rfl) fun ts K h => by
  obtain ⟨t0, t1, e0, h⟩ := as2_out h
  subst e0
  obtain ⟨a, e1, hq⟩ := arG_out rd_key h
  clear h
  subst e1
  have h := hq
  clear hq
  obtain ⟨b, e1, hq⟩ := arG_out rd_key h
  clear h
  subst e1
  have h := hq
  clear hq
  exact ⟨_, _, h, Nat.le_of_ble_eq_true (show Nat.ble 2 Try.f101.ntmps = true by kernel_rfl), _, run_impl_Covers a b⟩

def pf_impl_Unders_1 : PF := ⟨[.t 3], .seq (.reg [.s (.box 2 (.t 0)), .s (.mv 3 (.k (.v (.c .ff))))]) (.seq (.reg [.s (.fa 4 (.t 2) 1), .s (.load 5 false 1 (.t 4)), .s (.mv 6 (.t 5)), .g 6 true (some 7) (.fa 7 (.t 2) 2), .g 6 true (some 8) (.load 8 true 4 (.t 7)), .g 6 true (some 9) (.fa 9 (.t 1) 2), .g 6 true (some 10) (.load 10 true 4 (.t 9)), .g 6 true (some 11) (.call (some 11) 101 [(.t 8), (.t 10)]), .s (.pick 12 (.t 6) (.t 11) (.k (.v (.c .ff)))), .s (.mv 3 (.t 12))]) (.ret))⟩
def c_impl_Unders_1 : Fun := ⟨100, [], fun ts K => as2 ts fun t0 t1 => arG pWordT t0 fun x => arP pWordT t1 fun w => K (tB (x.is && coversK x.key w.key)) []⟩
theorem run_impl_Unders_1 (x : Word) (w : Word) : runK [c_impl_Covers] (0) [] pf_impl_Unders_1 [tG (x.tc []), .v (.ptr false 0 (w.tc []))] fun r o => r = tB (x.is && coversK x.key w.key) ∧ o = [] := by
  conv => whnf
  repeat' (first | (refine sel_i (fun h => ?_) (fun h => ?_) <;> conv => whnf) | (refine chk_c ?_ ?_ <;> conv => whnf) | (refine And.intro ?_ rfl) | (refine And.intro ?_ ?_ <;> conv => whnf))
  all_goals (try simp only [etaKey, etaWord] at *)
  all_goals first
    | (simp only [*, Bool.true_and, Bool.false_and]; done)
    | trace_state
theorem ok_impl_Unders_1 : FunOk Try.prog c_impl_Unders_1 := funOk (E := [c_impl_Covers]) (envOk_cons ok_impl_Covers (envOk_nil)) mixd Try.func100 (pf := pf_impl_Unders_1) (by kernel_rfl) fun ts K h => by
  obtain ⟨t0, t1, e0, h⟩ := as2_out h
  subst e0
  obtain ⟨x, e1, hq⟩ := arG_out rd_word h
  clear h
  subst e1
  have h := hq
  clear hq
  obtain ⟨w, e1, hq⟩ := arP_out rd_word h
  clear h
  subst e1
  have h := hq
  clear hq
  exact ⟨_, _, h, Nat.le_of_ble_eq_true (show Nat.ble 2 Try.f100.ntmps = true by kernel_rfl), _, run_impl_Unders_1 x w⟩

def c_slices_IndexFunc_Word__impl_Unders_1 : Fun := ⟨159, [], fun ts K => as2 ts fun t0 t1 => arC (pL .word) t0 fun xs => arF1 100 pWordT t1 fun g => chk (xs.length ≤ 2147483647) (K (tN (idxOf (fun x => x.is && coversK x.key g.key) xs)) [])⟩
theorem run_slices_IndexFunc_Word__impl_Unders_1 (xs : List (FT.Ty .word)) (g : Word) (hpre : xs.length ≤ 2147483647) : runK [c_impl_Unders_1] (xs.length + 1) [] pf_slices_IndexFunc_Word [tL false .word xs, .fn 100 [.ptr false 0 (g.tc [])]] fun r o => r = tN (idxOf (fun x => x.is && coversK x.key g.key) xs) ∧ o = [] := by
  conv => whnf
  refine loop (α := Nat) (fun i => ⟨[(0, .v (.c (.sl false .word 0))), (1, .fn 100 [.c (.ptr 1 0)]), (7, .v (.c (.int .i64 (xs.length : Int)))), (8, .v (.c (.int .i64 (i : Int))))], [(1, some (.box false [.int .i64 g.n, .bool g.is, .int .i64 g.key.base, .int .i64 g.key.top, .int .i64 g.key.perms, .int .i64 g.key.sealed])), (0, some (.flat false .word none xs))], nums.tail.tail, [], false, []⟩)
      (fun i => i ≤ xs.length ∧ idxOf (fun x => x.is && coversK x.key g.key) xs = idxGo (fun x => x.is && coversK x.key g.key) (xs.drop i) i) (fun i => xs.length - i) (fun i R hI hR => ?_) 0 _ ⟨by simp, rfl⟩ (by simp)
  obtain ⟨hi, hx⟩ := hI
  conv => whnf
  refine sel_i (fun h2 => ?_) (fun h2 => ?_)
  · have hlt : i < xs.length := by simp at h2; omega
    conv => whnf
    repeat (refine chk_i (by first | omega | (simp; omega)) ?_; conv => whnf)
    refine sel_i (fun h3 => ?_) (fun h3 => ?_)
    · conv => whnf
      rw [hx, idxGo_yes (z := FT.zero .word) hlt (by first | (simp only [keyEq] at h3; exact h3) | (simpa using h3))]
      exact ⟨rfl, rfl⟩
    · conv => whnf
      rw [wrap_id (n := (i : Int) + 1) (by omega) (by omega)]
      exact hR (i + 1) ⟨by omega, by rw [hx, idxGo_no (z := FT.zero .word) hlt (by first | (simp only [keyEq] at h3; exact h3) | (simpa using h3))]⟩ (by omega)
  · conv => whnf
    rw [hx, idxGo_end (by simp at h2; omega)]
    exact ⟨rfl, rfl⟩
theorem ok_slices_IndexFunc_Word__impl_Unders_1 : FunOk Try.prog c_slices_IndexFunc_Word__impl_Unders_1 := funOk (E := [c_impl_Unders_1]) (envOk_cons ok_impl_Unders_1 (envOk_nil)) mixd Try.func159 (pf := pf_slices_IndexFunc_Word) (by kernel_rfl) fun ts K h => by
  obtain ⟨t0, t1, e0, h⟩ := as2_out h
  subst e0
  obtain ⟨xs, e1, hq⟩ := arC_out (rd_l .word) h
  clear h
  subst e1
  have h := hq
  clear hq
  obtain ⟨g, e1, hq⟩ := arF1_out rd_word h
  clear h
  subst e1
  have h := hq
  clear hq
  obtain ⟨hpre, h⟩ := chk_o h
  exact ⟨_, _, h, Nat.le_of_ble_eq_true (show Nat.ble 2 Try.f159.ntmps = true by kernel_rfl), _, run_slices_IndexFunc_Word__impl_Unders_1 xs g hpre⟩

def c_slices_ContainsFunc_Word__impl_Unders_1 : Fun := ⟨86, [], fun ts K => as2 ts fun t0 t1 => arC (pL .word) t0 fun xs => arF1 100 pWordT t1 fun g => chk (xs.length ≤ 2147483647) (K (tB (xs.any (fun x => x.is && coversK x.key g.key))) [])⟩
theorem run_slices_ContainsFunc_Word__impl_Unders_1 (xs : List (FT.Ty .word)) (g : Word) (hpre : xs.length ≤ 2147483647) : runK [c_slices_IndexFunc_Word__impl_Unders_1, c_impl_Unders_1] (0) [] pf_slices_ContainsFunc_Word [tL false .word xs, .fn 100 [.ptr false 0 (g.tc [])]] fun r o => r = tB (xs.any (fun x => x.is && coversK x.key g.key)) ∧ o = [] := by
  conv => whnf
  repeat' (first | (refine sel_i (fun h => ?_) (fun h => ?_) <;> conv => whnf) | (refine chk_c ?_ ?_ <;> conv => whnf) | (refine And.intro ?_ rfl) | (refine And.intro ?_ ?_ <;> conv => whnf))
  all_goals first | (refine ⟨?_⟩; exact hpre) | exact hpre | (rw [← idxOf_any]; rfl) | (rw [← idxOf_any])
theorem ok_slices_ContainsFunc_Word__impl_Unders_1 : FunOk Try.prog c_slices_ContainsFunc_Word__impl_Unders_1 := funOk (E := [c_slices_IndexFunc_Word__impl_Unders_1, c_impl_Unders_1]) (envOk_cons ok_slices_IndexFunc_Word__impl_Unders_1 (envOk_cons ok_impl_Unders_1 (envOk_nil))) mixd Try.func86 (pf := pf_slices_ContainsFunc_Word) (by kernel_rfl) fun ts K h => by
  obtain ⟨t0, t1, e0, h⟩ := as2_out h
  subst e0
  obtain ⟨xs, e1, hq⟩ := arC_out (rd_l .word) h
  clear h
  subst e1
  have h := hq
  clear hq
  obtain ⟨g, e1, hq⟩ := arF1_out rd_word h
  clear h
  subst e1
  have h := hq
  clear hq
  obtain ⟨hpre, h⟩ := chk_o h
  exact ⟨_, _, h, Nat.le_of_ble_eq_true (show Nat.ble 2 Try.f86.ntmps = true by kernel_rfl), _, run_slices_ContainsFunc_Word__impl_Unders_1 xs g hpre⟩

def pf_impl_Unders : PF := ⟨[.t 4], .seq (.reg [.s (.box 2 (.t 0)), .s (.mv 4 (.k (.v (.c .ff))))]) (.seq (.reg [.s (.fa 5 (.t 2) 1), .s (.load 6 false 1 (.t 5)), .s (.bnot 7 (.t 6)), .s (.mv 8 (.t 7)), .g 8 false (some 9) (.mv 9 (.t 1)), .g 8 false (some 10) (.mkf 10 100 [(.t 2)]), .g 8 false (some 11) (.call (some 11) 86 [(.t 9), (.t 10)]), .s (.pick 12 (.t 8) (.k (.v (.c .tt))) (.t 11)), .s (.mv 4 (.t 12))]) (.ret))⟩
def c_impl_Unders : Fun := ⟨29, [], fun ts K => as2 ts fun t0 t1 => arG pWordT t0 fun w => arC (pL .word) t1 fun l => chk (l.length ≤ 2147483647) (K (tB (undersW w l)) [])⟩
theorem run_impl_Unders (w : Word) (l : List (FT.Ty .word)) (hpre : l.length ≤ 2147483647) : runK [c_slices_ContainsFunc_Word__impl_Unders_1, c_impl_Unders_1] (0) [] pf_impl_Unders [tG (w.tc []), tL false .word l] fun r o => r = tB (undersW w l) ∧ o = [] := by
  conv => whnf
  repeat' (first | (refine sel_i (fun h => ?_) (fun h => ?_) <;> conv => whnf) | (refine chk_c ?_ ?_ <;> conv => whnf) | (refine And.intro ?_ rfl) | (refine And.intro ?_ ?_ <;> conv => whnf))
  all_goals (try simp only [etaKey, etaWord, Bool.not_eq_true', Bool.not_eq_false'] at *)
  all_goals first
    | (refine ⟨?_⟩; exact hpre)
    | (unfold undersW; rw [h]; rfl)
    | trace_state
theorem ok_impl_Unders : FunOk Try.prog c_impl_Unders := funOk (E := [c_slices_ContainsFunc_Word__impl_Unders_1, c_impl_Unders_1]) (envOk_cons ok_slices_ContainsFunc_Word__impl_Unders_1 (envOk_cons ok_impl_Unders_1 (envOk_nil))) mixd Try.func29 (pf := pf_impl_Unders) (by kernel_rfl) fun ts K h => by
  obtain ⟨t0, t1, e0, h⟩ := as2_out h
  subst e0
  obtain ⟨w, e1, hq⟩ := arG_out rd_word h
  clear h
  subst e1
  have h := hq
  clear hq
  obtain ⟨l, e1, hq⟩ := arC_out (rd_l .word) h
  clear h
  subst e1
  have h := hq
  clear hq
  obtain ⟨hpre, h⟩ := chk_o h
  exact ⟨_, _, h, Nat.le_of_ble_eq_true (show Nat.ble 2 Try.f29.ntmps = true by kernel_rfl), _, run_impl_Unders w l hpre⟩

def keyWord (k : Key) (n : Int) : Word := if keyOk k then ⟨andI n 65535, true, k⟩ else plainW n
theorem keyWord_ok (k : Key) (n : Int) : wordOk (keyWord k n) = true := by
  unfold keyWord; split
  · exact wordOk_mk (and65 n) (by assumption)
  · exact plainW_ok n

def pf_spec_KeyWord : PF := ⟨[.c 4 true 6], .seq (.reg [.s (.box 2 (.t 0)), .s (.alloc 4 [.int .i64 0, .ff, .int .i64 0, .int .i64 0, .int .i64 0, .int .i64 0])]) (.seq (.reg [.s (.mv 6 (.t 1)), .s (.call (some 7) 164 [(.t 6)]), .s (.alloc 5 [.int .i64 0, .ff, .int .i64 0, .int .i64 0, .int .i64 0, .int .i64 0]), .s (.store 6 (.t 5) (.t 7))]) (.seq (.seq (.reg [.s (.load 8 true 4 (.t 2)), .s (.call (some 9) 160 [(.t 8)])]) (.cond (.t 9) (.seq (.reg [.s (.fa 10 (.t 5) 1), .s (.store 1 (.t 10) (.k (.v (.c .tt))))]) (.reg [.s (.load 11 true 4 (.t 2)), .s (.fa 12 (.t 5) 2), .s (.store 4 (.t 12) (.t 11))])) (.skip))) (.seq (.reg [.s (.load 13 true 6 (.t 5)), .s (.store 6 (.t 4) (.t 13))]) (.ret))))⟩
def c_spec_KeyWord : Fun := ⟨150, [], fun ts K => as2 ts fun t0 t1 => arG pKeyT t0 fun k => arC (pI .i64) t1 fun n => K (tG ((keyWord k n).tc [])) []⟩
theorem run_spec_KeyWord (k : Key) (n : Int) : runK [c_spec_KeyOk, c_spec_Plain] (0) [] pf_spec_KeyWord [tG (k.tc []), tI .i64 n] fun r o => r = tG ((keyWord k n).tc []) ∧ o = [] := by
  conv => whnf
  repeat' (first | (refine sel_i (fun h => ?_) (fun h => ?_) <;> conv => whnf) | (refine chk_c ?_ ?_ <;> conv => whnf) | (refine And.intro ?_ rfl) | (refine And.intro ?_ ?_ <;> conv => whnf))
  all_goals (try simp only [etaKey, etaWord] at *)
  all_goals first
    | (unfold keyWord; rw [if_pos h]; rfl)
    | (unfold keyWord; rw [if_neg (by rw [h]; decide)]; rfl)
    | trace_state
theorem ok_spec_KeyWord : FunOk Try.prog c_spec_KeyWord := funOk (E := [c_spec_KeyOk, c_spec_Plain]) (envOk_cons ok_spec_KeyOk (envOk_cons ok_spec_Plain (envOk_nil))) mixd Try.func150 (pf := pf_spec_KeyWord) (by kernel_rfl) fun ts K h => by
  obtain ⟨t0, t1, e0, h⟩ := as2_out h
  subst e0
  obtain ⟨k, e1, hq⟩ := arG_out rd_key h
  clear h
  subst e1
  have h := hq
  clear hq
  obtain ⟨n, e1, hq⟩ := arC_out (rd_int .i64) h
  clear h
  subst e1
  have h := hq
  clear hq
  exact ⟨_, _, h, Nat.le_of_ble_eq_true (show Nat.ble 2 Try.f150.ntmps = true by kernel_rfl), _, run_spec_KeyWord k n⟩


/-! what is kept is read as it was -/

/-! two that are apart -/
theorem twoOk_iff {t : Two} : twoOk t = true ↔ stateOk (sideState t 0) = true ∧ stateOk (sideState t 1) = true := by simp [twoOk]
theorem meetI_f {a b : List Int} : meetI a b = false ↔ ∀ c ∈ a, c ∉ b := by
  simp only [meetI, List.any_eq_false]
  constructor
  · intro h c hc hb
    exact h c hc (List.any_eq_true.2 ⟨c, hb, beq_iff_eq.2 rfl⟩)
  · intro h c hc hb
    obtain ⟨x, hx, e⟩ := List.any_eq_true.1 hb
    rw [beq_iff_eq.1 e] at hc
    exact h x hc hx
def Ap (C D : List Word) : Prop := ∀ j : Nat, j < 24 → coverP C 2 j = true → coverP D 1 j = false ∧ coverP D 2 j = false
def NoSeal (C : List Word) : Prop := ∀ c ∈ C, hasP c 32 = false
structure Both (A B : List Word) (t : Two) : Prop where
  a : Inv A (sideState t 0)
  b : Inv B (sideState t 1)
  ab : Ap A B
  ba : Ap B A
  na : NoSeal A
  nb : NoSeal B
theorem Both.ok {A B : List Word} {t : Two} (h : Both A B t) : twoOk t = true := twoOk_iff.2 ⟨h.a.ok, h.b.ok⟩
theorem Both.apart {A B : List Word} {t : Two} (h : Both A B t) (ha : ∀ x ∈ closure t.mem (heldW t.a), Und A x) (hb : ∀ x ∈ closure t.mem (heldW t.b), Und B x) : apartB t = true := by
  have hs : ∀ {C : List Word} {l : List Word}, (∀ x ∈ closure t.mem l, Und C x) → NoSeal C → canSeal t.mem l = false := fun {C l} hu hn => by
    cases e : canSeal t.mem l with
    | false => rfl
    | true =>
      simp only [canSeal, List.any_eq_true] at e
      obtain ⟨w, h1, h2⟩ := e
      obtain ⟨p1, p2⟩ := hasP_iff.1 h2
      obtain ⟨d, d1, d2, d3⟩ := hu w h1 p1
      obtain ⟨q1, q2, q3, q4, q5⟩ := coversK_iff.1 d3
      have := hn d d1
      rw [hasP_iff.2 ⟨d2, andI_bit q5 p2⟩] at this
      cases this
  have hcov : ∀ {C : List Word} {l : List Word} {p : Int} {j : Nat}, (∀ x ∈ closure t.mem l, Und C x) → coverP (closure t.mem l) p j = true → coverP C p j = true := fun {C l p j} hu hc => by
    obtain ⟨w, w1, w2, w3, w4⟩ := coverP_iff.1 hc
    exact cover_up (hu w w1) w2 w3 w4
  have hx : ∀ {C D : List Word} {l k : List Word}, (∀ x ∈ closure t.mem l, Und C x) → (∀ x ∈ closure t.mem k, Und D x) → Ap C D → crossesB t.mem l k = false := fun {C D l k} hu hv hap => by
    refine meetI_f.2 fun c hc hc2 => ?_
    obtain ⟨j, h1, h2, rfl⟩ := mem_cellsBy.1 hc
    have := hap j h1 (hcov hu h2)
    rcases List.mem_append.1 hc2 with q | q
    · obtain ⟨i, i1, i2, i3⟩ := mem_cellsBy.1 q
      have : i = j := by omega
      subst this
      have := hcov hv i2
      simp_all
    · obtain ⟨i, i1, i2, i3⟩ := mem_cellsBy.1 q
      have : i = j := by omega
      subst this
      have := hcov hv i2
      simp_all
  simp only [apartB, Bool.and_eq_true, Bool.not_eq_true']
  exact ⟨⟨⟨h.ok, hs ha h.na⟩, hs hb h.nb⟩, hx ha hb h.ab, hx hb ha h.ba⟩
end Go.Pi
