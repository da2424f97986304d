/- Contracts of functions, each out of its run by PI. No conditions. -/
import Derived.Test.YtepkbkojgbcahaaCH
namespace Go.Pi
open Go.Proofs
set_option linter.unusedVariables false
set_option linter.unusedSimpArgs false
set_option maxRecDepth 100000
attribute [local irreducible] iterN
def andI (a b : Int) : Int := IntKind.i64.wrap (BitVec.ofInt IntKind.i64.bits a &&& BitVec.ofInt IntKind.i64.bits b).toNat
theorem andI_eq (a b : Int) : IntKind.i64.wrap (BitVec.ofInt IntKind.i64.bits a &&& BitVec.ofInt IntKind.i64.bits b).toNat = andI a b := rfl
abbrev w0 : Word := ⟨0, false, ⟨0, 0, 0, 0⟩⟩
def hasKey (l : List Word) (k : Key) : Bool := l.any (fun x => decide (x.key = k))
def putW (out : List Word) (w : Word) : List Word := if w.is && wordOk w && !hasKey out w.key then out ++ [w] else out
def scan (ws : List Word) : Nat → Nat → List Word → List Word
  | 0, _, out => out
  | n + 1, c, out => scan ws n (c + 1) (putW out (ws.getD c (FT.zero .word)))
def opens (k : Key) : Bool := !(andI k.perms 1 == 0) && !(andI k.perms 8 == 0)
def closStep (ws out : List Word) (k : Key) : List Word := if opens k then scan ws (min k.top 24 - k.base).toNat k.base.toNat out else out
def closGo (ws : List Word) : Nat → Nat → List Word → List Word
  | 0, _, out => out
  | n + 1, i, out => if i < out.length then closGo ws n (i + 1) (closStep ws out (out.getD i (FT.zero .word)).key) else out
def closFirst (l : List Word) : List Word := l.foldl putW []
def closure (m : Mem) (l : List Word) : List Word := if memoryOk m then closGo m.words (l.length + 24) 0 (closFirst l) else []
theorem putW_yes {out : List Word} {w : Word} (h1 : wordOk w = true) (h2 : w.is = true) (h3 : hasKey out w.key = false) : putW out w = out ++ [w] := by simp [putW, h1, h2, h3]
theorem putW_has {out : List Word} {w : Word} (h3 : hasKey out w.key = true) : putW out w = out := by simp [putW, h3]
theorem putW_is {out : List Word} {w : Word} (h3 : w.is = false) : putW out w = out := by simp [putW, h3]
theorem putW_ok {out : List Word} {w : Word} (h3 : wordOk w = false) : putW out w = out := by simp [putW, h3]
theorem foldl_take {α β : Type} (f : β → α → β) (b : β) {xs : List α} {i : Nat} (z : α) (h : i < xs.length) : (xs.take (i + 1)).foldl f b = f ((xs.take i).foldl f b) (xs.getD i z) := by
  have e : xs.getD i z = xs[i] := by simp [List.getD_eq_getElem?_getD, h]
  rw [List.take_add_one, List.getElem?_eq_getElem h, List.foldl_append, e]; rfl
def WOut (out : List Word) : Prop := ∀ w ∈ out, wordOk w = true ∧ w.is = true
theorem putW_out {out : List Word} {w : Word} (h : WOut out) : WOut (putW out w) := by
  unfold putW
  split
  · rename_i hw
    simp at hw
    intro x hx
    simp at hx
    rcases hx with hx | rfl
    · exact h x hx
    · exact ⟨hw.1.2, hw.1.1⟩
  · exact h
theorem putW_len (out : List Word) (w : Word) : out.length ≤ (putW out w).length ∧ (putW out w).length ≤ out.length + 1 := by
  unfold putW; split <;> simp
theorem wout_bounds {out : List Word} {i : Nat} (h : WOut out) (hi : i < out.length) : 0 ≤ (out.getD i (FT.zero .word)).key.base ∧ (out.getD i (FT.zero .word)).key.base ≤ (out.getD i (FT.zero .word)).key.top ∧ (out.getD i (FT.zero .word)).key.top ≤ 4096 := by
  have e : out.getD i (FT.zero .word) = out[i] := by simp [List.getD_eq_getElem?_getD, hi]
  rw [e]
  obtain ⟨h1, h2⟩ := h out[i] (List.getElem_mem hi)
  simp only [wordOk, h2, if_true, Bool.and_eq_true, keyOk, exact_] at h1
  exact bounds_n h1.2.1.1.1.1
/-- The words of memory whose keys are not there yet. -/
def missing (ws out : List Word) : Nat := ws.countP (fun w => !hasKey out w.key)
theorem hasKey_app (out : List Word) (w : Word) (k : Key) : hasKey (out ++ [w]) k = (hasKey out k || decide (w.key = k)) := by simp [hasKey]
theorem missing_put {ws out : List Word} {w : Word} (hw : w ∈ ws) : (putW out w).length + missing ws (putW out w) ≤ out.length + missing ws out := by
  unfold putW
  split
  · rename_i h
    simp only [Bool.and_eq_true, Bool.not_eq_true'] at h
    have key : missing ws (out ++ [w]) + 1 ≤ missing ws out := by
      unfold missing
      have h1 : ∀ (l : List Word), l.countP (fun x => !hasKey (out ++ [w]) x.key) ≤ l.countP (fun x => !hasKey out x.key) := fun l =>
        List.countP_mono_left (fun x _ hx => by rw [hasKey_app] at hx; simp at hx; simp [hx.1])
      obtain ⟨a, b, rfl⟩ := List.append_of_mem hw
      have ha := h1 a
      have hb := h1 b
      rw [List.countP_append, List.countP_append, List.countP_cons, List.countP_cons]
      have e1 : (!hasKey (out ++ [w]) w.key) = false := by rw [hasKey_app]; simp
      rw [e1, h.2]
      simp; omega
    simp; omega
  · exact Nat.le_refl _
theorem missing_le (ws out : List Word) : missing ws out ≤ ws.length := List.countP_le_length
theorem scan_len (ws : List Word) : ∀ (n c : Nat) (out : List Word), out.length ≤ (scan ws n c out).length
  | 0, _, _ => Nat.le_refl _
  | n + 1, c, out => Nat.le_trans (putW_len out _).1 (scan_len ws n (c + 1) _)
theorem closGo_end {ws out : List Word} {n i : Nat} (h : out.length ≤ i) : closGo ws n i out = out := by
  cases n with
  | zero => rfl
  | succ n => simp [closGo, show ¬ i < out.length by omega]
theorem closGo_step {ws out : List Word} {n i : Nat} (h : i < out.length) : closGo ws (n + 1) i out = closGo ws n (i + 1) (closStep ws out (out.getD i (FT.zero .word)).key) := by simp [closGo, h]
theorem closStep_no {ws out : List Word} {k : Key} (h : opens k = false) : closStep ws out k = out := by simp [closStep, h]
theorem closStep_yes {ws out : List Word} {k : Key} (h : opens k = true) : closStep ws out k = scan ws (min k.top 24 - k.base).toNat k.base.toNat out := by simp [closStep, h]
theorem getD_mem {ws : List Word} {c : Nat} (h : c < ws.length) : ws.getD c (FT.zero .word) ∈ ws := by
  have e : ws.getD c (FT.zero .word) = ws[c] := by simp [List.getD_eq_getElem?_getD, h]
  rw [e]; exact List.getElem_mem h
theorem memoryOk_n {m : Mem} (h : memoryOk m = true) : m.words.length = 24 ∧ m.gone.length = 24 ∧ ∀ w ∈ m.words, wordOk w = true := by
  simp [memoryOk] at h; exact ⟨h.1.1, h.1.2, h.2⟩

def lb_spec_l21Has_0 : PC := .seq (.seq (.reg [.s (.mv 6 (.t 5)), .s (.mv 7 (.t 0)), .s (.len 8 false (.t 7)), .s (.bin 9 .lss (.t 6) (.t 8))]) (.cond (.t 9) (.skip) (.exit 0))) (.seq (.blk 1 (.seq (.rgd [.s (.mv 12 (.t 0)), .s (.mv 13 (.t 5)), .s (.ia 14 .word (.t 12) (.t 13)), .s (.fa 15 (.t 14) 2), .s (.load 16 true 4 (.t 15)), .s (.load 17 true 4 (.t 3)), .s (.eqs 18 true [.i, .i, .i, .i] false (.t 16) (.t 17))] (.tk 0 (.tk 1 (.tk 2 (.tk 3 (.tk 4 (.tk 5 (.tk 6 (.done none))))))))) (.cond (.t 18) (.seq (.reg [.s (.mv 4 (.k (.v (.c .tt))))]) (.ret)) (.skip)))) (.reg [.s (.mv 10 (.t 5)), .s (.bin 11 .add (.t 10) (.k (.v (.c (.int .i64 1))))), .s (.mv 5 (.t 11))]))
def pf_spec_l21Has : PF := ⟨[.t 4], .seq (.reg [.s (.box 3 (.t 1)), .s (.mv 4 (.k (.v (.c .ff))))]) (.seq (.seq (.reg [.s (.mv 5 (.k (.v (.c (.int .i64 0)))))]) (.blk 0 (.loop [0, 3, 5] lb_spec_l21Has_0))) (.seq (.reg [.s (.mv 4 (.k (.v (.c .ff))))]) (.ret)))⟩
def c_spec_l21Has : Fun := ⟨54, [], fun ts K => as2 ts fun t0 t1 => arC (pL .word) t0 fun xs => arG pKeyT t1 fun k => chk (xs.length ≤ 2147483647) (K (tB (hasKey xs k)) [])⟩
theorem run_spec_l21Has (xs : List (FT.Ty .word)) (k : Key) (hpre : xs.length ≤ 2147483647) : runK [] (xs.length + 1) [] pf_spec_l21Has [tL false .word xs, tG (k.tc [])] fun r o => r = tB (hasKey xs k) ∧ o = [] := by
  conv => whnf
  refine loop (α := Nat) (fun i => ⟨[(0, .v (.c (.sl false .word 0))), (3, .v (.c (.ptr 1 0))), (5, .v (.c (.int .i64 (i : Int))))], [(1, some (.box true [.int .i64 k.base, .int .i64 k.top, .int .i64 k.perms, .int .i64 k.sealed])), (0, some (.flat false .word none xs))], nums.tail.tail, [], false, []⟩)
      (fun i => i ≤ xs.length ∧ (xs.drop i).any (fun x => decide (x.key = k)) = hasKey xs k) (fun i => xs.length - i) (fun i R hI hR => ?_) 0 _ ⟨by simp, by simp [hasKey]⟩ (by simp)
  obtain ⟨hi, hx⟩ := hI
  conv => whnf
  repeat' (first | (refine sel_i (fun h => ?_) (fun h => ?_) <;> conv => whnf) | (refine chk_c ?_ ?_ <;> conv => whnf) | (refine And.intro ?_ rfl) | (refine And.intro ?_ ?_ <;> conv => whnf))
  all_goals simp only [keyEq, Int.toNat_natCast, decide_eq_true_eq, decide_eq_false_iff_not] at *
  all_goals first
    | (refine ⟨?_⟩; omega)
    | (rw [show hasKey xs k = true from any_yes (z := FT.zero .word) (by omega) (decide_eq_true (by assumption)) hx]; done)
    | (rw [show hasKey xs k = false from any_end (by omega) hx]; done)
    | (rw [wrap_id (n := (i : Int) + 1) (by omega) (by omega)]; exact hR (i + 1) ⟨by omega, any_no (z := FT.zero .word) (by omega) (decide_eq_false (by assumption)) hx⟩ (by omega))
theorem ok_spec_l21Has : FunOk Try.prog c_spec_l21Has := funOk (E := []) (envOk_nil) mixd Try.func54 (pf := pf_spec_l21Has) (by kernel_rfl) fun ts K h => by
  obtain ⟨t0, t1, e0, h⟩ := as2_out h
  subst e0
  obtain ⟨xs, e1, hq⟩ := arC_out (rd_l .word) h
  clear h
  subst e1
  have h := hq
  clear hq
  obtain ⟨k, e1, hq⟩ := arG_out rd_key h
  clear h
  subst e1
  have h := hq
  clear hq
  obtain ⟨hpre, h⟩ := chk_o h
  exact ⟨_, _, h, Nat.le_of_ble_eq_true (show Nat.ble 2 Try.f54.ntmps = true by kernel_rfl), _, run_spec_l21Has xs k hpre⟩

def pf_impl_spanned : PF := ⟨[.t 2, .t 3], .seq (.reg [.s (.box 1 (.t 0)), .s (.mv 2 (.k (.v (.c (.int .i64 0))))), .s (.mv 3 (.k (.v (.c (.int .i64 0)))))]) (.seq (.rgd [.s (.fa 4 (.t 1) 0), .s (.load 5 false 1 (.t 4)), .s (.fa 6 (.t 1) 1), .s (.load 7 false 1 (.t 6)), .s (.mm 8 false (.t 7) (.k (.v (.c (.int .i64 24))))), .s (.mv 2 (.t 5)), .s (.mv 3 (.t 8))] (.tk 0 (.tk 1 (.tk 2 (.tk 3 (.tk 4 (.tk 5 (.tk 6 (.done none))))))))) (.ret))⟩
def c_impl_spanned : Fun := ⟨63, [], fun ts K => as1 ts fun t0 => arG pKeyT t0 fun k => K (.tup [.c (.int .i64 k.base), .c (.int .i64 (min k.top 24))]) []⟩
theorem run_impl_spanned (k : Key) : runK [] (0) [] pf_impl_spanned [tG (k.tc [])] fun r o => r = .tup [.c (.int .i64 k.base), .c (.int .i64 (min k.top 24))] ∧ o = [] := by
  conv => whnf
  repeat' (first
    | exact rfl
    | exact trivial
    | (refine sel_i (fun h => ?_) (fun h => ?_) <;> conv => whnf)
    | (refine chk_c ?_ ?_ <;> conv => whnf)
    | (refine And.intro ?_ ?_ <;> conv => whnf))
theorem ok_impl_spanned : FunOk Try.prog c_impl_spanned := funOk (E := []) (envOk_nil) mixd Try.func63 (pf := pf_impl_spanned) (by kernel_rfl) fun ts K h => by
  obtain ⟨t0, e0, h⟩ := as1_out h
  subst e0
  obtain ⟨k, e1, hq⟩ := arG_out rd_key h
  clear h
  subst e1
  have h := hq
  clear hq
  exact ⟨_, _, h, Nat.le_of_ble_eq_true (show Nat.ble 1 Try.f63.ntmps = true by kernel_rfl), _, run_impl_spanned k⟩

def pf_impl_Closure_1_1 : PF := ⟨[.t 3], .seq (.reg [.s (.box 2 (.t 0)), .s (.mv 3 (.k (.v (.c .ff))))]) (.seq (.reg [.s (.fa 4 (.t 2) 2), .s (.load 5 true 4 (.t 4)), .s (.fa 6 (.t 1) 2), .s (.load 7 true 4 (.t 6)), .s (.eqs 8 true [.i, .i, .i, .i] false (.t 5) (.t 7)), .s (.mv 3 (.t 8))]) (.ret))⟩
def c_impl_Closure_1_1 : Fun := ⟨62, [], fun ts K => as2 ts fun t0 t1 => arG pWordT t0 fun x => arP pWordT t1 fun w => K (tB (decide (x.key = w.key))) []⟩
theorem run_impl_Closure_1_1 (x : Word) (w : Word) : runK [] (0) [] pf_impl_Closure_1_1 [tG (x.tc []), .v (.ptr false 0 (w.tc []))] fun r o => r = tB (decide (x.key = w.key)) ∧ o = [] := by
  conv => whnf
  repeat' (first | (refine sel_i (fun h => ?_) (fun h => ?_) <;> conv => whnf) | (refine chk_c ?_ ?_ <;> conv => whnf) | (refine And.intro ?_ rfl) | (refine And.intro ?_ ?_ <;> conv => whnf))
  all_goals (rw [keyEq])
theorem ok_impl_Closure_1_1 : FunOk Try.prog c_impl_Closure_1_1 := funOk (E := []) (envOk_nil) mixd Try.func62 (pf := pf_impl_Closure_1_1) (by kernel_rfl) fun ts K h => by
  obtain ⟨t0, t1, e0, h⟩ := as2_out h
  subst e0
  obtain ⟨x, e1, hq⟩ := arG_out rd_word h
  clear h
  subst e1
  have h := hq
  clear hq
  obtain ⟨w, e1, hq⟩ := arP_out rd_word h
  clear h
  subst e1
  have h := hq
  clear hq
  exact ⟨_, _, h, Nat.le_of_ble_eq_true (show Nat.ble 2 Try.f62.ntmps = true by kernel_rfl), _, run_impl_Closure_1_1 x w⟩

def c_slices_IndexFunc_Word__impl_Closure_1_1 : Fun := ⟨111, [], fun ts K => as2 ts fun t0 t1 => arC (pL .word) t0 fun xs => arF1 62 pWordT t1 fun g => chk (xs.length ≤ 2147483647) (K (tN (idxOf (fun x => decide (x.key = g.key)) xs)) [])⟩
theorem run_slices_IndexFunc_Word__impl_Closure_1_1 (xs : List (FT.Ty .word)) (g : Word) (hpre : xs.length ≤ 2147483647) : runK [c_impl_Closure_1_1] (xs.length + 1) [] pf_slices_IndexFunc_Word [tL false .word xs, .fn 62 [.ptr false 0 (g.tc [])]] fun r o => r = tN (idxOf (fun x => decide (x.key = g.key)) xs) ∧ o = [] := by
  conv => whnf
  refine loop (α := Nat) (fun i => ⟨[(0, .v (.c (.sl false .word 0))), (1, .fn 62 [.c (.ptr 1 0)]), (7, .v (.c (.int .i64 (xs.length : Int)))), (8, .v (.c (.int .i64 (i : Int))))], [(1, some (.box false [.int .i64 g.n, .bool g.is, .int .i64 g.key.base, .int .i64 g.key.top, .int .i64 g.key.perms, .int .i64 g.key.sealed])), (0, some (.flat false .word none xs))], nums.tail.tail, [], false, []⟩)
      (fun i => i ≤ xs.length ∧ idxOf (fun x => decide (x.key = g.key)) xs = idxGo (fun x => decide (x.key = g.key)) (xs.drop i) i) (fun i => xs.length - i) (fun i R hI hR => ?_) 0 _ ⟨by simp, rfl⟩ (by simp)
  obtain ⟨hi, hx⟩ := hI
  conv => whnf
  refine sel_i (fun h2 => ?_) (fun h2 => ?_)
  · have hlt : i < xs.length := by simp at h2; omega
    conv => whnf
    repeat (refine chk_i (by first | omega | (simp; omega)) ?_; conv => whnf)
    refine sel_i (fun h3 => ?_) (fun h3 => ?_)
    · conv => whnf
      rw [hx, idxGo_yes (z := FT.zero .word) hlt (by first | (simp only [keyEq] at h3; exact h3) | (simpa using h3))]
      exact ⟨rfl, rfl⟩
    · conv => whnf
      rw [wrap_id (n := (i : Int) + 1) (by omega) (by omega)]
      exact hR (i + 1) ⟨by omega, by rw [hx, idxGo_no (z := FT.zero .word) hlt (by first | (simp only [keyEq] at h3; exact h3) | (simpa using h3))]⟩ (by omega)
  · conv => whnf
    rw [hx, idxGo_end (by simp at h2; omega)]
    exact ⟨rfl, rfl⟩
theorem ok_slices_IndexFunc_Word__impl_Closure_1_1 : FunOk Try.prog c_slices_IndexFunc_Word__impl_Closure_1_1 := funOk (E := [c_impl_Closure_1_1]) (envOk_cons ok_impl_Closure_1_1 (envOk_nil)) mixd Try.func111 (pf := pf_slices_IndexFunc_Word) (by kernel_rfl) fun ts K h => by
  obtain ⟨t0, t1, e0, h⟩ := as2_out h
  subst e0
  obtain ⟨xs, e1, hq⟩ := arC_out (rd_l .word) h
  clear h
  subst e1
  have h := hq
  clear hq
  obtain ⟨g, e1, hq⟩ := arF1_out rd_word h
  clear h
  subst e1
  have h := hq
  clear hq
  obtain ⟨hpre, h⟩ := chk_o h
  exact ⟨_, _, h, Nat.le_of_ble_eq_true (show Nat.ble 2 Try.f111.ntmps = true by kernel_rfl), _, run_slices_IndexFunc_Word__impl_Closure_1_1 xs g hpre⟩

def c_slices_ContainsFunc_Word__impl_Closure_1_1 : Fun := ⟨61, [], fun ts K => as2 ts fun t0 t1 => arC (pL .word) t0 fun xs => arF1 62 pWordT t1 fun g => chk (xs.length ≤ 2147483647) (K (tB (xs.any (fun x => decide (x.key = g.key)))) [])⟩
theorem run_slices_ContainsFunc_Word__impl_Closure_1_1 (xs : List (FT.Ty .word)) (g : Word) (hpre : xs.length ≤ 2147483647) : runK [c_slices_IndexFunc_Word__impl_Closure_1_1, c_impl_Closure_1_1] (0) [] pf_slices_ContainsFunc_Word [tL false .word xs, .fn 62 [.ptr false 0 (g.tc [])]] fun r o => r = tB (xs.any (fun x => decide (x.key = g.key))) ∧ o = [] := by
  conv => whnf
  repeat' (first | (refine sel_i (fun h => ?_) (fun h => ?_) <;> conv => whnf) | (refine chk_c ?_ ?_ <;> conv => whnf) | (refine And.intro ?_ rfl) | (refine And.intro ?_ ?_ <;> conv => whnf))
  all_goals first | (refine ⟨?_⟩; exact hpre) | exact hpre | (rw [← idxOf_any]; rfl) | (rw [← idxOf_any])
theorem ok_slices_ContainsFunc_Word__impl_Closure_1_1 : FunOk Try.prog c_slices_ContainsFunc_Word__impl_Closure_1_1 := funOk (E := [c_slices_IndexFunc_Word__impl_Closure_1_1, c_impl_Closure_1_1]) (envOk_cons ok_slices_IndexFunc_Word__impl_Closure_1_1 (envOk_cons ok_impl_Closure_1_1 (envOk_nil))) mixd Try.func61 (pf := pf_slices_ContainsFunc_Word) (by kernel_rfl) fun ts K h => by
  obtain ⟨t0, t1, e0, h⟩ := as2_out h
  subst e0
  obtain ⟨xs, e1, hq⟩ := arC_out (rd_l .word) h
  clear h
  subst e1
  have h := hq
  clear hq
  obtain ⟨g, e1, hq⟩ := arF1_out rd_word h
  clear h
  subst e1
  have h := hq
  clear hq
  obtain ⟨hpre, h⟩ := chk_o h
  exact ⟨_, _, h, Nat.le_of_ble_eq_true (show Nat.ble 2 Try.f61.ntmps = true by kernel_rfl), _, run_slices_ContainsFunc_Word__impl_Closure_1_1 xs g hpre⟩

def lb_spec_Closure_0 : PC := .seq (.seq (.reg [.s (.mv 16 (.t 6)), .s (.mv 17 (.t 1)), .s (.len 18 false (.t 17)), .s (.bin 19 .lss (.t 16) (.t 18))]) (.cond (.t 19) (.skip) (.exit 0))) (.seq (.blk 1 (.seq (.reg [.s (.mv 22 (.t 1)), .s (.mv 23 (.t 6)), .s (.ia 24 .word (.t 22) (.t 23)), .s (.load 25 true 6 (.t 24)), .s (.call (some 26) 53 [(.t 25)]), .s (.mv 27 (.t 26)), .g 27 true (some 28) (.mv 28 (.t 1)), .g 27 true (some 29) (.mv 29 (.t 6)), .g 27 true (some 30) (.ia 30 .word (.t 28) (.t 29)), .g 27 true (some 31) (.fa 31 (.t 30) 1), .g 27 true (some 32) (.load 32 false 1 (.t 31)), .s (.pick 33 (.t 27) (.t 32) (.k (.v (.c .ff)))), .s (.mv 34 (.t 33)), .g 34 true (some 35) (.mv 35 (.t 5)), .g 34 true (some 36) (.mv 36 (.t 1)), .g 34 true (some 37) (.mv 37 (.t 6)), .g 34 true (some 38) (.ia 38 .word (.t 36) (.t 37)), .g 34 true (some 39) (.fa 39 (.t 38) 2), .g 34 true (some 40) (.load 40 true 4 (.t 39)), .g 34 true (some 41) (.call (some 41) 54 [(.t 35), (.t 40)]), .g 34 true (some 42) (.bnot 42 (.t 41)), .s (.pick 43 (.t 34) (.t 42) (.k (.v (.c .ff))))]) (.cond (.t 43) (.reg [.s (.mv 44 (.t 5)), .s (.mv 45 (.t 1)), .s (.mv 46 (.t 6)), .s (.ia 47 .word (.t 45) (.t 46)), .s (.load 48 true 6 (.t 47)), .s (.bs 49 .word [(.t 48)]), .s (.app 50 .word (.t 44) (.t 49)), .s (.mv 5 (.t 50))]) (.skip)))) (.reg [.s (.mv 20 (.t 6)), .s (.bin 21 .add (.t 20) (.k (.v (.c (.int .i64 1))))), .s (.mv 6 (.t 21))]))
def lb_spec_Closure_1 : PC := .seq (.seq (.reg [.s (.mv 74 (.t 9)), .s (.fa 75 (.t 8) 1), .s (.load 76 false 1 (.t 75)), .s (.call (some 77) 55 [(.t 76), (.k (.v (.c (.int .i64 24))))]), .s (.bin 78 .lss (.t 74) (.t 77))]) (.cond (.t 78) (.skip) (.exit 4))) (.seq (.blk 5 (.seq (.reg [.s (.fa 81 (.t 2) 0), .s (.load 82 false 1 (.t 81)), .s (.mv 83 (.t 9)), .s (.ia 84 .word (.t 82) (.t 83)), .s (.load 85 true 6 (.t 84)), .s (.alloc 10 [.int .i64 0, .ff, .int .i64 0, .int .i64 0, .int .i64 0, .int .i64 0]), .s (.store 6 (.t 10) (.t 85))]) (.seq (.reg [.s (.fa 86 (.t 10) 1), .s (.load 87 false 1 (.t 86)), .s (.mv 88 (.t 87)), .g 88 true (some 89) (.mv 89 (.t 5)), .g 88 true (some 90) (.fa 90 (.t 10) 2), .g 88 true (some 91) (.load 91 true 4 (.t 90)), .g 88 true (some 92) (.call (some 92) 54 [(.t 89), (.t 91)]), .g 88 true (some 93) (.bnot 93 (.t 92)), .s (.pick 94 (.t 88) (.t 93) (.k (.v (.c .ff))))]) (.cond (.t 94) (.reg [.s (.mv 95 (.t 5)), .s (.load 96 true 6 (.t 10)), .s (.bs 97 .word [(.t 96)]), .s (.app 98 .word (.t 95) (.t 97)), .s (.mv 5 (.t 98))]) (.skip))))) (.reg [.s (.mv 79 (.t 9)), .s (.bin 80 .add (.t 79) (.k (.v (.c (.int .i64 1))))), .s (.mv 9 (.t 80))]))
def lb_spec_Closure_2 : PC := .seq (.seq (.reg [.s (.mv 51 (.t 7)), .s (.mv 52 (.t 5)), .s (.len 53 false (.t 52)), .s (.bin 54 .lss (.t 51) (.t 53))]) (.cond (.t 54) (.skip) (.exit 2))) (.seq (.blk 3 (.seq (.reg [.s (.mv 57 (.t 5)), .s (.mv 58 (.t 7)), .s (.ia 59 .word (.t 57) (.t 58)), .s (.fa 60 (.t 59) 2), .s (.load 61 true 4 (.t 60)), .s (.alloc 8 [.int .i64 0, .int .i64 0, .int .i64 0, .int .i64 0]), .s (.store 4 (.t 8) (.t 61))]) (.seq (.seq (.reg [.s (.fa 62 (.t 8) 2), .s (.load 63 false 1 (.t 62)), .s (.bin 64 .and (.t 63) (.k (.v (.c (.int .i64 1))))), .s (.bin 65 .eql (.t 64) (.k (.v (.c (.int .i64 0))))), .s (.mv 66 (.t 65)), .g 66 false (some 67) (.fa 67 (.t 8) 2), .g 66 false (some 68) (.load 68 false 1 (.t 67)), .g 66 false (some 69) (.bin 69 .and (.t 68) (.k (.v (.c (.int .i64 8))))), .g 66 false (some 70) (.bin 70 .eql (.t 69) (.k (.v (.c (.int .i64 0))))), .s (.pick 71 (.t 66) (.k (.v (.c .tt))) (.t 70))]) (.cond (.t 71) (.exit 3) (.skip))) (.seq (.reg [.s (.fa 72 (.t 8) 0), .s (.load 73 false 1 (.t 72)), .s (.mv 9 (.t 73))]) (.blk 4 (.loop [2, 5, 7, 8, 9] lb_spec_Closure_1)))))) (.reg [.s (.mv 55 (.t 7)), .s (.bin 56 .add (.t 55) (.k (.v (.c (.int .i64 1))))), .s (.mv 7 (.t 56))]))
def pf_spec_Closure : PF := ⟨[.t 4], .seq (.reg [.s (.box 2 (.t 0)), .s (.mv 4 (.k (.v (.c (.nils .word)))))]) (.seq (.reg [.s (.bs 11 .word []), .s (.mv 5 (.t 11))]) (.seq (.seq (.reg [.s (.load 12 true 2 (.t 2)), .s (.call (some 13) 52 [(.t 12)]), .s (.bnot 14 (.t 13))]) (.cond (.t 14) (.seq (.reg [.s (.mv 15 (.t 5)), .s (.mv 4 (.t 15))]) (.ret)) (.skip))) (.seq (.seq (.reg [.s (.mv 6 (.k (.v (.c (.int .i64 0)))))]) (.blk 0 (.loop [1, 2, 5, 6] lb_spec_Closure_0))) (.seq (.seq (.reg [.s (.mv 7 (.k (.v (.c (.int .i64 0)))))]) (.blk 2 (.loop [2, 5, 7] lb_spec_Closure_2))) (.seq (.reg [.s (.mv 99 (.t 5)), .s (.mv 4 (.t 99))]) (.ret))))))⟩
def c_spec_Closure : Fun := ⟨14, [], fun ts K => as2 ts fun t0 t1 => arG pMemT t0 fun m => arC (pL .word) t1 fun l => chk (LMem m 2147483647 ∧ l.length ≤ 1048576) (K (tL true .word (closure m l)) [])⟩
theorem run_spec_Closure (m : Mem) (l : List (FT.Ty .word)) (hpre : LMem m 2147483647 ∧ l.length ≤ 1048576) : runK [c_spec_MemoryOk, c_spec_WordOk, c_spec_l21Has, c_spec_l1Min] (l.length + 30) [] pf_spec_Closure [tG (m.tc false []), tL false .word l] fun r o => r = tL true .word (closure m l) ∧ o = [] := by
  obtain ⟨⟨l1, l2⟩, l3⟩ := hpre
  conv => whnf
  refine sel_i (fun h => ?_) (fun h => ?_)
  · conv => whnf
    repeat' (first | (refine sel_i (fun h => ?_) (fun h => ?_) <;> conv => whnf) | (refine chk_c ?_ ?_ <;> conv => whnf) | (refine And.intro ?_ rfl) | (refine And.intro ?_ ?_ <;> conv => whnf))
    simp only [etaMemory, Bool.not_eq_true'] at h
    simp only [closure, h]; rfl
  have hm : memoryOk m = true := by simpa using h
  clear h
  obtain ⟨m1, m2, m3⟩ := memoryOk_n hm
  rw [show closure m l = closGo m.words (l.length + 24) 0 (closFirst l) by simp only [closure, hm, if_true]]
  conv => whnf
  refine loop (α := Nat × List Word) (fun p => ⟨[(1, .v (.c (.sl false .word 0))), (2, .v (.c (.ptr 1 0))), (5, .v (.c (.sl true .word 4))), (6, .v (.c (.int .i64 (p.1 : Int))))],
        [(4, some (.flat true .word none p.2)), (3, some (.flat false .bool none m.gone)), (2, some (.flat false .word none m.words)), (1, some (.box true [.sl false .word 2, .sl false .bool 3])), (0, some (.flat false .word none l))], nums.tail.tail.tail.tail.tail, [], false, []⟩)
      (fun p => p.1 ≤ l.length ∧ p.2 = (l.take p.1).foldl putW [] ∧ p.2.length ≤ p.1 ∧ WOut p.2) (fun p => l.length - p.1) (fun p R hI hR => ?_) (0, []) _ ⟨by simp, by simp, by simp, by simp [WOut]⟩ (by simp)
  obtain ⟨i, out⟩ := p
  obtain ⟨hi, hx, hl, hw⟩ := hI
  dsimp only at hi hx hl hw
  dsimp only
  conv => whnf
  refine sel_i (fun h => ?_) (fun h => ?_)
  · have hlt : i < l.length := by simp at h; omega
    clear h
    have hstep : (l.take (i + 1)).foldl putW [] = putW out (l.getD i (FT.zero .word)) := by rw [foldl_take _ _ (FT.zero .word) hlt, hx]
    have hlen := putW_len out (l.getD i (FT.zero .word))
    have hout := putW_out (w := l.getD i (FT.zero .word)) hw
    conv => whnf
    repeat' (first | (refine sel_i (fun h => ?_) (fun h => ?_) <;> conv => whnf) | (refine chk_c ?_ ?_ <;> conv => whnf) | (refine And.intro ?_ rfl) | (refine And.intro ?_ ?_ <;> conv => whnf))
    all_goals simp only [etaKey, etaWord, Int.toNat_natCast, Bool.not_eq_true', Bool.not_eq_false'] at *
    all_goals first
      | (refine ⟨?_⟩; omega)
      | (refine ⟨?_⟩; simp; omega)
      | (rw [wrap_id (n := (i : Int) + 1) (by omega) (by omega)]
         exact hR (i + 1, _) ⟨by omega, by rw [hstep]; first | exact (putW_yes (by assumption) (by assumption) (by assumption)).symm | exact (putW_has (by assumption)).symm | exact (putW_is (by assumption)).symm | exact (putW_ok (by assumption)).symm, by simp; omega, by first | (rw [← putW_yes (by assumption) (by assumption) (by assumption)]; exact hout) | exact hw⟩ (by simp; omega))
      | trace_state
  · have hge : i = l.length := by simp at h; omega
    clear h hR
    subst hge
    rw [List.take_of_length_le (Nat.le_refl _)] at hx
    conv => whnf
    refine loop (α := Nat × List Word) (fun p => ⟨[(2, .v (.c (.ptr 0 0))), (5, .v (.c (.sl true .word 3))), (7, .v (.c (.int .i64 (p.1 : Int))))],
          [(3, some (.flat true .word none p.2)), (2, some (.flat false .bool none m.gone)), (1, some (.flat false .word none m.words)), (0, some (.box true [.sl false .word 1, .sl false .bool 2]))], nums.tail.tail.tail.tail, [], false, []⟩)
        (fun p => p.1 ≤ p.2.length ∧ closGo m.words (l.length + 24 - p.1) p.1 p.2 = closGo m.words (l.length + 24) 0 (closFirst l) ∧ p.2.length + missing m.words p.2 ≤ l.length + 24 ∧ WOut p.2) (fun p => l.length + 24 - p.1) (fun p R hI hR => ?_) (0, out) _
        ⟨by simp, by rw [hx]; rfl, by have := missing_le m.words out; dsimp only; omega, hw⟩ (by simp)
    clear hx hl hw
    obtain ⟨i, out⟩ := p
    obtain ⟨hi, hx, hl, hw⟩ := hI
    dsimp only at hi hx hl hw
    dsimp only
    conv => whnf
    refine sel_i (fun h => ?_) (fun h => ?_)
    · have hlt : i < out.length := by simp at h; omega
      clear h
      obtain ⟨b1, b2, b3⟩ := wout_bounds hw hlt
      rw [show l.length + 24 - i = (l.length + 24 - (i + 1)) + 1 by omega, closGo_step hlt] at hx
      conv => whnf
      repeat' (first | (refine sel_i (fun h => ?_) (fun h => ?_) <;> conv => whnf) | (refine chk_c ?_ ?_ <;> conv => whnf) | (refine And.intro ?_ rfl) | (refine And.intro ?_ ?_ <;> conv => whnf))
      all_goals simp only [andI_eq, Int.toNat_natCast] at *
      all_goals generalize hk : (out.getD i (FT.zero .word)).key = k at *
      all_goals try (refine ⟨?_⟩; first | omega | (simp; omega))
      · rw [wrap_id (n := (i : Int) + 1) (by omega) (by omega)]
        exact hR (i + 1, out) ⟨hlt, by rw [closStep_no (by simp [opens, *])] at hx; exact hx, hl, hw⟩ (by simp; omega)
      · rw [wrap_id (n := (i : Int) + 1) (by omega) (by omega)]
        exact hR (i + 1, out) ⟨hlt, by rw [closStep_no (by simp [opens, *])] at hx; exact hx, hl, hw⟩ (by simp; omega)
      have ho : opens k = true := by simp only [opens, *]; rfl
      refine loop (α := Int × List Word) (fun p => ⟨[(2, .v (.c (.ptr 0 0))), (5, .v (.c (.sl true .word 3))), (7, .v (.c (.int .i64 (i : Int)))), (8, .v (.c (.ptr 4 0))), (9, .v (.c (.int .i64 p.1)))],
            [(4, some (.box true [.int .i64 k.base, .int .i64 k.top, .int .i64 k.perms, .int .i64 k.sealed])), (3, some (.flat true .word none p.2)), (2, some (.flat false .bool none m.gone)), (1, some (.flat false .word none m.words)), (0, some (.box true [.sl false .word 1, .sl false .bool 2]))], nums.tail.tail.tail.tail.tail, [], false, []⟩)
          (fun p => 0 ≤ p.1 ∧ scan m.words (min k.top 24 - p.1).toNat p.1.toNat p.2 = closStep m.words out k ∧ p.2.length + missing m.words p.2 ≤ l.length + 24 ∧ WOut p.2 ∧ out.length ≤ p.2.length) (fun p => (min k.top 24 - p.1).toNat) (fun p R2 hI2 hR2 => ?_) (k.base, out) _
          ⟨b1, by rw [closStep_yes ho], hl, hw, Nat.le_refl _⟩ (by dsimp only; omega)
      obtain ⟨c, out2⟩ := p
      obtain ⟨gc, gx, gl, gw, gm⟩ := hI2
      dsimp only at gc gx gl gw gm
      dsimp only
      conv => whnf
      refine sel_i (fun h => ?_) (fun h => ?_)
      · have hc : c < min k.top 24 := by simpa using h
        clear h
        rw [show (min k.top 24 - c).toNat = (min k.top 24 - (c + 1)).toNat + 1 by omega, scan, show c.toNat + 1 = (c + 1).toNat by omega] at gx
        have hmem := getD_mem (ws := m.words) (c := c.toNat) (by omega)
        have hok := m3 _ hmem
        have hp := missing_put (out := out2) hmem
        have hpo := putW_out (w := m.words.getD c.toNat (FT.zero .word)) gw
        have hpl := putW_len out2 (m.words.getD c.toNat (FT.zero .word))
        conv => whnf
        repeat' (first | (refine sel_i (fun h => ?_) (fun h => ?_) <;> conv => whnf) | (refine chk_c ?_ ?_ <;> conv => whnf) | (refine And.intro ?_ rfl) | (refine And.intro ?_ ?_ <;> conv => whnf))
        all_goals simp only [etaKey, etaWord, Bool.not_eq_true', Bool.not_eq_false'] at *
        all_goals generalize m.words.getD c.toNat (FT.zero .word) = w at *
        all_goals first
          | (refine ⟨?_⟩; omega)
          | (refine ⟨?_⟩; simp; omega)
          | skip
        all_goals rw [wrap_id (n := c + 1) (by omega) (by omega)]
        · have e := putW_yes (out := out2) hok (by assumption) (by assumption)
          rw [e] at hp hpo hpl gx
          exact hR2 (c + 1, _) ⟨by dsimp only; omega, gx, by dsimp only; omega, hpo, by dsimp only; omega⟩ (by dsimp only; omega)
        · rw [putW_has (by assumption)] at gx
          exact hR2 (c + 1, _) ⟨by dsimp only; omega, gx, gl, gw, gm⟩ (by dsimp only; omega)
        · rw [putW_is (by assumption)] at gx
          exact hR2 (c + 1, _) ⟨by dsimp only; omega, gx, gl, gw, gm⟩ (by dsimp only; omega)
      · have hc : min k.top 24 ≤ c := by simp at h; omega
        rw [show (min k.top 24 - c).toNat = 0 by omega, scan] at gx
        conv => whnf
        rw [wrap_id (n := (i : Int) + 1) (by omega) (by omega)]
        exact hR (i + 1, out2) ⟨by dsimp only; omega, by rw [gx]; exact hx, gl, gw⟩ (by simp; omega)
    · have hge : out.length ≤ i := by simp at h; omega
      rw [closGo_end hge] at hx
      rw [← hx]
      conv => whnf
      exact ⟨rfl, rfl⟩
theorem ok_spec_Closure : FunOk Try.prog c_spec_Closure := funOk (E := [c_spec_MemoryOk, c_spec_WordOk, c_spec_l21Has, c_spec_l1Min]) (envOk_cons ok_spec_MemoryOk (envOk_cons ok_spec_WordOk (envOk_cons ok_spec_l21Has (envOk_cons ok_spec_l1Min (envOk_nil))))) mixd Try.func14 (pf := pf_spec_Closure) (by kernel_rfl) fun ts K h => by
  obtain ⟨t0, t1, e0, h⟩ := as2_out h
  subst e0
  obtain ⟨m, e1, hq⟩ := arG_out rd_mem h
  clear h
  subst e1
  have h := hq
  clear hq
  obtain ⟨l, e1, hq⟩ := arC_out (rd_l .word) h
  clear h
  subst e1
  have h := hq
  clear hq
  obtain ⟨hpre, h⟩ := chk_o h
  exact ⟨_, _, h, Nat.le_of_ble_eq_true (show Nat.ble 2 Try.f14.ntmps = true by kernel_rfl), _, run_spec_Closure m l hpre⟩

def pf_impl_Closure_1 : PF := ⟨[], .seq (.reg [.s (.box 2 (.t 0))]) (.seq (.reg [.s (.fa 3 (.t 2) 1), .s (.load 4 false 1 (.t 3)), .s (.mv 5 (.t 4)), .g 5 true (some 6) (.load 6 true 6 (.t 2)), .g 5 true (some 7) (.call (some 7) 60 [(.t 6)]), .s (.pick 8 (.t 5) (.t 7) (.k (.v (.c .ff)))), .s (.mv 9 (.t 8)), .g 9 true (some 10) (.load 10 false 1 (.t 1)), .g 9 true (some 11) (.mkf 11 62 [(.t 2)]), .g 9 true (some 12) (.call (some 12) 61 [(.t 10), (.t 11)]), .g 9 true (some 13) (.bnot 13 (.t 12)), .s (.pick 14 (.t 9) (.t 13) (.k (.v (.c .ff))))]) (.cond (.t 14) (.reg [.s (.load 15 false 1 (.t 1)), .s (.load 16 true 6 (.t 2)), .s (.bs 17 .word [(.t 16)]), .s (.app 18 .word (.t 15) (.t 17)), .s (.store 1 (.t 1) (.t 18))]) (.skip)))⟩
def c_impl_Closure_1 : Fun := ⟨59, [false, true], fun ts K => as2 ts fun t0 t1 => arG pWordT t0 fun w => arQ (pO .word) t1 fun out => chk (out.length ≤ 2147483646) (K (.tup []) ([.v (.ptr true 0 [tl true .word (putW out w)])]))⟩
theorem run_impl_Closure_1 (w : Word) (out : List (FT.Ty .word)) (hpre : out.length ≤ 2147483646) : runK [c_impl_WordOk, c_slices_ContainsFunc_Word__impl_Closure_1_1, c_impl_Closure_1_1] (0) [false, true] pf_impl_Closure_1 [tG (w.tc []), .v (.ptr true 0 [tl true .word out])] fun r o => r = .tup [] ∧ o = [.v (.ptr true 0 [tl true .word (putW out w)])] := by
  conv => whnf
  repeat' (first | (refine sel_i (fun h => ?_) (fun h => ?_) <;> conv => whnf) | (refine chk_c ?_ ?_ <;> conv => whnf) | (refine And.intro ?_ rfl) | (refine And.intro ?_ ?_ <;> conv => whnf))
  all_goals (try simp only [etaKey, etaWord, Bool.not_eq_true', Bool.not_eq_false'] at *)
  all_goals first
    | (refine ⟨?_⟩; show out.length ≤ 2147483647; omega)
    | (refine ⟨?_⟩; show out.length + 1 ≤ 2147483647; omega)
    | (rw [putW_has (by assumption)]; done)
    | (rw [putW_is (by assumption)]; done)
    | (rw [putW_ok (by assumption)]; done)
    | (rw [putW_yes (by assumption) (by assumption) (by assumption)]; done)
    | trace_state
theorem ok_impl_Closure_1 : FunOk Try.prog c_impl_Closure_1 := funOk (E := [c_impl_WordOk, c_slices_ContainsFunc_Word__impl_Closure_1_1, c_impl_Closure_1_1]) (envOk_cons ok_impl_WordOk (envOk_cons ok_slices_ContainsFunc_Word__impl_Closure_1_1 (envOk_cons ok_impl_Closure_1_1 (envOk_nil)))) mixd Try.func59 (pf := pf_impl_Closure_1) (by kernel_rfl) fun ts K h => by
  obtain ⟨t0, t1, e0, h⟩ := as2_out h
  subst e0
  obtain ⟨w, e1, hq⟩ := arG_out rd_word h
  clear h
  subst e1
  have h := hq
  clear hq
  obtain ⟨out, e1, hq⟩ := arQ_out (rd_o .word) h
  clear h
  subst e1
  have h := hq
  clear hq
  obtain ⟨hpre, h⟩ := chk_o h
  exact ⟨_, _, h, Nat.le_of_ble_eq_true (show Nat.ble 2 Try.f59.ntmps = true by kernel_rfl), _, run_impl_Closure_1 w out hpre⟩

def lb_impl_Closure_0 : PC := .seq (.reg [.s (.bin 22 .lss (.t 21) (.t 20))]) (.seq (.cond (.t 22) (.skip) (.exit 0)) (.seq (.blk 1 (.seq (.reg [.s (.ia 23 .word (.t 19) (.t 21)), .s (.load 24 true 6 (.t 23)), .s (.alloc 8 [.int .i64 0, .ff, .int .i64 0, .int .i64 0, .int .i64 0, .int .i64 0]), .s (.store 6 (.t 8) (.t 24))]) (.reg [.s (.mv 25 (.t 6)), .s (.load 26 true 6 (.t 8)), .s (.callv (some 27) (.t 25) [(.t 26)])]))) (.reg [.s (.bin 28 .add (.t 21) (.k (.v (.c (.int .i64 1))))), .s (.mv 21 (.t 28))])))
def lb_impl_Closure_1 : PC := .seq (.seq (.reg [.s (.mv 56 (.t 13)), .s (.mv 57 (.t 12)), .s (.bin 58 .lss (.t 56) (.t 57))]) (.cond (.t 58) (.skip) (.exit 4))) (.seq (.blk 5 (.reg [.s (.mv 61 (.t 6)), .s (.fa 62 (.t 2) 0), .s (.load 63 false 1 (.t 62)), .s (.mv 64 (.t 13)), .s (.ia 65 .word (.t 63) (.t 64)), .s (.load 66 true 6 (.t 65)), .s (.callv (some 67) (.t 61) [(.t 66)])])) (.reg [.s (.mv 59 (.t 13)), .s (.bin 60 .add (.t 59) (.k (.v (.c (.int .i64 1))))), .s (.mv 13 (.t 60))]))
def lb_impl_Closure_2 : PC := .seq (.seq (.reg [.s (.mv 29 (.t 9)), .s (.load 30 false 1 (.t 5)), .s (.len 31 false (.t 30)), .s (.bin 32 .lss (.t 29) (.t 31))]) (.cond (.t 32) (.skip) (.exit 2))) (.seq (.blk 3 (.seq (.reg [.s (.load 35 false 1 (.t 5)), .s (.mv 36 (.t 9)), .s (.ia 37 .word (.t 35) (.t 36)), .s (.fa 38 (.t 37) 2), .s (.load 39 true 4 (.t 38)), .s (.alloc 10 [.int .i64 0, .int .i64 0, .int .i64 0, .int .i64 0]), .s (.store 4 (.t 10) (.t 39))]) (.seq (.seq (.reg [.s (.fa 40 (.t 10) 2), .s (.load 41 false 1 (.t 40)), .s (.bin 42 .and (.t 41) (.k (.v (.c (.int .i64 1))))), .s (.bin 43 .eql (.t 42) (.k (.v (.c (.int .i64 0))))), .s (.mv 44 (.t 43)), .g 44 false (some 45) (.fa 45 (.t 10) 2), .g 44 false (some 46) (.load 46 false 1 (.t 45)), .g 44 false (some 47) (.bin 47 .and (.t 46) (.k (.v (.c (.int .i64 8))))), .g 44 false (some 48) (.bin 48 .eql (.t 47) (.k (.v (.c (.int .i64 0))))), .s (.pick 49 (.t 44) (.k (.v (.c .tt))) (.t 48))]) (.cond (.t 49) (.exit 3) (.skip))) (.seq (.reg [.s (.load 51 true 4 (.t 10)), .s (.call (some 52) 63 [(.t 51)]), .s (.mv 50 (.t 52)), .s (.ext 53 (.t 50) 0), .s (.ext 54 (.t 50) 1), .s (.mv 11 (.t 53)), .s (.mv 12 (.t 54))]) (.seq (.reg [.s (.mv 55 (.t 11)), .s (.mv 13 (.t 55))]) (.blk 4 (.loop [2, 5, 6, 9, 12, 13] lb_impl_Closure_1))))))) (.reg [.s (.mv 33 (.t 9)), .s (.bin 34 .add (.t 33) (.k (.v (.c (.int .i64 1))))), .s (.mv 9 (.t 34))]))
def pf_impl_Closure : PF := ⟨[.t 4], .seq (.reg [.s (.box 2 (.t 0)), .s (.mv 4 (.k (.v (.c (.nils .word)))))]) (.seq (.seq (.reg [.s (.load 14 true 2 (.t 2)), .s (.call (some 15) 58 [(.t 14)]), .s (.bnot 16 (.t 15))]) (.cond (.t 16) (.seq (.reg [.s (.mv 4 (.k (.v (.c (.nils .word)))))]) (.ret)) (.skip))) (.seq (.reg [.s (.bs 17 .word []), .s (.alloc 5 [.nils .word]), .s (.store 1 (.t 5) (.t 17))]) (.seq (.reg [.s (.mkf 18 59 [(.t 5)]), .s (.mv 6 (.t 18))]) (.seq (.seq (.reg [.s (.mv 19 (.t 1)), .s (.len 20 false (.t 19)), .s (.mv 21 (.k (.v (.c (.int .i64 0)))))]) (.blk 0 (.loop [2, 5, 6, 19, 20, 21] lb_impl_Closure_0))) (.seq (.seq (.reg [.s (.mv 9 (.k (.v (.c (.int .i64 0)))))]) (.blk 2 (.loop [2, 5, 6, 9] lb_impl_Closure_2))) (.seq (.reg [.s (.load 68 false 1 (.t 5)), .s (.mv 4 (.t 68))]) (.ret)))))))⟩
def c_impl_Closure : Fun := ⟨17, [], fun ts K => as2 ts fun t0 t1 => arG pMemT t0 fun m => arC (pL .word) t1 fun l => chk (LMem m 2147483647 ∧ l.length ≤ 1048576) (K (tL true .word (closure m l)) [])⟩
theorem run_impl_Closure (m : Mem) (l : List (FT.Ty .word)) (hpre : LMem m 2147483647 ∧ l.length ≤ 1048576) : runK [c_impl_MemoryOk, c_impl_Closure_1, c_impl_spanned] (l.length + 30) [] pf_impl_Closure [tG (m.tc false []), tL false .word l] fun r o => r = tL true .word (closure m l) ∧ o = [] := by
  obtain ⟨⟨l1, l2⟩, l3⟩ := hpre
  conv => whnf
  refine chk_i ⟨l1, l2⟩ ?_
  conv => whnf
  refine sel_i (fun h => ?_) (fun h => ?_)
  · conv => whnf
    repeat' (first | (refine sel_i (fun h => ?_) (fun h => ?_) <;> conv => whnf) | (refine chk_c ?_ ?_ <;> conv => whnf) | (refine And.intro ?_ rfl) | (refine And.intro ?_ ?_ <;> conv => whnf))
    simp only [etaMemory, Bool.not_eq_true'] at h
    simp only [closure, h]; rfl
  have hm : memoryOk m = true := by simpa using h
  clear h
  obtain ⟨m1, m2, m3⟩ := memoryOk_n hm
  rw [show closure m l = closGo m.words (l.length + 24) 0 (closFirst l) by simp only [closure, hm, if_true]]
  conv => whnf
  refine loop (α := Nat × List Word × Bool) (fun p => ⟨[(2, .v (.c (.ptr 0 0))), (5, .v (.c (.ptr 3 0))), (6, .fn 59 [.c (.ptr 3 0)]), (19, .v (.c (.sl false .word 5))), (20, .v (.c (.int .i64 (l.length : Int)))), (21, .v (.c (.int .i64 (p.1 : Int))))],
        [(5, some (.flat false .word none l)), (4, some (.flat true .word none p.2.1)), (3, some (.box true [.sl p.2.2 .word 4])), (2, some (.flat false .bool none m.gone)), (1, some (.flat false .word none m.words)), (0, some (.box true [.sl false .word 1, .sl false .bool 2]))], nums.tail.tail.tail.tail.tail.tail, [], false, []⟩)
      (fun p => p.1 ≤ l.length ∧ p.2.1 = (l.take p.1).foldl putW [] ∧ p.2.1.length ≤ p.1 ∧ WOut p.2.1) (fun p => l.length - p.1) (fun p R hI hR => ?_) (0, [], true) _ ⟨by simp, by simp, by simp, by simp [WOut]⟩ (by simp)
  obtain ⟨i, out, b⟩ := p
  obtain ⟨hi, hx, hl, hw⟩ := hI
  dsimp only at hi hx hl hw
  dsimp only
  conv => whnf
  refine sel_i (fun h => ?_) (fun h => ?_)
  · have hlt : i < l.length := by simp at h; omega
    clear h
    have hstep : (l.take (i + 1)).foldl putW [] = putW out (l.getD i (FT.zero .word)) := by rw [foldl_take _ _ (FT.zero .word) hlt, hx]
    have hlen := putW_len out (l.getD i (FT.zero .word))
    have hout := putW_out (w := l.getD i (FT.zero .word)) hw
    conv => whnf
    repeat' (first | (refine sel_i (fun h => ?_) (fun h => ?_) <;> conv => whnf) | (refine chk_c ?_ ?_ <;> conv => whnf) | (refine And.intro ?_ rfl) | (refine And.intro ?_ ?_ <;> conv => whnf))
    all_goals (try simp only [etaKey, etaWord, Int.toNat_natCast] at *)
    all_goals first
      | (refine ⟨?_⟩; omega)
      | (refine ⟨?_⟩; simp; omega)
      | (rw [wrap_id (n := (i : Int) + 1) (by omega) (by omega)]
         exact hR (i + 1, putW out (l.getD i (FT.zero .word)), false) ⟨by dsimp only; omega, hstep.symm, by dsimp only; omega, hout⟩ (by dsimp only; omega))
      | trace_state
  · have hge : i = l.length := by simp at h; omega
    clear h hR
    subst hge
    rw [List.take_of_length_le (Nat.le_refl _)] at hx
    conv => whnf
    refine loop (α := Nat × List Word × Bool) (fun p => ⟨[(2, .v (.c (.ptr 0 0))), (5, .v (.c (.ptr 3 0))), (6, .fn 59 [.c (.ptr 3 0)]), (9, .v (.c (.int .i64 (p.1 : Int))))],
          [(4, some (.flat true .word none p.2.1)), (3, some (.box true [.sl p.2.2 .word 4])), (2, some (.flat false .bool none m.gone)), (1, some (.flat false .word none m.words)), (0, some (.box true [.sl false .word 1, .sl false .bool 2]))], nums.tail.tail.tail.tail.tail, [], false, []⟩)
        (fun p => p.1 ≤ p.2.1.length ∧ closGo m.words (l.length + 24 - p.1) p.1 p.2.1 = closGo m.words (l.length + 24) 0 (closFirst l) ∧ p.2.1.length + missing m.words p.2.1 ≤ l.length + 24 ∧ WOut p.2.1) (fun p => l.length + 24 - p.1) (fun p R hI hR => ?_) (0, out, b) _
        ⟨by simp, by rw [hx]; rfl, by have := missing_le m.words out; dsimp only; omega, hw⟩ (by simp)
    clear hx hl hw
    obtain ⟨i, out, b⟩ := p
    obtain ⟨hi, hx, hl, hw⟩ := hI
    dsimp only at hi hx hl hw
    dsimp only
    conv => whnf
    refine sel_i (fun h => ?_) (fun h => ?_)
    · have hlt : i < out.length := by simp at h; omega
      clear h
      obtain ⟨b1, b2, b3⟩ := wout_bounds hw hlt
      rw [show l.length + 24 - i = (l.length + 24 - (i + 1)) + 1 by omega, closGo_step hlt] at hx
      conv => whnf
      repeat' (first | (refine sel_i (fun h => ?_) (fun h => ?_) <;> conv => whnf) | (refine chk_c ?_ ?_ <;> conv => whnf) | (refine And.intro ?_ rfl) | (refine And.intro ?_ ?_ <;> conv => whnf))
      all_goals simp only [andI_eq, Int.toNat_natCast] at *
      all_goals generalize hk : (out.getD i (FT.zero .word)).key = k at *
      all_goals try (refine ⟨?_⟩; first | omega | (simp; omega))
      · rw [wrap_id (n := (i : Int) + 1) (by omega) (by omega)]
        exact hR (i + 1, out, b) ⟨hlt, by rw [closStep_no (by simp [opens, *])] at hx; exact hx, hl, hw⟩ (by simp; omega)
      · rw [wrap_id (n := (i : Int) + 1) (by omega) (by omega)]
        exact hR (i + 1, out, b) ⟨hlt, by rw [closStep_no (by simp [opens, *])] at hx; exact hx, hl, hw⟩ (by simp; omega)
      have ho : opens k = true := by simp only [opens, *]; rfl
      refine loop (α := Int × List Word × Bool) (fun p => ⟨[(2, .v (.c (.ptr 0 0))), (5, .v (.c (.ptr 3 0))), (6, .fn 59 [.c (.ptr 3 0)]), (9, .v (.c (.int .i64 (i : Int)))), (12, .v (.c (.int .i64 (min k.top 24)))), (13, .v (.c (.int .i64 p.1)))],
            [(4, some (.flat true .word none p.2.1)), (3, some (.box true [.sl p.2.2 .word 4])), (2, some (.flat false .bool none m.gone)), (1, some (.flat false .word none m.words)), (0, some (.box true [.sl false .word 1, .sl false .bool 2]))], nums.tail.tail.tail.tail.tail, [], false, []⟩)
          (fun p => 0 ≤ p.1 ∧ scan m.words (min k.top 24 - p.1).toNat p.1.toNat p.2.1 = closStep m.words out k ∧ p.2.1.length + missing m.words p.2.1 ≤ l.length + 24 ∧ WOut p.2.1 ∧ out.length ≤ p.2.1.length) (fun p => (min k.top 24 - p.1).toNat) (fun p R2 hI2 hR2 => ?_) (k.base, out, b) _
          ⟨b1, by rw [closStep_yes ho], hl, hw, Nat.le_refl _⟩ (by dsimp only; omega)
      obtain ⟨c, out2, b2⟩ := p
      obtain ⟨gc, gx, gl, gw, gm⟩ := hI2
      dsimp only at gc gx gl gw gm
      dsimp only
      conv => whnf
      refine sel_i (fun h => ?_) (fun h => ?_)
      · have hc : c < min k.top 24 := by simpa using h
        clear h
        rw [show (min k.top 24 - c).toNat = (min k.top 24 - (c + 1)).toNat + 1 by omega, scan, show c.toNat + 1 = (c + 1).toNat by omega] at gx
        have hmem := getD_mem (ws := m.words) (c := c.toNat) (by omega)
        have hp := missing_put (out := out2) hmem
        have hpo := putW_out (w := m.words.getD c.toNat (FT.zero .word)) gw
        have hpl := putW_len out2 (m.words.getD c.toNat (FT.zero .word))
        conv => whnf
        repeat' (first | (refine sel_i (fun h => ?_) (fun h => ?_) <;> conv => whnf) | (refine chk_c ?_ ?_ <;> conv => whnf) | (refine And.intro ?_ rfl) | (refine And.intro ?_ ?_ <;> conv => whnf))
        all_goals (try simp only [etaKey, etaWord] at *)
        all_goals generalize m.words.getD c.toNat (FT.zero .word) = w at *
        all_goals try (refine ⟨?_⟩; first | omega | (simp; omega))
        rw [wrap_id (n := c + 1) (by omega) (by omega)]
        exact hR2 (c + 1, putW out2 w, false) ⟨by dsimp only; omega, gx, by dsimp only; omega, hpo, by dsimp only; omega⟩ (by dsimp only; omega)
      · have hc : min k.top 24 ≤ c := by simp at h; omega
        rw [show (min k.top 24 - c).toNat = 0 by omega, scan] at gx
        conv => whnf
        rw [wrap_id (n := (i : Int) + 1) (by omega) (by omega)]
        exact hR (i + 1, out2, b2) ⟨by dsimp only; omega, by rw [gx]; exact hx, gl, gw⟩ (by simp; omega)
    · have hge : out.length ≤ i := by simp at h; omega
      rw [closGo_end hge] at hx
      rw [← hx]
      conv => whnf
      exact ⟨rfl, rfl⟩
theorem ok_impl_Closure : FunOk Try.prog c_impl_Closure := funOk (E := [c_impl_MemoryOk, c_impl_Closure_1, c_impl_spanned]) (envOk_cons ok_impl_MemoryOk (envOk_cons ok_impl_Closure_1 (envOk_cons ok_impl_spanned (envOk_nil)))) mixd Try.func17 (pf := pf_impl_Closure) (by kernel_rfl) fun ts K h => by
  obtain ⟨t0, t1, e0, h⟩ := as2_out h
  subst e0
  obtain ⟨m, e1, hq⟩ := arG_out rd_mem h
  clear h
  subst e1
  have h := hq
  clear hq
  obtain ⟨l, e1, hq⟩ := arC_out (rd_l .word) h
  clear h
  subst e1
  have h := hq
  clear hq
  obtain ⟨hpre, h⟩ := chk_o h
  exact ⟨_, _, h, Nat.le_of_ble_eq_true (show Nat.ble 2 Try.f17.ntmps = true by kernel_rfl), _, run_impl_Closure m l hpre⟩
end Go.Pi
