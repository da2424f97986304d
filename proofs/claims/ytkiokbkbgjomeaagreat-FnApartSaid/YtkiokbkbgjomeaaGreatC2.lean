/- Contracts of functions, each out of its run by PI. No conditions. -/
import Derived.Test.YtkiokbkbgjomeaaGreatC1
namespace Go.Pi
open Go.Proofs
set_option linter.unusedVariables false
set_option linter.unusedSimpArgs false
set_option maxRecDepth 100000
attribute [local irreducible] iterN
def andI (a b : Int) : Int := IntKind.i64.wrap (BitVec.ofInt IntKind.i64.bits a &&& BitVec.ofInt IntKind.i64.bits b).toNat
theorem andI_eq (a b : Int) : IntKind.i64.wrap (BitVec.ofInt IntKind.i64.bits a &&& BitVec.ofInt IntKind.i64.bits b).toNat = andI a b := rfl
abbrev w0 : Word := ⟨0, false, ⟨0, 0, 0, 0⟩⟩
def hasKey (l : List Word) (k : Key) : Bool := l.any (fun x => decide (x.key = k))
def putW (out : List Word) (w : Word) : List Word := if w.is && wordOk w && !hasKey out w.key then out ++ [w] else out
def scan (ws : List Word) : Nat → Nat → List Word → List Word
  | 0, _, out => out
  | n + 1, c, out => scan ws n (c + 1) (putW out (ws.getD c (FT.zero .word)))
def opens (k : Key) : Bool := !(andI k.perms 1 == 0) && !(andI k.perms 8 == 0)
def closStep (ws out : List Word) (k : Key) : List Word := if opens k then scan ws (min k.top 24 - k.base).toNat k.base.toNat out else out
def closGo (ws : List Word) : Nat → Nat → List Word → List Word
  | 0, _, out => out
  | n + 1, i, out => if i < out.length then closGo ws n (i + 1) (closStep ws out (out.getD i (FT.zero .word)).key) else out
def closFirst (l : List Word) : List Word := l.foldl putW []
def closure (m : Mem) (l : List Word) : List Word := if memoryOk m then closGo m.words (l.length + 24) 0 (closFirst l) else []
theorem putW_yes {out : List Word} {w : Word} (h1 : wordOk w = true) (h2 : w.is = true) (h3 : hasKey out w.key = false) : putW out w = out ++ [w] := by simp [putW, h1, h2, h3]
theorem putW_has {out : List Word} {w : Word} (h3 : hasKey out w.key = true) : putW out w = out := by simp [putW, h3]
theorem putW_is {out : List Word} {w : Word} (h3 : w.is = false) : putW out w = out := by simp [putW, h3]
theorem putW_ok {out : List Word} {w : Word} (h3 : wordOk w = false) : putW out w = out := by simp [putW, h3]
theorem foldl_take {α β : Type} (f : β → α → β) (b : β) {xs : List α} {i : Nat} (z : α) (h : i < xs.length) : (xs.take (i + 1)).foldl f b = f ((xs.take i).foldl f b) (xs.getD i z) := by
  have e : xs.getD i z = xs[i] := by simp [List.getD_eq_getElem?_getD, h]
  rw [List.take_add_one, List.getElem?_eq_getElem h, List.foldl_append, e]; rfl
def WOut (out : List Word) : Prop := ∀ w ∈ out, wordOk w = true ∧ w.is = true
theorem putW_out {out : List Word} {w : Word} (h : WOut out) : WOut (putW out w) := by
  unfold putW
  split
  · rename_i hw
    simp at hw
    intro x hx
    simp at hx
    rcases hx with hx | rfl
    · exact h x hx
    · exact ⟨hw.1.2, hw.1.1⟩
  · exact h
theorem putW_len (out : List Word) (w : Word) : out.length ≤ (putW out w).length ∧ (putW out w).length ≤ out.length + 1 := by
  unfold putW; split <;> simp
theorem wout_bounds {out : List Word} {i : Nat} (h : WOut out) (hi : i < out.length) : 0 ≤ (out.getD i (FT.zero .word)).key.base ∧ (out.getD i (FT.zero .word)).key.base ≤ (out.getD i (FT.zero .word)).key.top ∧ (out.getD i (FT.zero .word)).key.top ≤ 4096 := by
  have e : out.getD i (FT.zero .word) = out[i] := by simp [List.getD_eq_getElem?_getD, hi]
  rw [e]
  obtain ⟨h1, h2⟩ := h out[i] (List.getElem_mem hi)
  simp only [wordOk, h2, if_true, Bool.and_eq_true, keyOk, exact_] at h1
  exact bounds_n h1.2.1.1.1.1
def missing (ws out : List Word) : Nat := ws.countP (fun w => !hasKey out w.key)
theorem hasKey_app (out : List Word) (w : Word) (k : Key) : hasKey (out ++ [w]) k = (hasKey out k || decide (w.key = k)) := by simp [hasKey]
theorem missing_put {ws out : List Word} {w : Word} (hw : w ∈ ws) : (putW out w).length + missing ws (putW out w) ≤ out.length + missing ws out := by
  unfold putW
  split
  · rename_i h
    simp only [Bool.and_eq_true, Bool.not_eq_true'] at h
    have key : missing ws (out ++ [w]) + 1 ≤ missing ws out := by
      unfold missing
      have h1 : ∀ (l : List Word), l.countP (fun x => !hasKey (out ++ [w]) x.key) ≤ l.countP (fun x => !hasKey out x.key) := fun l =>
        List.countP_mono_left (fun x _ hx => by rw [hasKey_app] at hx; simp at hx; simp [hx.1])
      obtain ⟨a, b, rfl⟩ := List.append_of_mem hw
      have ha := h1 a
      have hb := h1 b
      rw [List.countP_append, List.countP_append, List.countP_cons, List.countP_cons]
      have e1 : (!hasKey (out ++ [w]) w.key) = false := by rw [hasKey_app]; simp
      rw [e1, h.2]
      simp; omega
    simp; omega
  · exact Nat.le_refl _
theorem missing_le (ws out : List Word) : missing ws out ≤ ws.length := List.countP_le_length
theorem closGo_end {ws out : List Word} {n i : Nat} (h : out.length ≤ i) : closGo ws n i out = out := by
  cases n with
  | zero => rfl
  | succ n => simp [closGo, show ¬ i < out.length by omega]
theorem closGo_step {ws out : List Word} {n i : Nat} (h : i < out.length) : closGo ws (n + 1) i out = closGo ws n (i + 1) (closStep ws out (out.getD i (FT.zero .word)).key) := by simp [closGo, h]
theorem closStep_no {ws out : List Word} {k : Key} (h : opens k = false) : closStep ws out k = out := by simp [closStep, h]
theorem closStep_yes {ws out : List Word} {k : Key} (h : opens k = true) : closStep ws out k = scan ws (min k.top 24 - k.base).toNat k.base.toNat out := by simp [closStep, h]
theorem getD_mem {ws : List Word} {c : Nat} (h : c < ws.length) : ws.getD c (FT.zero .word) ∈ ws := by
  have e : ws.getD c (FT.zero .word) = ws[c] := by simp [List.getD_eq_getElem?_getD, h]
  rw [e]; exact List.getElem_mem h
theorem memoryOk_n {m : Mem} (h : memoryOk m = true) : m.words.length = 24 ∧ m.gone.length = 24 ∧ ∀ w ∈ m.words, wordOk w = true := by
  simp [memoryOk] at h; exact ⟨h.1.1, h.1.2, h.2⟩

def lb_spec_l21Has_0 : PC := .seq (.seq (.reg [.s (.mv 6 (.t 5)), .s (.mv 7 (.t 0)), .s (.len 8 false (.t 7)), .s (.bin 9 .lss (.t 6) (.t 8))]) (.cond (.t 9) (.skip) (.exit 0))) (.seq (.blk 1 (.seq (.rgd [] [.s (.mv 12 (.t 0)), .s (.mv 13 (.t 5)), .s (.ia 14 .word (.t 12) (.t 13)), .s (.fa 15 (.t 14) 2), .s (.load 16 true 4 (.t 15)), .s (.load 17 true 4 (.t 3)), .s (.eqs 18 true [.i, .i, .i, .i] false (.t 16) (.t 17))] (.tk 0 (.tk 1 (.tk 2 (.tk 3 (.tk 4 (.tk 5 (.tk 6 (.done none))))))))) (.cond (.t 18) (.seq (.reg [.s (.mv 4 (.k (.v (.c .tt))))]) (.ret)) (.skip)))) (.reg [.s (.mv 10 (.t 5)), .s (.bin 11 .add (.t 10) (.k (.v (.c (.int .i64 1))))), .s (.mv 5 (.t 11))]))
def pf_spec_l21Has : PF := ⟨[.t 4], .seq (.reg [.s (.box 3 (.t 1)), .s (.mv 4 (.k (.v (.c .ff))))]) (.seq (.seq (.reg [.s (.mv 5 (.k (.v (.c (.int .i64 0)))))]) (.blk 0 (.loop [0, 3, 5] lb_spec_l21Has_0))) (.seq (.reg [.s (.mv 4 (.k (.v (.c .ff))))]) (.ret)))⟩
def c_spec_l21Has : Fun := ⟨222, [], fun ts K => as2 ts fun t0 t1 => arC (pL .word) t0 fun xs => arG pKeyT t1 fun k => chk (xs.length ≤ 2147483647) (K (tB (hasKey xs k)) [])⟩
theorem run_spec_l21Has (xs : List (FT.Ty .word)) (k : Key) (hpre : xs.length ≤ 2147483647) : runK [] (xs.length + 1) [] pf_spec_l21Has [tL false .word xs, tG (k.tc [])] fun r o => r = tB (hasKey xs k) ∧ o = [] := by
  conv => whnf
  refine loop (α := Nat) (fun i => ⟨[(0, .v (.c (.sl false .word 0))), (3, .v (.c (.ptr 1 0))), (5, .v (.c (.int .i64 (i : Int))))], [(1, some (.box true [.int .i64 k.base, .int .i64 k.top, .int .i64 k.perms, .int .i64 k.sealed])), (0, some (.flat false .word none xs))], nums.tail.tail, [], false, []⟩)
      (fun i => i ≤ xs.length ∧ (xs.drop i).any (fun x => decide (x.key = k)) = hasKey xs k) (fun i => xs.length - i) (fun i R hI hR => ?_) 0 _ ⟨by simp, by simp [hasKey]⟩ (by simp)
  obtain ⟨hi, hx⟩ := hI
  conv => whnf
  repeat' (first | (refine sel_i (fun h => ?_) (fun h => ?_) <;> conv => whnf) | (refine chk_c ?_ ?_ <;> conv => whnf) | (refine And.intro ?_ rfl) | (refine And.intro ?_ ?_ <;> conv => whnf))
  all_goals simp only [keyEq, Int.toNat_natCast, decide_eq_true_eq, decide_eq_false_iff_not] at *
  all_goals first
    | (refine ⟨?_⟩; omega)
    | (rw [show hasKey xs k = true from any_yes (z := FT.zero .word) (by omega) (decide_eq_true (by assumption)) hx]; done)
    | (rw [show hasKey xs k = false from any_end (by omega) hx]; done)
    | (rw [wrap_id (n := (i : Int) + 1) (by omega) (by omega)]; exact hR (i + 1) ⟨by omega, any_no (z := FT.zero .word) (by omega) (decide_eq_false (by assumption)) hx⟩ (by omega))
theorem ok_spec_l21Has : FunOk Tryz.prog c_spec_l21Has := funOk (E := []) (envOk_nil) mixd Tryz.func222 (pf := pf_spec_l21Has) (by kernel_rfl) fun ts K h => by
  obtain ⟨t0, t1, e0, h⟩ := as2_out h
  subst e0
  obtain ⟨xs, e1, hq⟩ := arC_out (rd_l .word) h
  clear h
  subst e1
  have h := hq
  clear hq
  obtain ⟨k, e1, hq⟩ := arG_out rd_key h
  clear h
  subst e1
  have h := hq
  clear hq
  obtain ⟨hpre, h⟩ := chk_o h
  exact ⟨_, _, h, Nat.le_of_ble_eq_true (show Nat.ble 2 Tryz.f222.ntmps = true by kernel_rfl), _, run_spec_l21Has xs k hpre⟩

def pf_impl_spanned : PF := ⟨[.t 2, .t 3], .seq (.reg [.s (.box 1 (.t 0)), .s (.mv 2 (.k (.v (.c (.int .i64 0))))), .s (.mv 3 (.k (.v (.c (.int .i64 0)))))]) (.seq (.rgd [] [.s (.fa 4 (.t 1) 0), .s (.load 5 false 1 (.t 4)), .s (.fa 6 (.t 1) 1), .s (.load 7 false 1 (.t 6)), .s (.mm 8 false (.t 7) (.k (.v (.c (.int .i64 24))))), .s (.mv 2 (.t 5)), .s (.mv 3 (.t 8))] (.tk 0 (.tk 1 (.tk 2 (.tk 3 (.tk 4 (.tk 5 (.tk 6 (.done none))))))))) (.ret))⟩
def c_impl_spanned : Fun := ⟨75, [], fun ts K => as1 ts fun t0 => arG pKeyT t0 fun k => K (.tup [.c (.int .i64 k.base), .c (.int .i64 (min k.top 24))]) []⟩
theorem run_impl_spanned (k : Key) : runK [] (0) [] pf_impl_spanned [tG (k.tc [])] fun r o => r = .tup [.c (.int .i64 k.base), .c (.int .i64 (min k.top 24))] ∧ o = [] := by
  conv => whnf
  repeat' (first
    | exact rfl
    | exact trivial
    | (refine sel_i (fun h => ?_) (fun h => ?_) <;> conv => whnf)
    | (refine chk_c ?_ ?_ <;> conv => whnf)
    | (refine And.intro ?_ ?_ <;> conv => whnf))
theorem ok_impl_spanned : FunOk Tryz.prog c_impl_spanned := funOk (E := []) (envOk_nil) mixd Tryz.func75 (pf := pf_impl_spanned) (by kernel_rfl) fun ts K h => by
  obtain ⟨t0, e0, h⟩ := as1_out h
  subst e0
  obtain ⟨k, e1, hq⟩ := arG_out rd_key h
  clear h
  subst e1
  have h := hq
  clear hq
  exact ⟨_, _, h, Nat.le_of_ble_eq_true (show Nat.ble 1 Tryz.f75.ntmps = true by kernel_rfl), _, run_impl_spanned k⟩

def pf_impl_Closure_1_1 : PF := ⟨[.t 3], .seq (.reg [.s (.box 2 (.t 0)), .s (.mv 3 (.k (.v (.c .ff))))]) (.seq (.reg [.s (.fa 4 (.t 2) 2), .s (.load 5 true 4 (.t 4)), .s (.fa 6 (.t 1) 2), .s (.load 7 true 4 (.t 6)), .s (.eqs 8 true [.i, .i, .i, .i] false (.t 5) (.t 7)), .s (.mv 3 (.t 8))]) (.ret))⟩
def c_impl_Closure_1_1 : Fun := ⟨74, [], fun ts K => as2 ts fun t0 t1 => arG pWordT t0 fun x => arP pWordT t1 fun w => K (tB (decide (x.key = w.key))) []⟩
theorem run_impl_Closure_1_1 (x : Word) (w : Word) : runK [] (0) [] pf_impl_Closure_1_1 [tG (x.tc []), .v (.ptr false 0 (w.tc []))] fun r o => r = tB (decide (x.key = w.key)) ∧ o = [] := by
  conv => whnf
  repeat' (first | (refine sel_i (fun h => ?_) (fun h => ?_) <;> conv => whnf) | (refine chk_c ?_ ?_ <;> conv => whnf) | (refine And.intro ?_ rfl) | (refine And.intro ?_ ?_ <;> conv => whnf))
  all_goals (rw [keyEq])
theorem ok_impl_Closure_1_1 : FunOk Tryz.prog c_impl_Closure_1_1 := funOk (E := []) (envOk_nil) mixd Tryz.func74 (pf := pf_impl_Closure_1_1) (by kernel_rfl) fun ts K h => by
  obtain ⟨t0, t1, e0, h⟩ := as2_out h
  subst e0
  obtain ⟨x, e1, hq⟩ := arG_out rd_word h
  clear h
  subst e1
  have h := hq
  clear hq
  obtain ⟨w, e1, hq⟩ := arP_out rd_word h
  clear h
  subst e1
  have h := hq
  clear hq
  exact ⟨_, _, h, Nat.le_of_ble_eq_true (show Nat.ble 2 Tryz.f74.ntmps = true by kernel_rfl), _, run_impl_Closure_1_1 x w⟩

def c_slices_IndexFunc_Word__impl_Closure_1_1 : Fun := ⟨147, [], fun ts K => as2 ts fun t0 t1 => arC (pL .word) t0 fun xs => arF1 74 pWordT t1 fun g => chk (xs.length ≤ 2147483647) (K (tN (idxOf (fun x => decide (x.key = g.key)) xs)) [])⟩
theorem run_slices_IndexFunc_Word__impl_Closure_1_1 (xs : List (FT.Ty .word)) (g : Word) (hpre : xs.length ≤ 2147483647) : runK [c_impl_Closure_1_1] (xs.length + 1) [] pf_slices_IndexFunc_Word [tL false .word xs, .fn 74 [.ptr false 0 (g.tc [])]] fun r o => r = tN (idxOf (fun x => decide (x.key = g.key)) xs) ∧ o = [] := by
  conv => whnf
  refine loop (α := Nat) (fun i => ⟨[(0, .v (.c (.sl false .word 0))), (1, .fn 74 [.c (.ptr 1 0)]), (7, .v (.c (.int .i64 (xs.length : Int)))), (8, .v (.c (.int .i64 (i : Int))))], [(1, some (.box false [.int .i64 g.n, .bool g.is, .int .i64 g.key.base, .int .i64 g.key.top, .int .i64 g.key.perms, .int .i64 g.key.sealed])), (0, some (.flat false .word none xs))], nums.tail.tail, [], false, []⟩)
      (fun i => i ≤ xs.length ∧ idxOf (fun x => decide (x.key = g.key)) xs = idxGo (fun x => decide (x.key = g.key)) (xs.drop i) i) (fun i => xs.length - i) (fun i R hI hR => ?_) 0 _ ⟨by simp, rfl⟩ (by simp)
  obtain ⟨hi, hx⟩ := hI
  conv => whnf
  refine sel_i (fun h2 => ?_) (fun h2 => ?_)
  · have hlt : i < xs.length := by simp at h2; omega
    conv => whnf
    repeat (refine chk_i (by first | omega | (simp; omega)) ?_; conv => whnf)
    refine sel_i (fun h3 => ?_) (fun h3 => ?_)
    · conv => whnf
      rw [hx, idxGo_yes (z := FT.zero .word) hlt (by first | (simp only [keyEq] at h3; exact h3) | (simpa using h3))]
      exact ⟨rfl, rfl⟩
    · conv => whnf
      rw [wrap_id (n := (i : Int) + 1) (by omega) (by omega)]
      exact hR (i + 1) ⟨by omega, by rw [hx, idxGo_no (z := FT.zero .word) hlt (by first | (simp only [keyEq] at h3; exact h3) | (simpa using h3))]⟩ (by omega)
  · conv => whnf
    rw [hx, idxGo_end (by simp at h2; omega)]
    exact ⟨rfl, rfl⟩
theorem ok_slices_IndexFunc_Word__impl_Closure_1_1 : FunOk Tryz.prog c_slices_IndexFunc_Word__impl_Closure_1_1 := funOk (E := [c_impl_Closure_1_1]) (envOk_cons ok_impl_Closure_1_1 (envOk_nil)) mixd Tryz.func147 (pf := pf_slices_IndexFunc_Word) (by kernel_rfl) fun ts K h => by
  obtain ⟨t0, t1, e0, h⟩ := as2_out h
  subst e0
  obtain ⟨xs, e1, hq⟩ := arC_out (rd_l .word) h
  clear h
  subst e1
  have h := hq
  clear hq
  obtain ⟨g, e1, hq⟩ := arF1_out rd_word h
  clear h
  subst e1
  have h := hq
  clear hq
  obtain ⟨hpre, h⟩ := chk_o h
  exact ⟨_, _, h, Nat.le_of_ble_eq_true (show Nat.ble 2 Tryz.f147.ntmps = true by kernel_rfl), _, run_slices_IndexFunc_Word__impl_Closure_1_1 xs g hpre⟩

def c_slices_ContainsFunc_Word__impl_Closure_1_1 : Fun := ⟨73, [], fun ts K => as2 ts fun t0 t1 => arC (pL .word) t0 fun xs => arF1 74 pWordT t1 fun g => chk (xs.length ≤ 2147483647) (K (tB (xs.any (fun x => decide (x.key = g.key)))) [])⟩
theorem run_slices_ContainsFunc_Word__impl_Closure_1_1 (xs : List (FT.Ty .word)) (g : Word) (hpre : xs.length ≤ 2147483647) : runK [c_slices_IndexFunc_Word__impl_Closure_1_1, c_impl_Closure_1_1] (0) [] pf_slices_ContainsFunc_Word [tL false .word xs, .fn 74 [.ptr false 0 (g.tc [])]] fun r o => r = tB (xs.any (fun x => decide (x.key = g.key))) ∧ o = [] := by
  conv => whnf
  repeat' (first | (refine sel_i (fun h => ?_) (fun h => ?_) <;> conv => whnf) | (refine chk_c ?_ ?_ <;> conv => whnf) | (refine And.intro ?_ rfl) | (refine And.intro ?_ ?_ <;> conv => whnf))
  all_goals first | (refine ⟨?_⟩; exact hpre) | exact hpre | (rw [← idxOf_any]; rfl) | (rw [← idxOf_any])
theorem ok_slices_ContainsFunc_Word__impl_Closure_1_1 : FunOk Tryz.prog c_slices_ContainsFunc_Word__impl_Closure_1_1 := funOk (E := [c_slices_IndexFunc_Word__impl_Closure_1_1, c_impl_Closure_1_1]) (envOk_cons ok_slices_IndexFunc_Word__impl_Closure_1_1 (envOk_cons ok_impl_Closure_1_1 (envOk_nil))) mixd Tryz.func73 (pf := pf_slices_ContainsFunc_Word) (by kernel_rfl) fun ts K h => by
  obtain ⟨t0, t1, e0, h⟩ := as2_out h
  subst e0
  obtain ⟨xs, e1, hq⟩ := arC_out (rd_l .word) h
  clear h
  subst e1
  have h := hq
  clear hq
  obtain ⟨g, e1, hq⟩ := arF1_out rd_word h
  clear h
  subst e1
  have h := hq
  clear hq
  obtain ⟨hpre, h⟩ := chk_o h
  exact ⟨_, _, h, Nat.le_of_ble_eq_true (show Nat.ble 2 Tryz.f73.ntmps = true by kernel_rfl), _, run_slices_ContainsFunc_Word__impl_Closure_1_1 xs g hpre⟩

def lb_spec_Closure_0 : PC := .seq (.seq (.reg [.s (.mv 16 (.t 6)), .s (.mv 17 (.t 1)), .s (.len 18 false (.t 17)), .s (.bin 19 .lss (.t 16) (.t 18))]) (.cond (.t 19) (.skip) (.exit 0))) (.seq (.blk 1 (.seq (.reg [.s (.mv 22 (.t 1)), .s (.mv 23 (.t 6)), .s (.ia 24 .word (.t 22) (.t 23)), .s (.load 25 true 6 (.t 24)), .s (.call (some 26) 154 [(.t 25)]), .s (.mv 27 (.t 26)), .g 27 true (some 28) (.mv 28 (.t 1)), .g 27 true (some 29) (.mv 29 (.t 6)), .g 27 true (some 30) (.ia 30 .word (.t 28) (.t 29)), .g 27 true (some 31) (.fa 31 (.t 30) 1), .g 27 true (some 32) (.load 32 false 1 (.t 31)), .s (.pick 33 (.t 27) (.t 32) (.k (.v (.c .ff)))), .s (.mv 34 (.t 33)), .g 34 true (some 35) (.mv 35 (.t 5)), .g 34 true (some 36) (.mv 36 (.t 1)), .g 34 true (some 37) (.mv 37 (.t 6)), .g 34 true (some 38) (.ia 38 .word (.t 36) (.t 37)), .g 34 true (some 39) (.fa 39 (.t 38) 2), .g 34 true (some 40) (.load 40 true 4 (.t 39)), .g 34 true (some 41) (.call (some 41) 222 [(.t 35), (.t 40)]), .g 34 true (some 42) (.bnot 42 (.t 41)), .s (.pick 43 (.t 34) (.t 42) (.k (.v (.c .ff))))]) (.cond (.t 43) (.reg [.s (.mv 44 (.t 5)), .s (.mv 45 (.t 1)), .s (.mv 46 (.t 6)), .s (.ia 47 .word (.t 45) (.t 46)), .s (.load 48 true 6 (.t 47)), .s (.bs 49 .word [(.t 48)]), .s (.app 50 .word (.t 44) (.t 49)), .s (.mv 5 (.t 50))]) (.skip)))) (.reg [.s (.mv 20 (.t 6)), .s (.bin 21 .add (.t 20) (.k (.v (.c (.int .i64 1))))), .s (.mv 6 (.t 21))]))
def lb_spec_Closure_1 : PC := .seq (.seq (.reg [.s (.mv 74 (.t 9)), .s (.fa 75 (.t 8) 1), .s (.load 76 false 1 (.t 75)), .s (.call (some 77) 84 [(.t 76), (.k (.v (.c (.int .i64 24))))]), .s (.bin 78 .lss (.t 74) (.t 77))]) (.cond (.t 78) (.skip) (.exit 4))) (.seq (.blk 5 (.seq (.reg [.s (.fa 81 (.t 2) 0), .s (.load 82 false 1 (.t 81)), .s (.mv 83 (.t 9)), .s (.ia 84 .word (.t 82) (.t 83)), .s (.load 85 true 6 (.t 84)), .s (.alloc 10 [.int .i64 0, .ff, .int .i64 0, .int .i64 0, .int .i64 0, .int .i64 0]), .s (.store 6 (.t 10) (.t 85))]) (.seq (.reg [.s (.fa 86 (.t 10) 1), .s (.load 87 false 1 (.t 86)), .s (.mv 88 (.t 87)), .g 88 true (some 89) (.mv 89 (.t 5)), .g 88 true (some 90) (.fa 90 (.t 10) 2), .g 88 true (some 91) (.load 91 true 4 (.t 90)), .g 88 true (some 92) (.call (some 92) 222 [(.t 89), (.t 91)]), .g 88 true (some 93) (.bnot 93 (.t 92)), .s (.pick 94 (.t 88) (.t 93) (.k (.v (.c .ff))))]) (.cond (.t 94) (.reg [.s (.mv 95 (.t 5)), .s (.load 96 true 6 (.t 10)), .s (.bs 97 .word [(.t 96)]), .s (.app 98 .word (.t 95) (.t 97)), .s (.mv 5 (.t 98))]) (.skip))))) (.reg [.s (.mv 79 (.t 9)), .s (.bin 80 .add (.t 79) (.k (.v (.c (.int .i64 1))))), .s (.mv 9 (.t 80))]))
def lb_spec_Closure_2 : PC := .seq (.seq (.reg [.s (.mv 51 (.t 7)), .s (.mv 52 (.t 5)), .s (.len 53 false (.t 52)), .s (.bin 54 .lss (.t 51) (.t 53))]) (.cond (.t 54) (.skip) (.exit 2))) (.seq (.blk 3 (.seq (.reg [.s (.mv 57 (.t 5)), .s (.mv 58 (.t 7)), .s (.ia 59 .word (.t 57) (.t 58)), .s (.fa 60 (.t 59) 2), .s (.load 61 true 4 (.t 60)), .s (.alloc 8 [.int .i64 0, .int .i64 0, .int .i64 0, .int .i64 0]), .s (.store 4 (.t 8) (.t 61))]) (.seq (.seq (.reg [.s (.fa 62 (.t 8) 2), .s (.load 63 false 1 (.t 62)), .s (.bin 64 .and (.t 63) (.k (.v (.c (.int .i64 1))))), .s (.bin 65 .eql (.t 64) (.k (.v (.c (.int .i64 0))))), .s (.mv 66 (.t 65)), .g 66 false (some 67) (.fa 67 (.t 8) 2), .g 66 false (some 68) (.load 68 false 1 (.t 67)), .g 66 false (some 69) (.bin 69 .and (.t 68) (.k (.v (.c (.int .i64 8))))), .g 66 false (some 70) (.bin 70 .eql (.t 69) (.k (.v (.c (.int .i64 0))))), .s (.pick 71 (.t 66) (.k (.v (.c .tt))) (.t 70))]) (.cond (.t 71) (.exit 3) (.skip))) (.seq (.reg [.s (.fa 72 (.t 8) 0), .s (.load 73 false 1 (.t 72)), .s (.mv 9 (.t 73))]) (.blk 4 (.loop [2, 5, 7, 8, 9] lb_spec_Closure_1)))))) (.reg [.s (.mv 55 (.t 7)), .s (.bin 56 .add (.t 55) (.k (.v (.c (.int .i64 1))))), .s (.mv 7 (.t 56))]))
def pf_spec_Closure : PF := ⟨[.t 4], .seq (.reg [.s (.box 2 (.t 0)), .s (.mv 4 (.k (.v (.c (.nils .word)))))]) (.seq (.reg [.s (.bs 11 .word []), .s (.mv 5 (.t 11))]) (.seq (.seq (.reg [.s (.load 12 true 2 (.t 2)), .s (.call (some 13) 155 [(.t 12)]), .s (.bnot 14 (.t 13))]) (.cond (.t 14) (.seq (.reg [.s (.mv 15 (.t 5)), .s (.mv 4 (.t 15))]) (.ret)) (.skip))) (.seq (.seq (.reg [.s (.mv 6 (.k (.v (.c (.int .i64 0)))))]) (.blk 0 (.loop [1, 2, 5, 6] lb_spec_Closure_0))) (.seq (.seq (.reg [.s (.mv 7 (.k (.v (.c (.int .i64 0)))))]) (.blk 2 (.loop [2, 5, 7] lb_spec_Closure_2))) (.seq (.reg [.s (.mv 99 (.t 5)), .s (.mv 4 (.t 99))]) (.ret))))))⟩
def c_spec_Closure : Fun := ⟨179, [], fun ts K => as2 ts fun t0 t1 => arG pMemT t0 fun m => arC (pL .word) t1 fun l => chk (LMem m 2147483647 ∧ l.length ≤ 1048576) (K (tL true .word (closure m l)) [])⟩
theorem run_spec_Closure (m : Mem) (l : List (FT.Ty .word)) (hpre : LMem m 2147483647 ∧ l.length ≤ 1048576) : runK [c_spec_l1Min, c_spec_WordOk, c_spec_MemoryOk, c_spec_l21Has] (l.length + 30) [] pf_spec_Closure [tG (m.tc false []), tL false .word l] fun r o => r = tL true .word (closure m l) ∧ o = [] := by
  obtain ⟨⟨l1, l2⟩, l3⟩ := hpre
  conv => whnf
  refine sel_i (fun h => ?_) (fun h => ?_)
  · conv => whnf
    repeat' (first | (refine sel_i (fun h => ?_) (fun h => ?_) <;> conv => whnf) | (refine chk_c ?_ ?_ <;> conv => whnf) | (refine And.intro ?_ rfl) | (refine And.intro ?_ ?_ <;> conv => whnf))
    simp only [etaMemory, Bool.not_eq_true'] at h
    simp only [closure, h]; rfl
  have hm : memoryOk m = true := by simpa using h
  clear h
  obtain ⟨m1, m2, m3⟩ := memoryOk_n hm
  rw [show closure m l = closGo m.words (l.length + 24) 0 (closFirst l) by simp only [closure, hm, if_true]]
  conv => whnf
  refine loop (α := Nat × List Word) (fun p => ⟨[(1, .v (.c (.sl false .word 0))), (2, .v (.c (.ptr 1 0))), (5, .v (.c (.sl true .word 4))), (6, .v (.c (.int .i64 (p.1 : Int))))],
        [(4, some (.flat true .word none p.2)), (3, some (.flat false .bool none m.gone)), (2, some (.flat false .word none m.words)), (1, some (.box true [.sl false .word 2, .sl false .bool 3])), (0, some (.flat false .word none l))], nums.tail.tail.tail.tail.tail, [], false, []⟩)
      (fun p => p.1 ≤ l.length ∧ p.2 = (l.take p.1).foldl putW [] ∧ p.2.length ≤ p.1 ∧ WOut p.2) (fun p => l.length - p.1) (fun p R hI hR => ?_) (0, []) _ ⟨by simp, by simp, by simp, by simp [WOut]⟩ (by simp)
  obtain ⟨i, out⟩ := p
  obtain ⟨hi, hx, hl, hw⟩ := hI
  dsimp only at hi hx hl hw
  dsimp only
  conv => whnf
  refine sel_i (fun h => ?_) (fun h => ?_)
  · have hlt : i < l.length := by simp at h; omega
    clear h
    have hstep : (l.take (i + 1)).foldl putW [] = putW out (l.getD i (FT.zero .word)) := by rw [foldl_take _ _ (FT.zero .word) hlt, hx]
    have hlen := putW_len out (l.getD i (FT.zero .word))
    have hout := putW_out (w := l.getD i (FT.zero .word)) hw
    conv => whnf
    repeat' (first | (refine sel_i (fun h => ?_) (fun h => ?_) <;> conv => whnf) | (refine chk_c ?_ ?_ <;> conv => whnf) | (refine And.intro ?_ rfl) | (refine And.intro ?_ ?_ <;> conv => whnf))
    all_goals simp only [etaKey, etaWord, Int.toNat_natCast, Bool.not_eq_true', Bool.not_eq_false'] at *
    all_goals first
      | (refine ⟨?_⟩; omega)
      | (refine ⟨?_⟩; simp; omega)
      | (rw [wrap_id (n := (i : Int) + 1) (by omega) (by omega)]
         exact hR (i + 1, _) ⟨by omega, by rw [hstep]; first | exact (putW_yes (by assumption) (by assumption) (by assumption)).symm | exact (putW_has (by assumption)).symm | exact (putW_is (by assumption)).symm | exact (putW_ok (by assumption)).symm, by simp; omega, by first | (rw [← putW_yes (by assumption) (by assumption) (by assumption)]; exact hout) | exact hw⟩ (by simp; omega))
      | trace_state
  · have hge : i = l.length := by simp at h; omega
    clear h hR
    subst hge
    rw [List.take_of_length_le (Nat.le_refl _)] at hx
    conv => whnf
    refine loop (α := Nat × List Word) (fun p => ⟨[(2, .v (.c (.ptr 0 0))), (5, .v (.c (.sl true .word 3))), (7, .v (.c (.int .i64 (p.1 : Int))))],
          [(3, some (.flat true .word none p.2)), (2, some (.flat false .bool none m.gone)), (1, some (.flat false .word none m.words)), (0, some (.box true [.sl false .word 1, .sl false .bool 2]))], nums.tail.tail.tail.tail, [], false, []⟩)
        (fun p => p.1 ≤ p.2.length ∧ closGo m.words (l.length + 24 - p.1) p.1 p.2 = closGo m.words (l.length + 24) 0 (closFirst l) ∧ p.2.length + missing m.words p.2 ≤ l.length + 24 ∧ WOut p.2) (fun p => l.length + 24 - p.1) (fun p R hI hR => ?_) (0, out) _
        ⟨by simp, by rw [hx]; rfl, by have := missing_le m.words out; dsimp only; omega, hw⟩ (by simp)
    clear hx hl hw
    obtain ⟨i, out⟩ := p
    obtain ⟨hi, hx, hl, hw⟩ := hI
    dsimp only at hi hx hl hw
    dsimp only
    conv => whnf
    refine sel_i (fun h => ?_) (fun h => ?_)
    · have hlt : i < out.length := by simp at h; omega
      clear h
      obtain ⟨b1, b2, b3⟩ := wout_bounds hw hlt
      rw [show l.length + 24 - i = (l.length + 24 - (i + 1)) + 1 by omega, closGo_step hlt] at hx
      conv => whnf
      repeat' (first | (refine sel_i (fun h => ?_) (fun h => ?_) <;> conv => whnf) | (refine chk_c ?_ ?_ <;> conv => whnf) | (refine And.intro ?_ rfl) | (refine And.intro ?_ ?_ <;> conv => whnf))
      all_goals simp only [andI_eq, Int.toNat_natCast] at *
      all_goals generalize hk : (out.getD i (FT.zero .word)).key = k at *
      all_goals try (refine ⟨?_⟩; first | omega | (simp; omega))
      · rw [wrap_id (n := (i : Int) + 1) (by omega) (by omega)]
        exact hR (i + 1, out) ⟨hlt, by rw [closStep_no (by simp [opens, *])] at hx; exact hx, hl, hw⟩ (by simp; omega)
      · rw [wrap_id (n := (i : Int) + 1) (by omega) (by omega)]
        exact hR (i + 1, out) ⟨hlt, by rw [closStep_no (by simp [opens, *])] at hx; exact hx, hl, hw⟩ (by simp; omega)
      have ho : opens k = true := by simp only [opens, *]; rfl
      refine loop (α := Int × List Word) (fun p => ⟨[(2, .v (.c (.ptr 0 0))), (5, .v (.c (.sl true .word 3))), (7, .v (.c (.int .i64 (i : Int)))), (8, .v (.c (.ptr 4 0))), (9, .v (.c (.int .i64 p.1)))],
            [(4, some (.box true [.int .i64 k.base, .int .i64 k.top, .int .i64 k.perms, .int .i64 k.sealed])), (3, some (.flat true .word none p.2)), (2, some (.flat false .bool none m.gone)), (1, some (.flat false .word none m.words)), (0, some (.box true [.sl false .word 1, .sl false .bool 2]))], nums.tail.tail.tail.tail.tail, [], false, []⟩)
          (fun p => 0 ≤ p.1 ∧ scan m.words (min k.top 24 - p.1).toNat p.1.toNat p.2 = closStep m.words out k ∧ p.2.length + missing m.words p.2 ≤ l.length + 24 ∧ WOut p.2 ∧ out.length ≤ p.2.length) (fun p => (min k.top 24 - p.1).toNat) (fun p R2 hI2 hR2 => ?_) (k.base, out) _
          ⟨b1, by rw [closStep_yes ho], hl, hw, Nat.le_refl _⟩ (by dsimp only; omega)
      obtain ⟨c, out2⟩ := p
      obtain ⟨gc, gx, gl, gw, gm⟩ := hI2
      dsimp only at gc gx gl gw gm
      dsimp only
      conv => whnf
      refine sel_i (fun h => ?_) (fun h => ?_)
      · have hc : c < min k.top 24 := by simpa using h
        clear h
        rw [show (min k.top 24 - c).toNat = (min k.top 24 - (c + 1)).toNat + 1 by omega, scan, show c.toNat + 1 = (c + 1).toNat by omega] at gx
        have hmem := getD_mem (ws := m.words) (c := c.toNat) (by omega)
        have hok := m3 _ hmem
        have hp := missing_put (out := out2) hmem
        have hpo := putW_out (w := m.words.getD c.toNat (FT.zero .word)) gw
        have hpl := putW_len out2 (m.words.getD c.toNat (FT.zero .word))
        conv => whnf
        repeat' (first | (refine sel_i (fun h => ?_) (fun h => ?_) <;> conv => whnf) | (refine chk_c ?_ ?_ <;> conv => whnf) | (refine And.intro ?_ rfl) | (refine And.intro ?_ ?_ <;> conv => whnf))
        all_goals simp only [etaKey, etaWord, Bool.not_eq_true', Bool.not_eq_false'] at *
        all_goals generalize m.words.getD c.toNat (FT.zero .word) = w at *
        all_goals first
          | (refine ⟨?_⟩; omega)
          | (refine ⟨?_⟩; simp; omega)
          | skip
        all_goals rw [wrap_id (n := c + 1) (by omega) (by omega)]
        · have e := putW_yes (out := out2) hok (by assumption) (by assumption)
          rw [e] at hp hpo hpl gx
          exact hR2 (c + 1, _) ⟨by dsimp only; omega, gx, by dsimp only; omega, hpo, by dsimp only; omega⟩ (by dsimp only; omega)
        · rw [putW_has (by assumption)] at gx
          exact hR2 (c + 1, _) ⟨by dsimp only; omega, gx, gl, gw, gm⟩ (by dsimp only; omega)
        · rw [putW_is (by assumption)] at gx
          exact hR2 (c + 1, _) ⟨by dsimp only; omega, gx, gl, gw, gm⟩ (by dsimp only; omega)
      · have hc : min k.top 24 ≤ c := by simp at h; omega
        rw [show (min k.top 24 - c).toNat = 0 by omega, scan] at gx
        conv => whnf
        rw [wrap_id (n := (i : Int) + 1) (by omega) (by omega)]
        exact hR (i + 1, out2) ⟨by dsimp only; omega, by rw [gx]; exact hx, gl, gw⟩ (by simp; omega)
    · have hge : out.length ≤ i := by simp at h; omega
      rw [closGo_end hge] at hx
      rw [← hx]
      conv => whnf
      exact ⟨rfl, rfl⟩
theorem ok_spec_Closure : FunOk Tryz.prog c_spec_Closure := funOk (E := [c_spec_l1Min, c_spec_WordOk, c_spec_MemoryOk, c_spec_l21Has]) (envOk_cons ok_spec_l1Min (envOk_cons ok_spec_WordOk (envOk_cons ok_spec_MemoryOk (envOk_cons ok_spec_l21Has (envOk_nil))))) mixd Tryz.func179 (pf := pf_spec_Closure) (by kernel_rfl) fun ts K h => by
  obtain ⟨t0, t1, e0, h⟩ := as2_out h
  subst e0
  obtain ⟨m, e1, hq⟩ := arG_out rd_mem h
  clear h
  subst e1
  have h := hq
  clear hq
  obtain ⟨l, e1, hq⟩ := arC_out (rd_l .word) h
  clear h
  subst e1
  have h := hq
  clear hq
  obtain ⟨hpre, h⟩ := chk_o h
  exact ⟨_, _, h, Nat.le_of_ble_eq_true (show Nat.ble 2 Tryz.f179.ntmps = true by kernel_rfl), _, run_spec_Closure m l hpre⟩

def pf_impl_Closure_1 : PF := ⟨[], .seq (.reg [.s (.box 2 (.t 0))]) (.seq (.reg [.s (.fa 3 (.t 2) 1), .s (.load 4 false 1 (.t 3)), .s (.mv 5 (.t 4)), .g 5 true (some 6) (.load 6 true 6 (.t 2)), .g 5 true (some 7) (.call (some 7) 69 [(.t 6)]), .s (.pick 8 (.t 5) (.t 7) (.k (.v (.c .ff)))), .s (.mv 9 (.t 8)), .g 9 true (some 10) (.load 10 false 1 (.t 1)), .g 9 true (some 11) (.mkf 11 74 [(.t 2)]), .g 9 true (some 12) (.call (some 12) 73 [(.t 10), (.t 11)]), .g 9 true (some 13) (.bnot 13 (.t 12)), .s (.pick 14 (.t 9) (.t 13) (.k (.v (.c .ff))))]) (.cond (.t 14) (.reg [.s (.load 15 false 1 (.t 1)), .s (.load 16 true 6 (.t 2)), .s (.bs 17 .word [(.t 16)]), .s (.app 18 .word (.t 15) (.t 17)), .s (.store 1 (.t 1) (.t 18))]) (.skip)))⟩
def c_impl_Closure_1 : Fun := ⟨72, [false, true], fun ts K => as2 ts fun t0 t1 => arG pWordT t0 fun w => arQ (pO .word) t1 fun out => chk (out.length ≤ 2147483646) (K (.tup []) ([.v (.ptr true 0 [tl true .word (putW out w)])]))⟩
theorem run_impl_Closure_1 (w : Word) (out : List (FT.Ty .word)) (hpre : out.length ≤ 2147483646) : runK [c_impl_WordOk, c_slices_ContainsFunc_Word__impl_Closure_1_1, c_impl_Closure_1_1] (0) [false, true] pf_impl_Closure_1 [tG (w.tc []), .v (.ptr true 0 [tl true .word out])] fun r o => r = .tup [] ∧ o = [.v (.ptr true 0 [tl true .word (putW out w)])] := by
  conv => whnf
  repeat' (first | (refine sel_i (fun h => ?_) (fun h => ?_) <;> conv => whnf) | (refine chk_c ?_ ?_ <;> conv => whnf) | (refine And.intro ?_ rfl) | (refine And.intro ?_ ?_ <;> conv => whnf))
  all_goals (try simp only [etaKey, etaWord, Bool.not_eq_true', Bool.not_eq_false'] at *)
  all_goals first
    | (refine ⟨?_⟩; show out.length ≤ 2147483647; omega)
    | (refine ⟨?_⟩; show out.length + 1 ≤ 2147483647; omega)
    | (rw [putW_has (by assumption)]; done)
    | (rw [putW_is (by assumption)]; done)
    | (rw [putW_ok (by assumption)]; done)
    | (rw [putW_yes (by assumption) (by assumption) (by assumption)]; done)
    | trace_state
theorem ok_impl_Closure_1 : FunOk Tryz.prog c_impl_Closure_1 := funOk (E := [c_impl_WordOk, c_slices_ContainsFunc_Word__impl_Closure_1_1, c_impl_Closure_1_1]) (envOk_cons ok_impl_WordOk (envOk_cons ok_slices_ContainsFunc_Word__impl_Closure_1_1 (envOk_cons ok_impl_Closure_1_1 (envOk_nil)))) mixd Tryz.func72 (pf := pf_impl_Closure_1) (by kernel_rfl) fun ts K h => by
  obtain ⟨t0, t1, e0, h⟩ := as2_out h
  subst e0
  obtain ⟨w, e1, hq⟩ := arG_out rd_word h
  clear h
  subst e1
  have h := hq
  clear hq
  obtain ⟨out, e1, hq⟩ := arQ_out (rd_o .word) h
  clear h
  subst e1
  have h := hq
  clear hq
  obtain ⟨hpre, h⟩ := chk_o h
  exact ⟨_, _, h, Nat.le_of_ble_eq_true (show Nat.ble 2 Tryz.f72.ntmps = true by kernel_rfl), _, run_impl_Closure_1 w out hpre⟩

def lb_impl_Closure_0 : PC := .seq (.reg [.s (.bin 22 .lss (.t 21) (.t 20))]) (.seq (.cond (.t 22) (.skip) (.exit 0)) (.seq (.blk 1 (.seq (.reg [.s (.ia 23 .word (.t 19) (.t 21)), .s (.load 24 true 6 (.t 23)), .s (.alloc 8 [.int .i64 0, .ff, .int .i64 0, .int .i64 0, .int .i64 0, .int .i64 0]), .s (.store 6 (.t 8) (.t 24))]) (.reg [.s (.mv 25 (.t 6)), .s (.load 26 true 6 (.t 8)), .s (.callv (some 27) (.t 25) [(.t 26)])]))) (.reg [.s (.bin 28 .add (.t 21) (.k (.v (.c (.int .i64 1))))), .s (.mv 21 (.t 28))])))
def lb_impl_Closure_1 : PC := .seq (.seq (.reg [.s (.mv 56 (.t 13)), .s (.mv 57 (.t 12)), .s (.bin 58 .lss (.t 56) (.t 57))]) (.cond (.t 58) (.skip) (.exit 4))) (.seq (.blk 5 (.reg [.s (.mv 61 (.t 6)), .s (.fa 62 (.t 2) 0), .s (.load 63 false 1 (.t 62)), .s (.mv 64 (.t 13)), .s (.ia 65 .word (.t 63) (.t 64)), .s (.load 66 true 6 (.t 65)), .s (.callv (some 67) (.t 61) [(.t 66)])])) (.reg [.s (.mv 59 (.t 13)), .s (.bin 60 .add (.t 59) (.k (.v (.c (.int .i64 1))))), .s (.mv 13 (.t 60))]))
def lb_impl_Closure_2 : PC := .seq (.seq (.reg [.s (.mv 29 (.t 9)), .s (.load 30 false 1 (.t 5)), .s (.len 31 false (.t 30)), .s (.bin 32 .lss (.t 29) (.t 31))]) (.cond (.t 32) (.skip) (.exit 2))) (.seq (.blk 3 (.seq (.reg [.s (.load 35 false 1 (.t 5)), .s (.mv 36 (.t 9)), .s (.ia 37 .word (.t 35) (.t 36)), .s (.fa 38 (.t 37) 2), .s (.load 39 true 4 (.t 38)), .s (.alloc 10 [.int .i64 0, .int .i64 0, .int .i64 0, .int .i64 0]), .s (.store 4 (.t 10) (.t 39))]) (.seq (.seq (.reg [.s (.fa 40 (.t 10) 2), .s (.load 41 false 1 (.t 40)), .s (.bin 42 .and (.t 41) (.k (.v (.c (.int .i64 1))))), .s (.bin 43 .eql (.t 42) (.k (.v (.c (.int .i64 0))))), .s (.mv 44 (.t 43)), .g 44 false (some 45) (.fa 45 (.t 10) 2), .g 44 false (some 46) (.load 46 false 1 (.t 45)), .g 44 false (some 47) (.bin 47 .and (.t 46) (.k (.v (.c (.int .i64 8))))), .g 44 false (some 48) (.bin 48 .eql (.t 47) (.k (.v (.c (.int .i64 0))))), .s (.pick 49 (.t 44) (.k (.v (.c .tt))) (.t 48))]) (.cond (.t 49) (.exit 3) (.skip))) (.seq (.reg [.s (.load 51 true 4 (.t 10)), .s (.call (some 52) 75 [(.t 51)]), .s (.mv 50 (.t 52)), .s (.ext 53 (.t 50) 0), .s (.ext 54 (.t 50) 1), .s (.mv 11 (.t 53)), .s (.mv 12 (.t 54))]) (.seq (.reg [.s (.mv 55 (.t 11)), .s (.mv 13 (.t 55))]) (.blk 4 (.loop [2, 5, 6, 9, 12, 13] lb_impl_Closure_1))))))) (.reg [.s (.mv 33 (.t 9)), .s (.bin 34 .add (.t 33) (.k (.v (.c (.int .i64 1))))), .s (.mv 9 (.t 34))]))
def pf_impl_Closure : PF := ⟨[.t 4], .seq (.reg [.s (.box 2 (.t 0)), .s (.mv 4 (.k (.v (.c (.nils .word)))))]) (.seq (.seq (.reg [.s (.load 14 true 2 (.t 2)), .s (.call (some 15) 70 [(.t 14)]), .s (.bnot 16 (.t 15))]) (.cond (.t 16) (.seq (.reg [.s (.mv 4 (.k (.v (.c (.nils .word)))))]) (.ret)) (.skip))) (.seq (.reg [.s (.bs 17 .word []), .s (.alloc 5 [.nils .word]), .s (.store 1 (.t 5) (.t 17))]) (.seq (.reg [.s (.mkf 18 72 [(.t 5)]), .s (.mv 6 (.t 18))]) (.seq (.seq (.reg [.s (.mv 19 (.t 1)), .s (.len 20 false (.t 19)), .s (.mv 21 (.k (.v (.c (.int .i64 0)))))]) (.blk 0 (.loop [2, 5, 6, 19, 20, 21] lb_impl_Closure_0))) (.seq (.seq (.reg [.s (.mv 9 (.k (.v (.c (.int .i64 0)))))]) (.blk 2 (.loop [2, 5, 6, 9] lb_impl_Closure_2))) (.seq (.reg [.s (.load 68 false 1 (.t 5)), .s (.mv 4 (.t 68))]) (.ret)))))))⟩
def c_impl_Closure : Fun := ⟨13, [], fun ts K => as2 ts fun t0 t1 => arG pMemT t0 fun m => arC (pL .word) t1 fun l => chk (LMem m 2147483647 ∧ l.length ≤ 1048576) (K (tL true .word (closure m l)) [])⟩
theorem run_impl_Closure (m : Mem) (l : List (FT.Ty .word)) (hpre : LMem m 2147483647 ∧ l.length ≤ 1048576) : runK [c_impl_MemoryOk, c_impl_Closure_1, c_impl_spanned] (l.length + 30) [] pf_impl_Closure [tG (m.tc false []), tL false .word l] fun r o => r = tL true .word (closure m l) ∧ o = [] := by
  obtain ⟨⟨l1, l2⟩, l3⟩ := hpre
  conv => whnf
  refine chk_i ⟨l1, l2⟩ ?_
  conv => whnf
  refine sel_i (fun h => ?_) (fun h => ?_)
  · conv => whnf
    repeat' (first | (refine sel_i (fun h => ?_) (fun h => ?_) <;> conv => whnf) | (refine chk_c ?_ ?_ <;> conv => whnf) | (refine And.intro ?_ rfl) | (refine And.intro ?_ ?_ <;> conv => whnf))
    simp only [etaMemory, Bool.not_eq_true'] at h
    simp only [closure, h]; rfl
  have hm : memoryOk m = true := by simpa using h
  clear h
  obtain ⟨m1, m2, m3⟩ := memoryOk_n hm
  rw [show closure m l = closGo m.words (l.length + 24) 0 (closFirst l) by simp only [closure, hm, if_true]]
  conv => whnf
  refine loop (α := Nat × List Word × Bool) (fun p => ⟨[(2, .v (.c (.ptr 0 0))), (5, .v (.c (.ptr 3 0))), (6, .fn 72 [.c (.ptr 3 0)]), (19, .v (.c (.sl false .word 5))), (20, .v (.c (.int .i64 (l.length : Int)))), (21, .v (.c (.int .i64 (p.1 : Int))))],
        [(5, some (.flat false .word none l)), (4, some (.flat true .word none p.2.1)), (3, some (.box true [.sl p.2.2 .word 4])), (2, some (.flat false .bool none m.gone)), (1, some (.flat false .word none m.words)), (0, some (.box true [.sl false .word 1, .sl false .bool 2]))], nums.tail.tail.tail.tail.tail.tail, [], false, []⟩)
      (fun p => p.1 ≤ l.length ∧ p.2.1 = (l.take p.1).foldl putW [] ∧ p.2.1.length ≤ p.1 ∧ WOut p.2.1) (fun p => l.length - p.1) (fun p R hI hR => ?_) (0, [], true) _ ⟨by simp, by simp, by simp, by simp [WOut]⟩ (by simp)
  obtain ⟨i, out, b⟩ := p
  obtain ⟨hi, hx, hl, hw⟩ := hI
  dsimp only at hi hx hl hw
  dsimp only
  conv => whnf
  refine sel_i (fun h => ?_) (fun h => ?_)
  · have hlt : i < l.length := by simp at h; omega
    clear h
    have hstep : (l.take (i + 1)).foldl putW [] = putW out (l.getD i (FT.zero .word)) := by rw [foldl_take _ _ (FT.zero .word) hlt, hx]
    have hlen := putW_len out (l.getD i (FT.zero .word))
    have hout := putW_out (w := l.getD i (FT.zero .word)) hw
    conv => whnf
    repeat' (first | (refine sel_i (fun h => ?_) (fun h => ?_) <;> conv => whnf) | (refine chk_c ?_ ?_ <;> conv => whnf) | (refine And.intro ?_ rfl) | (refine And.intro ?_ ?_ <;> conv => whnf))
    all_goals (try simp only [etaKey, etaWord, Int.toNat_natCast] at *)
    all_goals first
      | (refine ⟨?_⟩; omega)
      | (refine ⟨?_⟩; simp; omega)
      | (rw [wrap_id (n := (i : Int) + 1) (by omega) (by omega)]
         exact hR (i + 1, putW out (l.getD i (FT.zero .word)), false) ⟨by dsimp only; omega, hstep.symm, by dsimp only; omega, hout⟩ (by dsimp only; omega))
      | trace_state
  · have hge : i = l.length := by simp at h; omega
    clear h hR
    subst hge
    rw [List.take_of_length_le (Nat.le_refl _)] at hx
    conv => whnf
    refine loop (α := Nat × List Word × Bool) (fun p => ⟨[(2, .v (.c (.ptr 0 0))), (5, .v (.c (.ptr 3 0))), (6, .fn 72 [.c (.ptr 3 0)]), (9, .v (.c (.int .i64 (p.1 : Int))))],
          [(4, some (.flat true .word none p.2.1)), (3, some (.box true [.sl p.2.2 .word 4])), (2, some (.flat false .bool none m.gone)), (1, some (.flat false .word none m.words)), (0, some (.box true [.sl false .word 1, .sl false .bool 2]))], nums.tail.tail.tail.tail.tail, [], false, []⟩)
        (fun p => p.1 ≤ p.2.1.length ∧ closGo m.words (l.length + 24 - p.1) p.1 p.2.1 = closGo m.words (l.length + 24) 0 (closFirst l) ∧ p.2.1.length + missing m.words p.2.1 ≤ l.length + 24 ∧ WOut p.2.1) (fun p => l.length + 24 - p.1) (fun p R hI hR => ?_) (0, out, b) _
        ⟨by simp, by rw [hx]; rfl, by have := missing_le m.words out; dsimp only; omega, hw⟩ (by simp)
    clear hx hl hw
    obtain ⟨i, out, b⟩ := p
    obtain ⟨hi, hx, hl, hw⟩ := hI
    dsimp only at hi hx hl hw
    dsimp only
    conv => whnf
    refine sel_i (fun h => ?_) (fun h => ?_)
    · have hlt : i < out.length := by simp at h; omega
      clear h
      obtain ⟨b1, b2, b3⟩ := wout_bounds hw hlt
      rw [show l.length + 24 - i = (l.length + 24 - (i + 1)) + 1 by omega, closGo_step hlt] at hx
      conv => whnf
      repeat' (first | (refine sel_i (fun h => ?_) (fun h => ?_) <;> conv => whnf) | (refine chk_c ?_ ?_ <;> conv => whnf) | (refine And.intro ?_ rfl) | (refine And.intro ?_ ?_ <;> conv => whnf))
      all_goals simp only [andI_eq, Int.toNat_natCast] at *
      all_goals generalize hk : (out.getD i (FT.zero .word)).key = k at *
      all_goals try (refine ⟨?_⟩; first | omega | (simp; omega))
      · rw [wrap_id (n := (i : Int) + 1) (by omega) (by omega)]
        exact hR (i + 1, out, b) ⟨hlt, by rw [closStep_no (by simp [opens, *])] at hx; exact hx, hl, hw⟩ (by simp; omega)
      · rw [wrap_id (n := (i : Int) + 1) (by omega) (by omega)]
        exact hR (i + 1, out, b) ⟨hlt, by rw [closStep_no (by simp [opens, *])] at hx; exact hx, hl, hw⟩ (by simp; omega)
      have ho : opens k = true := by simp only [opens, *]; rfl
      refine loop (α := Int × List Word × Bool) (fun p => ⟨[(2, .v (.c (.ptr 0 0))), (5, .v (.c (.ptr 3 0))), (6, .fn 72 [.c (.ptr 3 0)]), (9, .v (.c (.int .i64 (i : Int)))), (12, .v (.c (.int .i64 (min k.top 24)))), (13, .v (.c (.int .i64 p.1)))],
            [(4, some (.flat true .word none p.2.1)), (3, some (.box true [.sl p.2.2 .word 4])), (2, some (.flat false .bool none m.gone)), (1, some (.flat false .word none m.words)), (0, some (.box true [.sl false .word 1, .sl false .bool 2]))], nums.tail.tail.tail.tail.tail, [], false, []⟩)
          (fun p => 0 ≤ p.1 ∧ scan m.words (min k.top 24 - p.1).toNat p.1.toNat p.2.1 = closStep m.words out k ∧ p.2.1.length + missing m.words p.2.1 ≤ l.length + 24 ∧ WOut p.2.1 ∧ out.length ≤ p.2.1.length) (fun p => (min k.top 24 - p.1).toNat) (fun p R2 hI2 hR2 => ?_) (k.base, out, b) _
          ⟨b1, by rw [closStep_yes ho], hl, hw, Nat.le_refl _⟩ (by dsimp only; omega)
      obtain ⟨c, out2, b2⟩ := p
      obtain ⟨gc, gx, gl, gw, gm⟩ := hI2
      dsimp only at gc gx gl gw gm
      dsimp only
      conv => whnf
      refine sel_i (fun h => ?_) (fun h => ?_)
      · have hc : c < min k.top 24 := by simpa using h
        clear h
        rw [show (min k.top 24 - c).toNat = (min k.top 24 - (c + 1)).toNat + 1 by omega, scan, show c.toNat + 1 = (c + 1).toNat by omega] at gx
        have hmem := getD_mem (ws := m.words) (c := c.toNat) (by omega)
        have hp := missing_put (out := out2) hmem
        have hpo := putW_out (w := m.words.getD c.toNat (FT.zero .word)) gw
        have hpl := putW_len out2 (m.words.getD c.toNat (FT.zero .word))
        conv => whnf
        repeat' (first | (refine sel_i (fun h => ?_) (fun h => ?_) <;> conv => whnf) | (refine chk_c ?_ ?_ <;> conv => whnf) | (refine And.intro ?_ rfl) | (refine And.intro ?_ ?_ <;> conv => whnf))
        all_goals (try simp only [etaKey, etaWord] at *)
        all_goals generalize m.words.getD c.toNat (FT.zero .word) = w at *
        all_goals try (refine ⟨?_⟩; first | omega | (simp; omega))
        rw [wrap_id (n := c + 1) (by omega) (by omega)]
        exact hR2 (c + 1, putW out2 w, false) ⟨by dsimp only; omega, gx, by dsimp only; omega, hpo, by dsimp only; omega⟩ (by dsimp only; omega)
      · have hc : min k.top 24 ≤ c := by simp at h; omega
        rw [show (min k.top 24 - c).toNat = 0 by omega, scan] at gx
        conv => whnf
        rw [wrap_id (n := (i : Int) + 1) (by omega) (by omega)]
        exact hR (i + 1, out2, b2) ⟨by dsimp only; omega, by rw [gx]; exact hx, gl, gw⟩ (by simp; omega)
    · have hge : out.length ≤ i := by simp at h; omega
      rw [closGo_end hge] at hx
      rw [← hx]
      conv => whnf
      exact ⟨rfl, rfl⟩
theorem ok_impl_Closure : FunOk Tryz.prog c_impl_Closure := funOk (E := [c_impl_MemoryOk, c_impl_Closure_1, c_impl_spanned]) (envOk_cons ok_impl_MemoryOk (envOk_cons ok_impl_Closure_1 (envOk_cons ok_impl_spanned (envOk_nil)))) mixd Tryz.func13 (pf := pf_impl_Closure) (by kernel_rfl) fun ts K h => by
  obtain ⟨t0, t1, e0, h⟩ := as2_out h
  subst e0
  obtain ⟨m, e1, hq⟩ := arG_out rd_mem h
  clear h
  subst e1
  have h := hq
  clear hq
  obtain ⟨l, e1, hq⟩ := arC_out (rd_l .word) h
  clear h
  subst e1
  have h := hq
  clear hq
  obtain ⟨hpre, h⟩ := chk_o h
  exact ⟨_, _, h, Nat.le_of_ble_eq_true (show Nat.ble 2 Tryz.f13.ntmps = true by kernel_rfl), _, run_impl_Closure m l hpre⟩

def hasP (w : Word) (p : Int) : Bool := w.is && (andI w.key.perms p != 0)
theorem scan_out {ws : List Word} : ∀ (n c : Nat) {out : List Word}, WOut out → WOut (scan ws n c out)
  | 0, _, _, h => h
  | n + 1, c, out, h => scan_out n (c + 1) (putW_out h)
theorem closGo_out {ws : List Word} : ∀ (n i : Nat) {out : List Word}, WOut out → WOut (closGo ws n i out)
  | 0, _, _, h => h
  | n + 1, i, out, h => by
    unfold closGo
    split
    · refine closGo_out n (i + 1) ?_
      unfold closStep
      split
      · exact scan_out _ _ h
      · exact h
    · exact h
theorem foldPut_out : ∀ (l : List Word) {out : List Word}, WOut out → WOut (l.foldl putW out)
  | [], _, h => h
  | w :: l, _, h => foldPut_out l (putW_out h)
theorem foldPut_len : ∀ (l : List Word) (out : List Word), (l.foldl putW out).length ≤ out.length + l.length
  | [], _ => by simp
  | w :: l, out => by
    have := foldPut_len l (putW out w)
    have := (putW_len out w).2
    simp only [List.foldl_cons, List.length_cons]; omega
theorem closure_out (m : Mem) (l : List Word) : WOut (closure m l) := by
  unfold closure
  split
  · exact closGo_out _ _ (foldPut_out l (by simp [WOut]))
  · simp [WOut]
theorem missing_zero (out : List Word) (w : Word) (ws : List Word) (hw : w = FT.zero .word) : putW out w = out := by
  subst hw; exact putW_is rfl
theorem scan_miss {ws : List Word} : ∀ (n c : Nat) (out : List Word), (scan ws n c out).length + missing ws (scan ws n c out) ≤ out.length + missing ws out
  | 0, _, _ => Nat.le_refl _
  | n + 1, c, out => by
    unfold scan
    refine Nat.le_trans (scan_miss n (c + 1) _) ?_
    by_cases hc : c < ws.length
    · exact missing_put (getD_mem hc)
    · rw [missing_zero out _ ws (by simp [List.getD_eq_getElem?_getD, show ws.length ≤ c by omega])]
      exact Nat.le_refl _
theorem closGo_miss {ws : List Word} : ∀ (n i : Nat) (out : List Word), (closGo ws n i out).length + missing ws (closGo ws n i out) ≤ out.length + missing ws out
  | 0, _, _ => Nat.le_refl _
  | n + 1, i, out => by
    unfold closGo
    split
    · refine Nat.le_trans (closGo_miss n (i + 1) _) ?_
      unfold closStep
      split
      · exact scan_miss _ _ _
      · exact Nat.le_refl _
    · exact Nat.le_refl _
theorem closure_len (m : Mem) (l : List Word) : (closure m l).length ≤ l.length + 24 := by
  unfold closure
  split
  · rename_i h
    have h1 := closGo_miss (ws := m.words) (l.length + 24) 0 (closFirst l)
    have h2 := foldPut_len l []
    have h3 := missing_le m.words (closFirst l)
    have h4 := (memoryOk_n h).1
    simp only [closFirst, List.length_nil] at *
    omega
  · simp
def canSeal (m : Mem) (l : List Word) : Bool := (closure m l).any (fun w => hasP w 32)
theorem hasP_is {out : List Word} (h : WOut out) {w : Word} (hw : w ∈ out) (p : Int) : hasP w p = (andI w.key.perms p != 0) := by simp [hasP, (h w hw).2]

def pf_impl_has : PF := ⟨[.t 4], .seq (.reg [.s (.box 2 (.t 0)), .s (.mv 4 (.k (.v (.c .ff))))]) (.seq (.reg [.s (.fa 5 (.t 2) 1), .s (.load 6 false 1 (.t 5)), .s (.mv 7 (.t 6)), .g 7 true (some 8) (.fa 8 (.t 2) 2), .g 7 true (some 9) (.fa 9 (.t 8) 2), .g 7 true (some 10) (.load 10 false 1 (.t 9)), .g 7 true (some 11) (.mv 11 (.t 1)), .g 7 true (some 12) (.bin 12 .and (.t 10) (.t 11)), .g 7 true (some 13) (.bin 13 .neq (.t 12) (.k (.v (.c (.int .i64 0))))), .s (.pick 14 (.t 7) (.t 13) (.k (.v (.c .ff)))), .s (.mv 4 (.t 14))]) (.ret))⟩
def c_impl_has : Fun := ⟨148, [], fun ts K => as2 ts fun t0 t1 => arG pWordT t0 fun w => arC (pI .i64) t1 fun p => K (tB (hasP w p)) []⟩
theorem run_impl_has (w : Word) (p : Int) : runK [] (0) [] pf_impl_has [tG (w.tc []), tI .i64 p] fun r o => r = tB (hasP w p) ∧ o = [] := by
  conv => whnf
  repeat' (first | (refine sel_i (fun h => ?_) (fun h => ?_) <;> conv => whnf) | (refine chk_c ?_ ?_ <;> conv => whnf) | (refine And.intro ?_ rfl) | (refine And.intro ?_ ?_ <;> conv => whnf))
  all_goals (try simp only [andI_eq] at *)
  all_goals (simp_all [hasP]; done)
theorem ok_impl_has : FunOk Tryz.prog c_impl_has := funOk (E := []) (envOk_nil) mixd Tryz.func148 (pf := pf_impl_has) (by kernel_rfl) fun ts K h => by
  obtain ⟨t0, t1, e0, h⟩ := as2_out h
  subst e0
  obtain ⟨w, e1, hq⟩ := arG_out rd_word h
  clear h
  subst e1
  have h := hq
  clear hq
  obtain ⟨p, e1, hq⟩ := arC_out (rd_int .i64) h
  clear h
  subst e1
  have h := hq
  clear hq
  exact ⟨_, _, h, Nat.le_of_ble_eq_true (show Nat.ble 2 Tryz.f148.ntmps = true by kernel_rfl), _, run_impl_has w p⟩

def pf_impl_CanSeal_1 : PF := ⟨[.t 2], .seq (.reg [.s (.box 1 (.t 0)), .s (.mv 2 (.k (.v (.c .ff))))]) (.seq (.reg [.s (.load 3 true 6 (.t 1)), .s (.call (some 4) 148 [(.t 3), (.k (.v (.c (.int .i64 32))))]), .s (.mv 2 (.t 4))]) (.ret))⟩
def c_impl_CanSeal_1 : Fun := ⟨175, [], fun ts K => as1 ts fun t0 => arG pWordT t0 fun w => K (tB (hasP w 32)) []⟩
theorem run_impl_CanSeal_1 (w : Word) : runK [c_impl_has] (0) [] pf_impl_CanSeal_1 [tG (w.tc [])] fun r o => r = tB (hasP w 32) ∧ o = [] := by
  conv => whnf
  repeat' (first
    | exact rfl
    | exact trivial
    | (refine sel_i (fun h => ?_) (fun h => ?_) <;> conv => whnf)
    | (refine chk_c ?_ ?_ <;> conv => whnf)
    | (refine And.intro ?_ ?_ <;> conv => whnf))
theorem ok_impl_CanSeal_1 : FunOk Tryz.prog c_impl_CanSeal_1 := funOk (E := [c_impl_has]) (envOk_cons ok_impl_has (envOk_nil)) mixd Tryz.func175 (pf := pf_impl_CanSeal_1) (by kernel_rfl) fun ts K h => by
  obtain ⟨t0, e0, h⟩ := as1_out h
  subst e0
  obtain ⟨w, e1, hq⟩ := arG_out rd_word h
  clear h
  subst e1
  have h := hq
  clear hq
  exact ⟨_, _, h, Nat.le_of_ble_eq_true (show Nat.ble 1 Tryz.f175.ntmps = true by kernel_rfl), _, run_impl_CanSeal_1 w⟩

def c_slices_IndexFunc_Word__impl_CanSeal_1 : Fun := ⟨147, [], fun ts K => as2 ts fun t0 t1 => arC (pL .word) t0 fun xs => arF0 175 t1 fun g => chk (xs.length ≤ 2147483647) (K (tN (idxOf (fun w => hasP w 32) xs)) [])⟩
theorem run_slices_IndexFunc_Word__impl_CanSeal_1 (xs : List (FT.Ty .word)) (g : Unit) (hpre : xs.length ≤ 2147483647) : runK [c_impl_CanSeal_1] (xs.length + 1) [] pf_slices_IndexFunc_Word [tL false .word xs, .fn 175 []] fun r o => r = tN (idxOf (fun w => hasP w 32) xs) ∧ o = [] := by
  conv => whnf
  refine loop (α := Nat) (fun i => ⟨[(0, .v (.c (.sl false .word 0))), (1, .fn 175 []), (7, .v (.c (.int .i64 (xs.length : Int)))), (8, .v (.c (.int .i64 (i : Int))))], [(0, some (.flat false .word none xs))], nums.tail, [], false, []⟩)
      (fun i => i ≤ xs.length ∧ idxOf (fun w => hasP w 32) xs = idxGo (fun w => hasP w 32) (xs.drop i) i) (fun i => xs.length - i) (fun i R hI hR => ?_) 0 _ ⟨by simp, rfl⟩ (by simp)
  obtain ⟨hi, hx⟩ := hI
  conv => whnf
  refine sel_i (fun h2 => ?_) (fun h2 => ?_)
  · have hlt : i < xs.length := by simp at h2; omega
    conv => whnf
    repeat (refine chk_i (by first | omega | (simp; omega)) ?_; conv => whnf)
    refine sel_i (fun h3 => ?_) (fun h3 => ?_)
    · conv => whnf
      rw [hx, idxGo_yes (z := FT.zero .word) hlt (by first | (simp only [keyEq] at h3; exact h3) | (simpa using h3))]
      exact ⟨rfl, rfl⟩
    · conv => whnf
      rw [wrap_id (n := (i : Int) + 1) (by omega) (by omega)]
      exact hR (i + 1) ⟨by omega, by rw [hx, idxGo_no (z := FT.zero .word) hlt (by first | (simp only [keyEq] at h3; exact h3) | (simpa using h3))]⟩ (by omega)
  · conv => whnf
    rw [hx, idxGo_end (by simp at h2; omega)]
    exact ⟨rfl, rfl⟩
theorem ok_slices_IndexFunc_Word__impl_CanSeal_1 : FunOk Tryz.prog c_slices_IndexFunc_Word__impl_CanSeal_1 := funOk (E := [c_impl_CanSeal_1]) (envOk_cons ok_impl_CanSeal_1 (envOk_nil)) mixd Tryz.func147 (pf := pf_slices_IndexFunc_Word) (by kernel_rfl) fun ts K h => by
  obtain ⟨t0, t1, e0, h⟩ := as2_out h
  subst e0
  obtain ⟨xs, e1, hq⟩ := arC_out (rd_l .word) h
  clear h
  subst e1
  have h := hq
  clear hq
  obtain ⟨g, e1, hq⟩ := arF0_out h
  clear h
  subst e1
  have h := hq
  clear hq
  obtain ⟨hpre, h⟩ := chk_o h
  exact ⟨_, _, h, Nat.le_of_ble_eq_true (show Nat.ble 2 Tryz.f147.ntmps = true by kernel_rfl), _, run_slices_IndexFunc_Word__impl_CanSeal_1 xs g hpre⟩

def c_slices_ContainsFunc_Word__impl_CanSeal_1 : Fun := ⟨73, [], fun ts K => as2 ts fun t0 t1 => arC (pL .word) t0 fun xs => arF0 175 t1 fun g => chk (xs.length ≤ 2147483647) (K (tB (xs.any (fun w => hasP w 32))) [])⟩
theorem run_slices_ContainsFunc_Word__impl_CanSeal_1 (xs : List (FT.Ty .word)) (g : Unit) (hpre : xs.length ≤ 2147483647) : runK [c_slices_IndexFunc_Word__impl_CanSeal_1, c_impl_CanSeal_1] (0) [] pf_slices_ContainsFunc_Word [tL false .word xs, .fn 175 []] fun r o => r = tB (xs.any (fun w => hasP w 32)) ∧ o = [] := by
  conv => whnf
  repeat' (first | (refine sel_i (fun h => ?_) (fun h => ?_) <;> conv => whnf) | (refine chk_c ?_ ?_ <;> conv => whnf) | (refine And.intro ?_ rfl) | (refine And.intro ?_ ?_ <;> conv => whnf))
  all_goals first | (refine ⟨?_⟩; exact hpre) | exact hpre | (rw [← idxOf_any]; rfl) | (rw [← idxOf_any])
theorem ok_slices_ContainsFunc_Word__impl_CanSeal_1 : FunOk Tryz.prog c_slices_ContainsFunc_Word__impl_CanSeal_1 := funOk (E := [c_slices_IndexFunc_Word__impl_CanSeal_1, c_impl_CanSeal_1]) (envOk_cons ok_slices_IndexFunc_Word__impl_CanSeal_1 (envOk_cons ok_impl_CanSeal_1 (envOk_nil))) mixd Tryz.func73 (pf := pf_slices_ContainsFunc_Word) (by kernel_rfl) fun ts K h => by
  obtain ⟨t0, t1, e0, h⟩ := as2_out h
  subst e0
  obtain ⟨xs, e1, hq⟩ := arC_out (rd_l .word) h
  clear h
  subst e1
  have h := hq
  clear hq
  obtain ⟨g, e1, hq⟩ := arF0_out h
  clear h
  subst e1
  have h := hq
  clear hq
  obtain ⟨hpre, h⟩ := chk_o h
  exact ⟨_, _, h, Nat.le_of_ble_eq_true (show Nat.ble 2 Tryz.f73.ntmps = true by kernel_rfl), _, run_slices_ContainsFunc_Word__impl_CanSeal_1 xs g hpre⟩

def pf_impl_CanSeal : PF := ⟨[.t 4], .seq (.reg [.s (.box 2 (.t 0)), .s (.mv 4 (.k (.v (.c .ff))))]) (.seq (.reg [.s (.load 5 true 2 (.t 2)), .s (.mv 6 (.t 1)), .s (.call (some 7) 13 [(.t 5), (.t 6)]), .s (.call (some 8) 73 [(.t 7), (.k (.fn 175 []))]), .s (.mv 4 (.t 8))]) (.ret))⟩
def c_impl_CanSeal : Fun := ⟨111, [], fun ts K => as2 ts fun t0 t1 => arG pMemT t0 fun m => arC (pL .word) t1 fun l => chk (LMem m 2147483647 ∧ l.length ≤ 1048576) (K (tB (canSeal m l)) [])⟩
theorem run_impl_CanSeal (m : Mem) (l : List (FT.Ty .word)) (hpre : LMem m 2147483647 ∧ l.length ≤ 1048576) : runK [c_impl_Closure, c_slices_ContainsFunc_Word__impl_CanSeal_1, c_impl_CanSeal_1] (0) [] pf_impl_CanSeal [tG (m.tc false []), tL false .word l] fun r o => r = tB (canSeal m l) ∧ o = [] := by
  have h1 := closure_len m l
  conv => whnf
  repeat' (first | (refine sel_i (fun h => ?_) (fun h => ?_) <;> conv => whnf) | (refine chk_c ?_ ?_ <;> conv => whnf) | (refine And.intro ?_ rfl) | (refine And.intro ?_ ?_ <;> conv => whnf))
  all_goals first
    | (refine ⟨?_⟩; exact hpre)
    | (refine ⟨?_⟩; simp only [etaMemory]; omega)
    | rfl
    | trace_state
theorem ok_impl_CanSeal : FunOk Tryz.prog c_impl_CanSeal := funOk (E := [c_impl_Closure, c_slices_ContainsFunc_Word__impl_CanSeal_1, c_impl_CanSeal_1]) (envOk_cons ok_impl_Closure (envOk_cons ok_slices_ContainsFunc_Word__impl_CanSeal_1 (envOk_cons ok_impl_CanSeal_1 (envOk_nil)))) mixd Tryz.func111 (pf := pf_impl_CanSeal) (by kernel_rfl) fun ts K h => by
  obtain ⟨t0, t1, e0, h⟩ := as2_out h
  subst e0
  obtain ⟨m, e1, hq⟩ := arG_out rd_mem h
  clear h
  subst e1
  have h := hq
  clear hq
  obtain ⟨l, e1, hq⟩ := arC_out (rd_l .word) h
  clear h
  subst e1
  have h := hq
  clear hq
  obtain ⟨hpre, h⟩ := chk_o h
  exact ⟨_, _, h, Nat.le_of_ble_eq_true (show Nat.ble 2 Tryz.f111.ntmps = true by kernel_rfl), _, run_impl_CanSeal m l hpre⟩

def lb_spec_CanSeal_0 : PC := .seq (.seq (.reg [.s (.mv 10 (.t 6)), .s (.mv 11 (.t 5)), .s (.len 12 false (.t 11)), .s (.bin 13 .lss (.t 10) (.t 12))]) (.cond (.t 13) (.skip) (.exit 0))) (.seq (.blk 1 (.seq (.reg [.s (.mv 16 (.t 5)), .s (.mv 17 (.t 6)), .s (.ia 18 .word (.t 16) (.t 17)), .s (.fa 19 (.t 18) 2), .s (.fa 20 (.t 19) 2), .s (.load 21 false 1 (.t 20)), .s (.bin 22 .and (.t 21) (.k (.v (.c (.int .i64 32))))), .s (.bin 23 .neq (.t 22) (.k (.v (.c (.int .i64 0)))))]) (.cond (.t 23) (.seq (.reg [.s (.mv 4 (.k (.v (.c .tt))))]) (.ret)) (.skip)))) (.reg [.s (.mv 14 (.t 6)), .s (.bin 15 .add (.t 14) (.k (.v (.c (.int .i64 1))))), .s (.mv 6 (.t 15))]))
def pf_spec_CanSeal : PF := ⟨[.t 4], .seq (.reg [.s (.box 2 (.t 0)), .s (.mv 4 (.k (.v (.c .ff))))]) (.seq (.reg [.s (.load 7 true 2 (.t 2)), .s (.mv 8 (.t 1)), .s (.call (some 9) 179 [(.t 7), (.t 8)]), .s (.mv 5 (.t 9))]) (.seq (.seq (.reg [.s (.mv 6 (.k (.v (.c (.int .i64 0)))))]) (.blk 0 (.loop [5, 6] lb_spec_CanSeal_0))) (.seq (.reg [.s (.mv 4 (.k (.v (.c .ff))))]) (.ret))))⟩
def c_spec_CanSeal : Fun := ⟨114, [], fun ts K => as2 ts fun t0 t1 => arG pMemT t0 fun m => arC (pL .word) t1 fun l => chk (LMem m 2147483647 ∧ l.length ≤ 1048576) (K (tB (canSeal m l)) [])⟩
theorem run_spec_CanSeal (m : Mem) (l : List (FT.Ty .word)) (hpre : LMem m 2147483647 ∧ l.length ≤ 1048576) : runK [c_spec_Closure] (l.length + 30) [] pf_spec_CanSeal [tG (m.tc false []), tL false .word l] fun r o => r = tB (canSeal m l) ∧ o = [] := by
  have h1 := closure_len m l
  have h2 := closure_out m l
  conv => whnf
  refine chk_i hpre ?_
  conv => whnf
  simp only [etaMemory]
  refine loop (α := Nat) (fun i => ⟨[(5, .v (.c (.sl false .word 0))), (6, .v (.c (.int .i64 (i : Int))))], [(0, some (.flat true .word none (closure m l)))], nums.tail, [], false, []⟩)
      (fun i => i ≤ (closure m l).length ∧ ((closure m l).drop i).any (fun w => hasP w 32) = canSeal m l) (fun i => (closure m l).length - i) (fun i R hI hR => ?_) 0 _ ⟨by simp, by simp [canSeal]⟩ (by omega)
  obtain ⟨hi, hx⟩ := hI
  conv => whnf
  repeat' (first | (refine sel_i (fun h => ?_) (fun h => ?_) <;> conv => whnf) | (refine chk_c ?_ ?_ <;> conv => whnf) | (refine And.intro ?_ rfl) | (refine And.intro ?_ ?_ <;> conv => whnf))
  all_goals simp only [andI_eq, Int.toNat_natCast, decide_eq_true_eq, decide_eq_false_iff_not] at *
  all_goals first
    | (refine ⟨?_⟩; omega)
    | (rw [show canSeal m l = true from any_yes (z := FT.zero .word) (by omega) (by rw [hasP_is h2 (getD_mem (by omega))]; assumption) hx]; done)
    | (rw [show canSeal m l = false from any_end (by omega) hx]; done)
    | (rw [wrap_id (n := (i : Int) + 1) (by omega) (by omega)]; exact hR (i + 1) ⟨by omega, any_no (z := FT.zero .word) (by omega) (by rw [hasP_is h2 (getD_mem (by omega))]; assumption) hx⟩ (by omega))
    | trace_state
theorem ok_spec_CanSeal : FunOk Tryz.prog c_spec_CanSeal := funOk (E := [c_spec_Closure]) (envOk_cons ok_spec_Closure (envOk_nil)) mixd Tryz.func114 (pf := pf_spec_CanSeal) (by kernel_rfl) fun ts K h => by
  obtain ⟨t0, t1, e0, h⟩ := as2_out h
  subst e0
  obtain ⟨m, e1, hq⟩ := arG_out rd_mem h
  clear h
  subst e1
  have h := hq
  clear hq
  obtain ⟨l, e1, hq⟩ := arC_out (rd_l .word) h
  clear h
  subst e1
  have h := hq
  clear hq
  obtain ⟨hpre, h⟩ := chk_o h
  exact ⟨_, _, h, Nat.le_of_ble_eq_true (show Nat.ble 2 Tryz.f114.ntmps = true by kernel_rfl), _, run_spec_CanSeal m l hpre⟩

def U8s (b : List Int) : Prop := ∀ x ∈ b, 0 ≤ x ∧ x ≤ 255
theorem U8s.at {b : List Int} (h : U8s b) (i : Nat) : 0 ≤ b.getD i 0 ∧ b.getD i 0 ≤ 255 := by
  rw [List.getD_eq_getElem?_getD]
  cases e : b[i]? with
  | none => simp
  | some x => exact h x (List.mem_of_getElem? e)
theorem wordOk_n {w : Word} (h : wordOk w = true) : 0 ≤ w.n ∧ w.n ≤ 65535 := by
  simp only [wordOk, Bool.and_eq_true] at h; simpa [inR] using h.1
theorem U8s.win {b : List Int} (h : U8s b) (o n : Nat) : U8s (win b o n) := fun x hx => h x (List.mem_of_mem_drop (List.mem_of_mem_take hx))


def filt (f : Nat → Bool) (n : Nat) : List Int := ((List.range n).filter f).map (fun c : Nat => (c : Int))
theorem filt_yes {f : Nat → Bool} {n : Nat} (h : f n = true) : filt f (n + 1) = filt f n ++ [(n : Int)] := by simp [filt, List.range_succ, List.filter_append, h]
theorem filt_no {f : Nat → Bool} {n : Nat} (h : f n = false) : filt f (n + 1) = filt f n := by simp [filt, List.range_succ, List.filter_append, h]
theorem filt_len (f : Nat → Bool) (n : Nat) : (filt f n).length ≤ n := by
  have := List.length_filter_le f (List.range n)
  simp [filt] at this ⊢; exact this
def coverP (ws : List Word) (p : Int) (c : Nat) : Bool := ws.any (fun w => hasP w p && inR c w.key.base (w.key.top - 1))
def cellsBy (m : Mem) (l : List Word) (p : Int) : List Int := filt (coverP (closure m l) p) 24
theorem any_take {α : Type} (p : α → Bool) {xs : List α} {i : Nat} (z : α) (h : i < xs.length) : (xs.take (i + 1)).any p = ((xs.take i).any p || p (xs.getD i z)) := by
  have e : xs.getD i z = xs[i] := by simp [List.getD_eq_getElem?_getD, h]
  rw [List.take_add_one, List.getElem?_eq_getElem h, List.any_append, e]; simp
theorem getD_set {α : Type} (xs : List α) (i j : Nat) (v d : α) (h : j < xs.length) : (xs.set i v).getD j d = if i = j then v else xs.getD j d := by
  simp only [List.getD_eq_getElem?_getD, List.getElem?_set]
  by_cases e : i = j
  · subst e; simp [h]
  · simp [e]
theorem rep_getD {α : Type} {n c : Nat} {x d : α} (h : c < n) : (List.replicate n x).getD c d = x := by
  simp only [List.getD_eq_getElem?_getD, List.getElem?_replicate, if_pos h, Option.getD_some]

def lb_spec_l21Cells_0 : PC := .seq (.seq (.reg [.s (.mv 20 (.t 10)), .s (.mv 21 (.t 7)), .s (.len 22 false (.t 21)), .s (.bin 23 .lss (.t 20) (.t 22))]) (.cond (.t 23) (.skip) (.exit 2))) (.seq (.blk 3 (.seq (.reg [.s (.mv 26 (.t 7)), .s (.mv 27 (.t 10)), .s (.ia 28 .word (.t 26) (.t 27)), .s (.fa 29 (.t 28) 2), .s (.load 30 true 4 (.t 29)), .s (.alloc 11 [.int .i64 0, .int .i64 0, .int .i64 0, .int .i64 0]), .s (.store 4 (.t 11) (.t 30))]) (.seq (.reg [.s (.fa 31 (.t 11) 2), .s (.load 32 false 1 (.t 31)), .s (.mv 33 (.t 2)), .s (.bin 34 .and (.t 32) (.t 33)), .s (.bin 35 .neq (.t 34) (.k (.v (.c (.int .i64 0))))), .s (.mv 36 (.t 35)), .g 36 true (some 37) (.mv 37 (.t 9)), .g 36 true (some 38) (.fa 38 (.t 11) 0), .g 36 true (some 39) (.load 39 false 1 (.t 38)), .g 36 true (some 40) (.fa 40 (.t 11) 1), .g 36 true (some 41) (.load 41 false 1 (.t 40)), .g 36 true (some 42) (.bin 42 .sub (.t 41) (.k (.v (.c (.int .i64 1))))), .g 36 true (some 43) (.call (some 43) 102 [(.t 37), (.t 39), (.t 42)]), .s (.pick 44 (.t 36) (.t 43) (.k (.v (.c .ff))))]) (.cond (.t 44) (.seq (.reg [.s (.mv 45 (.t 8)), .s (.mv 46 (.t 9)), .s (.bs 47 (.int .i64) [(.t 46)]), .s (.app 48 (.int .i64) (.t 45) (.t 47)), .s (.mv 8 (.t 48))]) (.exit 2)) (.skip))))) (.reg [.s (.mv 24 (.t 10)), .s (.bin 25 .add (.t 24) (.k (.v (.c (.int .i64 1))))), .s (.mv 10 (.t 25))]))
def lb_spec_l21Cells_1 : PC := .seq (.seq (.reg [.s (.mv 16 (.t 9)), .s (.bin 17 .lss (.t 16) (.k (.v (.c (.int .i64 24)))))]) (.cond (.t 17) (.skip) (.exit 0))) (.seq (.blk 1 (.seq (.reg [.s (.mv 10 (.k (.v (.c (.int .i64 0)))))]) (.blk 2 (.loop [2, 7, 8, 9, 10] lb_spec_l21Cells_0)))) (.reg [.s (.mv 18 (.t 9)), .s (.bin 19 .add (.t 18) (.k (.v (.c (.int .i64 1))))), .s (.mv 9 (.t 19))]))
def pf_spec_l21Cells : PF := ⟨[.t 6], .seq (.reg [.s (.box 3 (.t 0)), .s (.mv 6 (.k (.v (.c (.nils (.int .i64))))))]) (.seq (.reg [.s (.load 12 true 2 (.t 3)), .s (.mv 13 (.t 1)), .s (.call (some 14) 179 [(.t 12), (.t 13)]), .s (.mv 7 (.t 14))]) (.seq (.reg [.s (.bs 15 (.int .i64) []), .s (.mv 8 (.t 15))]) (.seq (.seq (.reg [.s (.mv 9 (.k (.v (.c (.int .i64 0)))))]) (.blk 0 (.loop [2, 7, 8, 9] lb_spec_l21Cells_1))) (.seq (.reg [.s (.mv 49 (.t 8)), .s (.mv 6 (.t 49))]) (.ret)))))⟩
def c_spec_l21Cells : Fun := ⟨180, [], fun ts K => as3 ts fun t0 t1 t2 => arG pMemT t0 fun m => arC (pL .word) t1 fun l => arC (pI .i64) t2 fun p => chk (LMem m 2147483647 ∧ l.length ≤ 1048576) (K (tL true (.int .i64) (cellsBy m l p)) [])⟩
theorem run_spec_l21Cells (m : Mem) (l : List (FT.Ty .word)) (p : Int) (hpre : LMem m 2147483647 ∧ l.length ≤ 1048576) : runK [c_spec_l1In, c_spec_Closure] (l.length + 30) [] pf_spec_l21Cells [tG (m.tc false []), tL false .word l, tI .i64 p] fun r o => r = tL true (.int .i64) (cellsBy m l p) ∧ o = [] := by
  have h1 := closure_len m l
  have h2 := closure_out m l
  conv => whnf
  refine chk_i hpre ?_
  conv => whnf
  simp only [etaMemory]
  unfold cellsBy
  generalize closure m l = ws at *
  refine loop (α := Nat × List Int) (fun q => ⟨[(2, .v (.c (.int .i64 p))), (7, .v (.c (.sl false .word 0))), (8, .v (.c (.sl true (.int .i64) 1))), (9, .v (.c (.int .i64 (q.1 : Int))))],
        [(1, some (.flat true (.int .i64) none q.2)), (0, some (.flat true .word none ws))], nums.tail.tail, [], false, []⟩)
      (fun q => q.1 ≤ 24 ∧ q.2 = filt (coverP ws p) q.1) (fun q => 24 - q.1) (fun q R hI hR => ?_) (0, []) _ ⟨by simp, rfl⟩ (by dsimp only; omega)
  obtain ⟨c, out⟩ := q
  obtain ⟨hc, hx⟩ := hI
  dsimp only at hc hx
  dsimp only
  have hol : out.length ≤ c := by rw [hx]; exact filt_len _ _
  conv => whnf
  refine sel_i (fun h => ?_) (fun h => ?_)
  · have hc2 : c < 24 := by simp at h; omega
    clear h
    conv => whnf
    refine loop (α := Nat) (fun i => ⟨[(2, .v (.c (.int .i64 p))), (7, .v (.c (.sl false .word 0))), (8, .v (.c (.sl true (.int .i64) 1))), (9, .v (.c (.int .i64 (c : Int)))), (10, .v (.c (.int .i64 (i : Int))))],
          [(1, some (.flat true (.int .i64) none out)), (0, some (.flat true .word none ws))], nums.tail.tail, [], false, []⟩)
        (fun i => i ≤ ws.length ∧ (ws.drop i).any (fun w => hasP w p && inR c w.key.base (w.key.top - 1)) = coverP ws p c) (fun i => ws.length - i) (fun i R2 hI2 hR2 => ?_) 0 _ ⟨by simp, by simp [coverP]⟩ (by omega)
    obtain ⟨hi, hy⟩ := hI2
    conv => whnf
    refine sel_i (fun h => ?_) (fun h => ?_)
    · have hlt : i < ws.length := by simpa using h
      clear h
      obtain ⟨b1, b2, b3⟩ := wout_bounds h2 hlt
      have hh := hasP_is h2 (getD_mem hlt) p
      have w1 : IntKind.i64.wrap ((ws.getD i (FT.zero .word)).key.top - 1) = (ws.getD i (FT.zero .word)).key.top - 1 := wrap_id (by omega) (by omega)
      conv => whnf
      repeat' (first | (refine sel_i (fun h => ?_) (fun h => ?_) <;> conv => whnf) | (refine chk_c ?_ ?_ <;> conv => whnf) | (refine And.intro ?_ rfl) | (refine And.intro ?_ ?_ <;> conv => whnf))
      all_goals (try simp only [andI_eq, Int.toNat_natCast, w1] at *)
      all_goals first
        | (refine ⟨?_⟩; omega)
        | (refine ⟨?_⟩; simp; omega)
        | skip
      · rename_i g1
        have e : coverP ws p c = true := any_yes (z := FT.zero .word) hlt (by simp only [hh, g1, h, Bool.and_self]) hy
        rw [wrap_id (n := (c : Int) + 1) (by omega) (by omega)]
        exact hR (c + 1, out ++ [(c : Int)]) ⟨by dsimp only; omega, by rw [filt_yes e, hx]⟩ (by dsimp only; omega)
      · rename_i g1
        rw [wrap_id (n := (i : Int) + 1) (by omega) (by omega)]
        exact hR2 (i + 1) ⟨hlt, any_no (z := FT.zero .word) hlt (by simp only [hh, g1, h, Bool.and_false]) hy⟩ (by omega)
      · rw [wrap_id (n := (i : Int) + 1) (by omega) (by omega)]
        exact hR2 (i + 1) ⟨hlt, any_no (z := FT.zero .word) hlt (by simp only [hh, h, Bool.false_and]) hy⟩ (by omega)
    · have e : coverP ws p c = false := any_end (by simp at h; omega) hy
      conv => whnf
      rw [wrap_id (n := (c : Int) + 1) (by omega) (by omega)]
      exact hR (c + 1, out) ⟨by dsimp only; omega, by rw [filt_no e, hx]⟩ (by dsimp only; omega)
  · have e : c = 24 := by simp at h; omega
    subst e
    conv => whnf
    rw [hx]
    exact ⟨rfl, rfl⟩
theorem ok_spec_l21Cells : FunOk Tryz.prog c_spec_l21Cells := funOk (E := [c_spec_l1In, c_spec_Closure]) (envOk_cons ok_spec_l1In (envOk_cons ok_spec_Closure (envOk_nil))) mixd Tryz.func180 (pf := pf_spec_l21Cells) (by kernel_rfl) fun ts K h => by
  obtain ⟨t0, t1, t2, e0, h⟩ := as3_out h
  subst e0
  obtain ⟨m, e1, hq⟩ := arG_out rd_mem h
  clear h
  subst e1
  have h := hq
  clear hq
  obtain ⟨l, e1, hq⟩ := arC_out (rd_l .word) h
  clear h
  subst e1
  have h := hq
  clear hq
  obtain ⟨p, e1, hq⟩ := arC_out (rd_int .i64) h
  clear h
  subst e1
  have h := hq
  clear hq
  obtain ⟨hpre, h⟩ := chk_o h
  exact ⟨_, _, h, Nat.le_of_ble_eq_true (show Nat.ble 3 Tryz.f180.ntmps = true by kernel_rfl), _, run_spec_l21Cells m l p hpre⟩

def lb_impl_cellsBy_0 : PC := .seq (.seq (.reg [.s (.mv 36 (.t 12)), .s (.mv 37 (.t 11)), .s (.bin 38 .lss (.t 36) (.t 37))]) (.cond (.t 38) (.skip) (.exit 2))) (.seq (.blk 3 (.reg [.s (.mv 41 (.t 7)), .s (.mv 42 (.t 12)), .s (.ia 43 .bool (.t 41) (.t 42)), .s (.store 1 (.t 43) (.k (.v (.c .tt))))])) (.reg [.s (.mv 39 (.t 12)), .s (.bin 40 .add (.t 39) (.k (.v (.c (.int .i64 1))))), .s (.mv 12 (.t 40))]))
def lb_impl_cellsBy_1 : PC := .seq (.reg [.s (.bin 22 .lss (.t 21) (.t 20))]) (.seq (.cond (.t 22) (.skip) (.exit 0)) (.seq (.blk 1 (.seq (.reg [.s (.ia 23 .word (.t 19) (.t 21)), .s (.load 24 true 6 (.t 23)), .s (.alloc 9 [.int .i64 0, .ff, .int .i64 0, .int .i64 0, .int .i64 0, .int .i64 0]), .s (.store 6 (.t 9) (.t 24))]) (.seq (.seq (.reg [.s (.load 25 true 6 (.t 9)), .s (.mv 26 (.t 2)), .s (.call (some 27) 148 [(.t 25), (.t 26)]), .s (.bnot 28 (.t 27))]) (.cond (.t 28) (.exit 1) (.skip))) (.seq (.reg [.s (.fa 30 (.t 9) 2), .s (.load 31 true 4 (.t 30)), .s (.call (some 32) 75 [(.t 31)]), .s (.mv 29 (.t 32)), .s (.ext 33 (.t 29) 0), .s (.ext 34 (.t 29) 1), .s (.mv 10 (.t 33)), .s (.mv 11 (.t 34))]) (.seq (.reg [.s (.mv 35 (.t 10)), .s (.mv 12 (.t 35))]) (.blk 2 (.loop [2, 7, 11, 12, 19, 20, 21] lb_impl_cellsBy_0))))))) (.reg [.s (.bin 44 .add (.t 21) (.k (.v (.c (.int .i64 1))))), .s (.mv 21 (.t 44))])))
def lb_impl_cellsBy_2 : PC := .seq (.reg [.s (.bin 49 .lss (.t 48) (.t 47))]) (.seq (.cond (.t 49) (.skip) (.exit 4)) (.seq (.blk 5 (.seq (.reg [.s (.mv 50 (.t 48)), .s (.ia 51 .bool (.t 46) (.t 48)), .s (.load 52 false 1 (.t 51)), .s (.mv 14 (.t 50)), .s (.mv 15 (.t 52))]) (.seq (.reg [.s (.mv 53 (.t 15))]) (.cond (.t 53) (.reg [.s (.mv 54 (.t 13)), .s (.mv 55 (.t 14)), .s (.bs 56 (.int .i64) [(.t 55)]), .s (.app 57 (.int .i64) (.t 54) (.t 56)), .s (.mv 13 (.t 57))]) (.skip))))) (.reg [.s (.bin 58 .add (.t 48) (.k (.v (.c (.int .i64 1))))), .s (.mv 48 (.t 58))])))
def pf_impl_cellsBy : PF := ⟨[.t 6], .seq (.reg [.s (.box 3 (.t 0)), .s (.mv 6 (.k (.v (.c (.nils (.int .i64))))))]) (.seq (.reg [.s (.mkS 16 .bool (.k (.v (.c (.int .i64 24))))), .s (.mv 7 (.t 16))]) (.seq (.seq (.reg [.s (.load 17 true 2 (.t 3)), .s (.mv 18 (.t 1)), .s (.call (some 19) 13 [(.t 17), (.t 18)]), .s (.len 20 false (.t 19)), .s (.mv 21 (.k (.v (.c (.int .i64 0)))))]) (.blk 0 (.loop [2, 7, 19, 20, 21] lb_impl_cellsBy_1))) (.seq (.reg [.s (.bs 45 (.int .i64) []), .s (.mv 13 (.t 45))]) (.seq (.seq (.reg [.s (.mv 46 (.t 7)), .s (.len 47 false (.t 46)), .s (.mv 48 (.k (.v (.c (.int .i64 0)))))]) (.blk 4 (.loop [13, 46, 47, 48] lb_impl_cellsBy_2))) (.seq (.reg [.s (.mv 59 (.t 13)), .s (.mv 6 (.t 59))]) (.ret))))))⟩
def c_impl_cellsBy : Fun := ⟨76, [], fun ts K => as3 ts fun t0 t1 t2 => arG pMemT t0 fun m => arC (pL .word) t1 fun l => arC (pI .i64) t2 fun p => chk (LMem m 2147483647 ∧ l.length ≤ 1048576) (K (tL true (.int .i64) (cellsBy m l p)) [])⟩
theorem run_impl_cellsBy (m : Mem) (l : List (FT.Ty .word)) (p : Int) (hpre : LMem m 2147483647 ∧ l.length ≤ 1048576) : runK [c_impl_Closure, c_impl_spanned, c_impl_has] (l.length + 30) [] pf_impl_cellsBy [tG (m.tc false []), tL false .word l, tI .i64 p] fun r o => r = tL true (.int .i64) (cellsBy m l p) ∧ o = [] := by
  have h1 := closure_len m l
  have h2 := closure_out m l
  conv => whnf
  refine chk_i (by omega) ?_
  conv => whnf
  refine chk_i hpre ?_
  conv => whnf
  simp only [etaMemory]
  unfold cellsBy
  generalize closure m l = ws at *
  refine loop (α := Nat × List Bool) (fun q => ⟨[(2, .v (.c (.int .i64 p))), (7, .v (.c (.sl true .bool 0))), (19, .v (.c (.sl false .word 1))), (20, .v (.c (.int .i64 (ws.length : Int)))), (21, .v (.c (.int .i64 (q.1 : Int))))],
        [(1, some (.flat true .word none ws)), (0, some (.flat true .bool none q.2))], nums.tail.tail, [], false, []⟩)
      (fun q => q.1 ≤ ws.length ∧ q.2.length = 24 ∧ ∀ c, c < 24 → q.2.getD c false = coverP (ws.take q.1) p c) (fun q => ws.length - q.1) (fun q R hI hR => ?_) (0, List.replicate 24 false) _
      ⟨by simp, by simp, fun c hc => by rw [rep_getD hc]; rfl⟩ (by dsimp only; omega)
  obtain ⟨i, hit⟩ := q
  obtain ⟨hi, hl, hx⟩ := hI
  dsimp only at hi hl hx
  dsimp only
  conv => whnf
  refine sel_i (fun h => ?_) (fun h => ?_)
  · have hlt : i < ws.length := by simpa using h
    clear h
    obtain ⟨b1, b2, b3⟩ := wout_bounds h2 hlt
    have hs : ∀ c : Nat, coverP (ws.take (i + 1)) p c = (coverP (ws.take i) p c || (hasP (ws.getD i (FT.zero .word)) p && inR c (ws.getD i (FT.zero .word)).key.base ((ws.getD i (FT.zero .word)).key.top - 1))) := fun c => any_take _ (FT.zero .word) hlt
    conv => whnf
    repeat' (first | (refine sel_i (fun h => ?_) (fun h => ?_) <;> conv => whnf) | (refine chk_c ?_ ?_ <;> conv => whnf) | (refine And.intro ?_ rfl) | (refine And.intro ?_ ?_ <;> conv => whnf))
    all_goals (try simp only [etaKey, etaWord, Int.toNat_natCast, Bool.not_eq_true', Bool.not_eq_false'] at *)
    all_goals generalize ws.getD i (FT.zero .word) = w at *
    all_goals first
      | (refine ⟨?_⟩; omega)
      | skip
    · rw [wrap_id (n := (i : Int) + 1) (by omega) (by omega)]
      exact hR (i + 1, hit) ⟨hlt, hl, fun c hc => by rw [hs, h, Bool.false_and, Bool.or_false]; exact hx c hc⟩ (by dsimp only; omega)
    refine loop (α := Int × List Bool) (fun q => ⟨[(2, .v (.c (.int .i64 p))), (7, .v (.c (.sl true .bool 0))), (11, .v (.c (.int .i64 (min w.key.top 24)))), (12, .v (.c (.int .i64 q.1))), (19, .v (.c (.sl false .word 1))), (20, .v (.c (.int .i64 (ws.length : Int)))), (21, .v (.c (.int .i64 (i : Int))))],
          [(1, some (.flat true .word none ws)), (0, some (.flat true .bool none q.2))], nums.tail.tail, [], false, []⟩)
        (fun q => (w.key.base ≤ q.1 ∧ q.1 ≤ max w.key.base (min w.key.top 24)) ∧ q.2.length = 24 ∧ ∀ c : Nat, c < 24 → q.2.getD c false = (hit.getD c false || (decide (w.key.base ≤ c) && decide ((c : Int) < q.1)))) (fun q => (min w.key.top 24 - q.1).toNat) (fun q R2 hI2 hR2 => ?_) (w.key.base, hit) _
        ⟨by dsimp only; omega, hl, fun c hc => by
          have : (decide (w.key.base ≤ (c : Int)) && decide ((c : Int) < w.key.base)) = false := by
            by_cases hh : w.key.base ≤ (c : Int) <;> simp [hh] <;> omega
          simp only [this, Bool.or_false]⟩ (by dsimp only; omega)
    obtain ⟨n, hit2⟩ := q
    obtain ⟨gn, gl, gx⟩ := hI2
    dsimp only at gn gl gx
    dsimp only
    conv => whnf
    refine sel_i (fun h3 => ?_) (fun h3 => ?_)
    · have hn : n < min w.key.top 24 := by simpa using h3
      clear h3
      conv => whnf
      repeat' (first | (refine sel_i (fun h => ?_) (fun h => ?_) <;> conv => whnf) | (refine chk_c ?_ ?_ <;> conv => whnf) | (refine And.intro ?_ rfl) | (refine And.intro ?_ ?_ <;> conv => whnf))
      all_goals first
        | (refine ⟨?_⟩; omega)
        | skip
      rw [wrap_id (n := n + 1) (by omega) (by omega)]
      exact hR2 (n + 1, hit2.set n.toNat true) ⟨by dsimp only; omega, by simpa using gl, fun c hc => by
        rw [getD_set _ _ _ _ _ (by omega), gx c hc]
        by_cases e : n.toNat = c
        · rw [if_pos e]
          have e1 : decide (w.key.base ≤ (c : Int)) = true := decide_eq_true (by omega)
          have e2 : decide ((c : Int) < n + 1) = true := decide_eq_true (by omega)
          simp only [e1, e2, Bool.and_self, Bool.or_true]
        · rw [if_neg e]
          have e2 : decide ((c : Int) < n + 1) = decide ((c : Int) < n) := decide_eq_decide.2 (by omega)
          rw [e2]⟩ (by dsimp only; omega)
    · have hn : min w.key.top 24 ≤ n := by simp at h3; omega
      conv => whnf
      rw [wrap_id (n := (i : Int) + 1) (by omega) (by omega)]
      exact hR (i + 1, hit2) ⟨hlt, gl, fun c hc => by
        rw [hs, h, gx c hc, hx c hc, Bool.true_and]
        congr 1
        unfold inR
        by_cases e : w.key.base ≤ (c : Int)
        · rw [decide_eq_true e, Bool.true_and, Bool.true_and]
          exact decide_eq_decide.2 (by omega)
        · rw [decide_eq_false e]; rfl⟩ (by dsimp only; omega)
  · have he : i = ws.length := by simp at h; omega
    clear h hR
    subst he
    rw [List.take_length] at hx
    conv => whnf
    refine loop (α := Nat × List Int) (fun q => ⟨[(13, .v (.c (.sl true (.int .i64) 0))), (46, .v (.c (.sl true .bool 1))), (47, .v (.c (.int .i64 (hit.length : Int)))), (48, .v (.c (.int .i64 (q.1 : Int))))],
          [(1, some (.flat true .bool none hit)), (0, some (.flat true (.int .i64) none q.2))], nums.tail.tail, [], false, []⟩)
        (fun q => q.1 ≤ 24 ∧ q.2 = filt (coverP ws p) q.1) (fun q => 24 - q.1) (fun q R hI hR => ?_) (0, []) _ ⟨by simp, rfl⟩ (by dsimp only; omega)
    obtain ⟨c, out⟩ := q
    obtain ⟨hc, hy⟩ := hI
    dsimp only at hc hy
    dsimp only
    have hol : out.length ≤ c := by rw [hy]; exact filt_len _ _
    conv => whnf
    rw [hl]
    refine sel_i (fun h => ?_) (fun h => ?_)
    · have hc2 : c < 24 := by simp at h; omega
      clear h
      conv => whnf
      repeat' (first | (refine sel_i (fun h => ?_) (fun h => ?_) <;> conv => whnf) | (refine chk_c ?_ ?_ <;> conv => whnf) | (refine And.intro ?_ rfl) | (refine And.intro ?_ ?_ <;> conv => whnf))
      all_goals (try simp only [Int.toNat_natCast] at *)
      all_goals first
        | (refine ⟨?_⟩; omega)
        | (refine ⟨?_⟩; simp; omega)
        | skip
      · rw [wrap_id (n := (c : Int) + 1) (by omega) (by omega)]
        have := hR (c + 1, out ++ [(c : Int)]) ⟨by dsimp only; omega, by rw [filt_yes (by rw [← hx c hc2]; exact h), hy]⟩ (by dsimp only; omega)
        rw [hl] at this
        exact this
      · rw [wrap_id (n := (c : Int) + 1) (by omega) (by omega)]
        have := hR (c + 1, out) ⟨by dsimp only; omega, by rw [filt_no (by rw [← hx c hc2]; exact h), hy]⟩ (by dsimp only; omega)
        rw [hl] at this
        exact this
    · have e : c = 24 := by simp at h; omega
      subst e
      conv => whnf
      rw [hy]
      exact ⟨rfl, rfl⟩
theorem ok_impl_cellsBy : FunOk Tryz.prog c_impl_cellsBy := funOk (E := [c_impl_Closure, c_impl_spanned, c_impl_has]) (envOk_cons ok_impl_Closure (envOk_cons ok_impl_spanned (envOk_cons ok_impl_has (envOk_nil)))) mixd Tryz.func76 (pf := pf_impl_cellsBy) (by kernel_rfl) fun ts K h => by
  obtain ⟨t0, t1, t2, e0, h⟩ := as3_out h
  subst e0
  obtain ⟨m, e1, hq⟩ := arG_out rd_mem h
  clear h
  subst e1
  have h := hq
  clear hq
  obtain ⟨l, e1, hq⟩ := arC_out (rd_l .word) h
  clear h
  subst e1
  have h := hq
  clear hq
  obtain ⟨p, e1, hq⟩ := arC_out (rd_int .i64) h
  clear h
  subst e1
  have h := hq
  clear hq
  obtain ⟨hpre, h⟩ := chk_o h
  exact ⟨_, _, h, Nat.le_of_ble_eq_true (show Nat.ble 3 Tryz.f76.ntmps = true by kernel_rfl), _, run_impl_cellsBy m l p hpre⟩

def pf_spec_LoadCells : PF := ⟨[.t 4], .seq (.reg [.s (.box 2 (.t 0)), .s (.mv 4 (.k (.v (.c (.nils (.int .i64))))))]) (.seq (.reg [.s (.load 5 true 2 (.t 2)), .s (.mv 6 (.t 1)), .s (.call (some 7) 180 [(.t 5), (.t 6), (.k (.v (.c (.int .i64 1))))]), .s (.mv 4 (.t 7))]) (.ret))⟩
def c_spec_LoadCells : Fun := ⟨117, [], fun ts K => as2 ts fun t0 t1 => arG pMemT t0 fun m => arC (pL .word) t1 fun l => chk (LMem m 2147483647 ∧ l.length ≤ 1048576) (K (tL true (.int .i64) (cellsBy m l 1)) [])⟩
theorem run_spec_LoadCells (m : Mem) (l : List (FT.Ty .word)) (hpre : LMem m 2147483647 ∧ l.length ≤ 1048576) : runK [c_spec_l21Cells] (0) [] pf_spec_LoadCells [tG (m.tc false []), tL false .word l] fun r o => r = tL true (.int .i64) (cellsBy m l 1) ∧ o = [] := by
  conv => whnf
  repeat' (first | (refine sel_i (fun h => ?_) (fun h => ?_) <;> conv => whnf) | (refine chk_c ?_ ?_ <;> conv => whnf) | (refine And.intro ?_ rfl) | (refine And.intro ?_ ?_ <;> conv => whnf))
  all_goals first | rfl | (refine ⟨?_⟩; exact hpre)
theorem ok_spec_LoadCells : FunOk Tryz.prog c_spec_LoadCells := funOk (E := [c_spec_l21Cells]) (envOk_cons ok_spec_l21Cells (envOk_nil)) mixd Tryz.func117 (pf := pf_spec_LoadCells) (by kernel_rfl) fun ts K h => by
  obtain ⟨t0, t1, e0, h⟩ := as2_out h
  subst e0
  obtain ⟨m, e1, hq⟩ := arG_out rd_mem h
  clear h
  subst e1
  have h := hq
  clear hq
  obtain ⟨l, e1, hq⟩ := arC_out (rd_l .word) h
  clear h
  subst e1
  have h := hq
  clear hq
  obtain ⟨hpre, h⟩ := chk_o h
  exact ⟨_, _, h, Nat.le_of_ble_eq_true (show Nat.ble 2 Tryz.f117.ntmps = true by kernel_rfl), _, run_spec_LoadCells m l hpre⟩

def pf_impl_LoadCells : PF := ⟨[.t 4], .seq (.reg [.s (.box 2 (.t 0)), .s (.mv 4 (.k (.v (.c (.nils (.int .i64))))))]) (.seq (.reg [.s (.load 5 true 2 (.t 2)), .s (.mv 6 (.t 1)), .s (.call (some 7) 76 [(.t 5), (.t 6), (.k (.v (.c (.int .i64 1))))]), .s (.mv 4 (.t 7))]) (.ret))⟩
def c_impl_LoadCells : Fun := ⟨14, [], fun ts K => as2 ts fun t0 t1 => arG pMemT t0 fun m => arC (pL .word) t1 fun l => chk (LMem m 2147483647 ∧ l.length ≤ 1048576) (K (tL true (.int .i64) (cellsBy m l 1)) [])⟩
theorem run_impl_LoadCells (m : Mem) (l : List (FT.Ty .word)) (hpre : LMem m 2147483647 ∧ l.length ≤ 1048576) : runK [c_impl_cellsBy] (0) [] pf_impl_LoadCells [tG (m.tc false []), tL false .word l] fun r o => r = tL true (.int .i64) (cellsBy m l 1) ∧ o = [] := by
  conv => whnf
  repeat' (first | (refine sel_i (fun h => ?_) (fun h => ?_) <;> conv => whnf) | (refine chk_c ?_ ?_ <;> conv => whnf) | (refine And.intro ?_ rfl) | (refine And.intro ?_ ?_ <;> conv => whnf))
  all_goals first | rfl | (refine ⟨?_⟩; exact hpre)
theorem ok_impl_LoadCells : FunOk Tryz.prog c_impl_LoadCells := funOk (E := [c_impl_cellsBy]) (envOk_cons ok_impl_cellsBy (envOk_nil)) mixd Tryz.func14 (pf := pf_impl_LoadCells) (by kernel_rfl) fun ts K h => by
  obtain ⟨t0, t1, e0, h⟩ := as2_out h
  subst e0
  obtain ⟨m, e1, hq⟩ := arG_out rd_mem h
  clear h
  subst e1
  have h := hq
  clear hq
  obtain ⟨l, e1, hq⟩ := arC_out (rd_l .word) h
  clear h
  subst e1
  have h := hq
  clear hq
  obtain ⟨hpre, h⟩ := chk_o h
  exact ⟨_, _, h, Nat.le_of_ble_eq_true (show Nat.ble 2 Tryz.f14.ntmps = true by kernel_rfl), _, run_impl_LoadCells m l hpre⟩

def pf_spec_StoreCells : PF := ⟨[.t 4], .seq (.reg [.s (.box 2 (.t 0)), .s (.mv 4 (.k (.v (.c (.nils (.int .i64))))))]) (.seq (.reg [.s (.load 5 true 2 (.t 2)), .s (.mv 6 (.t 1)), .s (.call (some 7) 180 [(.t 5), (.t 6), (.k (.v (.c (.int .i64 2))))]), .s (.mv 4 (.t 7))]) (.ret))⟩
def c_spec_StoreCells : Fun := ⟨115, [], fun ts K => as2 ts fun t0 t1 => arG pMemT t0 fun m => arC (pL .word) t1 fun l => chk (LMem m 2147483647 ∧ l.length ≤ 1048576) (K (tL true (.int .i64) (cellsBy m l 2)) [])⟩
theorem run_spec_StoreCells (m : Mem) (l : List (FT.Ty .word)) (hpre : LMem m 2147483647 ∧ l.length ≤ 1048576) : runK [c_spec_l21Cells] (0) [] pf_spec_StoreCells [tG (m.tc false []), tL false .word l] fun r o => r = tL true (.int .i64) (cellsBy m l 2) ∧ o = [] := by
  conv => whnf
  repeat' (first | (refine sel_i (fun h => ?_) (fun h => ?_) <;> conv => whnf) | (refine chk_c ?_ ?_ <;> conv => whnf) | (refine And.intro ?_ rfl) | (refine And.intro ?_ ?_ <;> conv => whnf))
  all_goals first | rfl | (refine ⟨?_⟩; exact hpre)
theorem ok_spec_StoreCells : FunOk Tryz.prog c_spec_StoreCells := funOk (E := [c_spec_l21Cells]) (envOk_cons ok_spec_l21Cells (envOk_nil)) mixd Tryz.func115 (pf := pf_spec_StoreCells) (by kernel_rfl) fun ts K h => by
  obtain ⟨t0, t1, e0, h⟩ := as2_out h
  subst e0
  obtain ⟨m, e1, hq⟩ := arG_out rd_mem h
  clear h
  subst e1
  have h := hq
  clear hq
  obtain ⟨l, e1, hq⟩ := arC_out (rd_l .word) h
  clear h
  subst e1
  have h := hq
  clear hq
  obtain ⟨hpre, h⟩ := chk_o h
  exact ⟨_, _, h, Nat.le_of_ble_eq_true (show Nat.ble 2 Tryz.f115.ntmps = true by kernel_rfl), _, run_spec_StoreCells m l hpre⟩

def pf_impl_StoreCells : PF := ⟨[.t 4], .seq (.reg [.s (.box 2 (.t 0)), .s (.mv 4 (.k (.v (.c (.nils (.int .i64))))))]) (.seq (.reg [.s (.load 5 true 2 (.t 2)), .s (.mv 6 (.t 1)), .s (.call (some 7) 76 [(.t 5), (.t 6), (.k (.v (.c (.int .i64 2))))]), .s (.mv 4 (.t 7))]) (.ret))⟩
def c_impl_StoreCells : Fun := ⟨15, [], fun ts K => as2 ts fun t0 t1 => arG pMemT t0 fun m => arC (pL .word) t1 fun l => chk (LMem m 2147483647 ∧ l.length ≤ 1048576) (K (tL true (.int .i64) (cellsBy m l 2)) [])⟩
theorem run_impl_StoreCells (m : Mem) (l : List (FT.Ty .word)) (hpre : LMem m 2147483647 ∧ l.length ≤ 1048576) : runK [c_impl_cellsBy] (0) [] pf_impl_StoreCells [tG (m.tc false []), tL false .word l] fun r o => r = tL true (.int .i64) (cellsBy m l 2) ∧ o = [] := by
  conv => whnf
  repeat' (first | (refine sel_i (fun h => ?_) (fun h => ?_) <;> conv => whnf) | (refine chk_c ?_ ?_ <;> conv => whnf) | (refine And.intro ?_ rfl) | (refine And.intro ?_ ?_ <;> conv => whnf))
  all_goals first | rfl | (refine ⟨?_⟩; exact hpre)
theorem ok_impl_StoreCells : FunOk Tryz.prog c_impl_StoreCells := funOk (E := [c_impl_cellsBy]) (envOk_cons ok_impl_cellsBy (envOk_nil)) mixd Tryz.func15 (pf := pf_impl_StoreCells) (by kernel_rfl) fun ts K h => by
  obtain ⟨t0, t1, e0, h⟩ := as2_out h
  subst e0
  obtain ⟨m, e1, hq⟩ := arG_out rd_mem h
  clear h
  subst e1
  have h := hq
  clear hq
  obtain ⟨l, e1, hq⟩ := arC_out (rd_l .word) h
  clear h
  subst e1
  have h := hq
  clear hq
  obtain ⟨hpre, h⟩ := chk_o h
  exact ⟨_, _, h, Nat.le_of_ble_eq_true (show Nat.ble 2 Tryz.f15.ntmps = true by kernel_rfl), _, run_impl_StoreCells m l hpre⟩

def heldW (s : Side) : List Word := s.regs ++ [s.pc]
def meetI (a b : List Int) : Bool := a.any (fun n => b.any (fun x => n == x))
def crossesB (m : Mem) (a b : List Word) : Bool := meetI (cellsBy m a 2) (cellsBy m b 1 ++ cellsBy m b 2)
def apartB (t : Two) : Bool := twoOk t && !canSeal t.mem (heldW t.a) && !canSeal t.mem (heldW t.b) && (!crossesB t.mem (heldW t.a) (heldW t.b) && !crossesB t.mem (heldW t.b) (heldW t.a))
theorem any_or {α : Type} (p q : α → Bool) (xs : List α) : xs.any (fun x => p x || q x) = (xs.any p || xs.any q) := by
  rw [Bool.eq_iff_iff]; simp only [List.any_eq_true, Bool.or_eq_true]
  constructor
  · rintro ⟨x, hx, h | h⟩
    · exact .inl ⟨x, hx, h⟩
    · exact .inr ⟨x, hx, h⟩
  · rintro (⟨x, hx, h⟩ | ⟨x, hx, h⟩)
    · exact ⟨x, hx, .inl h⟩
    · exact ⟨x, hx, .inr h⟩
theorem meetI_app (a b c : List Int) : meetI a (b ++ c) = (meetI a b || meetI a c) := by
  unfold meetI
  rw [← any_or]
  congr 1; funext n; rw [List.any_append]
theorem meetI_comm (a b : List Int) : meetI a b = meetI b a := by
  unfold meetI
  rw [Bool.eq_iff_iff]; simp only [List.any_eq_true, beq_iff_eq]
  constructor
  · rintro ⟨x, hx, y, hy, e⟩; exact ⟨y, hy, x, hx, e.symm⟩
  · rintro ⟨x, hx, y, hy, e⟩; exact ⟨y, hy, x, hx, e.symm⟩
theorem apart_bool (a b c d : Bool) : (!(a || b) && !(c || b)) = (!b && !a && !c) := by cases a <;> cases b <;> cases c <;> rfl
theorem apart_spec (m : Mem) (a b : List Word) : (!crossesB m a b && !crossesB m b a) = (!meetI (cellsBy m a 2) (cellsBy m b 2) && !meetI (cellsBy m a 2) (cellsBy m b 1) && !meetI (cellsBy m b 2) (cellsBy m a 1)) := by
  unfold crossesB
  rw [meetI_app, meetI_app, meetI_comm (cellsBy m b 2) (cellsBy m a 2), apart_bool _ _ _ true]
theorem cellsBy_le (m : Mem) (l : List Word) (p : Int) : (cellsBy m l p).length ≤ 24 := filt_len _ _
theorem twoOk_len {t : Two} (h : twoOk t = true) : t.a.regs.length = 8 ∧ t.b.regs.length = 8 := by
  simp only [twoOk, stateOk, Bool.and_eq_true, decide_eq_true_eq] at h
  exact ⟨h.1.1.1.1.1, h.2.1.1.1.1⟩

def lb_slices_Index_int_0 : PC := .seq (.reg [.s (.bin 9 .lss (.t 8) (.t 7))]) (.seq (.cond (.t 9) (.skip) (.exit 0)) (.seq (.blk 1 (.seq (.reg [.s (.mv 10 (.t 8)), .s (.mv 5 (.t 10))]) (.seq (.reg [.s (.mv 11 (.t 1)), .s (.mv 12 (.t 0)), .s (.mv 13 (.t 5)), .s (.ia 14 (.int .i64) (.t 12) (.t 13)), .s (.load 15 false 1 (.t 14)), .s (.bin 16 .eql (.t 11) (.t 15))]) (.cond (.t 16) (.seq (.reg [.s (.mv 17 (.t 5)), .s (.mv 4 (.t 17))]) (.ret)) (.skip))))) (.reg [.s (.bin 18 .add (.t 8) (.k (.v (.c (.int .i64 1))))), .s (.mv 8 (.t 18))])))
def pf_slices_Index_int : PF := ⟨[.t 4], .seq (.reg [.s (.mv 4 (.k (.v (.c (.int .i64 0)))))]) (.seq (.seq (.reg [.s (.mv 6 (.t 0)), .s (.len 7 false (.t 6)), .s (.mv 8 (.k (.v (.c (.int .i64 0)))))]) (.blk 0 (.loop [0, 1, 7, 8] lb_slices_Index_int_0))) (.seq (.reg [.s (.mv 4 (.k (.v (.c (.int .i64 (-1))))))]) (.ret)))⟩
def c_slices_Index_int : Fun := ⟨221, [], fun ts K => as2 ts fun t0 t1 => arC (pL (.int .i64)) t0 fun xs => arC (pI .i64) t1 fun v => chk (xs.length ≤ 2147483647) (K (tN (idxOf (fun x => v == x) xs)) [])⟩
theorem run_slices_Index_int (xs : List (FT.Ty (.int .i64))) (v : Int) (hpre : xs.length ≤ 2147483647) : runK [] (xs.length + 1) [] pf_slices_Index_int [tL false (.int .i64) xs, tI .i64 v] fun r o => r = tN (idxOf (fun x => v == x) xs) ∧ o = [] := by
  conv => whnf
  refine loop (α := Nat) (fun i => ⟨[(0, .v (.c (.sl false (.int .i64) 0))), (1, .v (.c (.int .i64 v))), (7, .v (.c (.int .i64 (xs.length : Int)))), (8, .v (.c (.int .i64 (i : Int))))], [(0, some (.flat false (.int .i64) none xs))], nums.tail, [], false, []⟩)
      (fun i => i ≤ xs.length ∧ idxOf (fun x => v == x) xs = idxGo (fun x => v == x) (xs.drop i) i) (fun i => xs.length - i) (fun i R hI hR => ?_) 0 _ ⟨by simp, rfl⟩ (by simp)
  obtain ⟨hi, hx⟩ := hI
  conv => whnf
  refine sel_i (fun h2 => ?_) (fun h2 => ?_)
  · have hlt : i < xs.length := by simp at h2; omega
    conv => whnf
    repeat (refine chk_i (by first | omega | (simp; omega)) ?_; conv => whnf)
    refine sel_i (fun h3 => ?_) (fun h3 => ?_)
    · conv => whnf
      rw [hx, idxGo_yes (z := FT.zero (.int .i64)) hlt h3]
      exact ⟨rfl, rfl⟩
    · conv => whnf
      rw [wrap_id (n := (i : Int) + 1) (by omega) (by omega)]
      exact hR (i + 1) ⟨by omega, by rw [hx, idxGo_no (z := FT.zero (.int .i64)) hlt h3]⟩ (by omega)
  · conv => whnf
    rw [hx, idxGo_end (by simp at h2; omega)]
    exact ⟨rfl, rfl⟩
theorem ok_slices_Index_int : FunOk Tryz.prog c_slices_Index_int := funOk (E := []) (envOk_nil) mixd Tryz.func221 (pf := pf_slices_Index_int) (by kernel_rfl) fun ts K h => by
  obtain ⟨t0, t1, e0, h⟩ := as2_out h
  subst e0
  obtain ⟨xs, e1, hq⟩ := arC_out (rd_l (.int .i64)) h
  clear h
  subst e1
  have h := hq
  clear hq
  obtain ⟨v, e1, hq⟩ := arC_out (rd_int .i64) h
  clear h
  subst e1
  have h := hq
  clear hq
  obtain ⟨hpre, h⟩ := chk_o h
  exact ⟨_, _, h, Nat.le_of_ble_eq_true (show Nat.ble 2 Tryz.f221.ntmps = true by kernel_rfl), _, run_slices_Index_int xs v hpre⟩

def pf_slices_Contains_int : PF := ⟨[.t 4], .seq (.reg [.s (.mv 4 (.k (.v (.c .ff))))]) (.seq (.reg [.s (.mv 5 (.t 0)), .s (.mv 6 (.t 1)), .s (.call (some 7) 221 [(.t 5), (.t 6)]), .s (.bin 8 .geq (.t 7) (.k (.v (.c (.int .i64 0))))), .s (.mv 4 (.t 8))]) (.ret))⟩
def c_slices_Contains_int : Fun := ⟨178, [], fun ts K => as2 ts fun t0 t1 => arC (pL (.int .i64)) t0 fun xs => arC (pI .i64) t1 fun v => chk (xs.length ≤ 2147483647) (K (tB (xs.any (fun x => v == x))) [])⟩
theorem run_slices_Contains_int (xs : List (FT.Ty (.int .i64))) (v : Int) (hpre : xs.length ≤ 2147483647) : runK [c_slices_Index_int] (0) [] pf_slices_Contains_int [tL false (.int .i64) xs, tI .i64 v] fun r o => r = tB (xs.any (fun x => v == x)) ∧ o = [] := by
  conv => whnf
  repeat' (first | (refine sel_i (fun h => ?_) (fun h => ?_) <;> conv => whnf) | (refine chk_c ?_ ?_ <;> conv => whnf) | (refine And.intro ?_ rfl) | (refine And.intro ?_ ?_ <;> conv => whnf))
  all_goals first | (refine ⟨?_⟩; exact hpre) | exact hpre | (rw [← idxOf_any]; rfl) | (rw [← idxOf_any])
theorem ok_slices_Contains_int : FunOk Tryz.prog c_slices_Contains_int := funOk (E := [c_slices_Index_int]) (envOk_cons ok_slices_Index_int (envOk_nil)) mixd Tryz.func178 (pf := pf_slices_Contains_int) (by kernel_rfl) fun ts K h => by
  obtain ⟨t0, t1, e0, h⟩ := as2_out h
  subst e0
  obtain ⟨xs, e1, hq⟩ := arC_out (rd_l (.int .i64)) h
  clear h
  subst e1
  have h := hq
  clear hq
  obtain ⟨v, e1, hq⟩ := arC_out (rd_int .i64) h
  clear h
  subst e1
  have h := hq
  clear hq
  obtain ⟨hpre, h⟩ := chk_o h
  exact ⟨_, _, h, Nat.le_of_ble_eq_true (show Nat.ble 2 Tryz.f178.ntmps = true by kernel_rfl), _, run_slices_Contains_int xs v hpre⟩

def pf_impl_crosses_1 : PF := ⟨[.t 3], .seq (.reg [.s (.mv 3 (.k (.v (.c .ff))))]) (.seq (.reg [.s (.load 4 false 1 (.t 1)), .s (.mv 5 (.t 0)), .s (.call (some 6) 178 [(.t 4), (.t 5)]), .s (.mv 3 (.t 6))]) (.ret))⟩
def c_impl_crosses_1 : Fun := ⟨177, [], fun ts K => as2 ts fun t0 t1 => arC (pI .i64) t0 fun n => arP (pL (.int .i64)) t1 fun g => chk (g.length ≤ 2147483647) (K (tB (g.any (fun x => n == x))) [])⟩
theorem run_impl_crosses_1 (n : Int) (g : List (FT.Ty (.int .i64))) (hpre : g.length ≤ 2147483647) : runK [c_slices_Contains_int] (0) [] pf_impl_crosses_1 [tI .i64 n, .v (.ptr false 0 [tl false (.int .i64) g])] fun r o => r = tB (g.any (fun x => n == x)) ∧ o = [] := by
  conv => whnf
  repeat' (first | (refine sel_i (fun h => ?_) (fun h => ?_) <;> conv => whnf) | (refine chk_c ?_ ?_ <;> conv => whnf) | (refine And.intro ?_ rfl) | (refine And.intro ?_ ?_ <;> conv => whnf))
  all_goals first | (refine ⟨?_⟩; exact hpre) | rfl
theorem ok_impl_crosses_1 : FunOk Tryz.prog c_impl_crosses_1 := funOk (E := [c_slices_Contains_int]) (envOk_cons ok_slices_Contains_int (envOk_nil)) mixd Tryz.func177 (pf := pf_impl_crosses_1) (by kernel_rfl) fun ts K h => by
  obtain ⟨t0, t1, e0, h⟩ := as2_out h
  subst e0
  obtain ⟨n, e1, hq⟩ := arC_out (rd_int .i64) h
  clear h
  subst e1
  have h := hq
  clear hq
  obtain ⟨g, e1, hq⟩ := arP_out (rd_l (.int .i64)) h
  clear h
  subst e1
  have h := hq
  clear hq
  obtain ⟨hpre, h⟩ := chk_o h
  exact ⟨_, _, h, Nat.le_of_ble_eq_true (show Nat.ble 2 Tryz.f177.ntmps = true by kernel_rfl), _, run_impl_crosses_1 n g hpre⟩

def lb_slices_IndexFunc_int_0 : PC := .seq (.reg [.s (.bin 9 .lss (.t 8) (.t 7))]) (.seq (.cond (.t 9) (.skip) (.exit 0)) (.seq (.blk 1 (.seq (.reg [.s (.mv 10 (.t 8)), .s (.mv 5 (.t 10))]) (.seq (.reg [.s (.mv 11 (.t 1)), .s (.mv 12 (.t 0)), .s (.mv 13 (.t 5)), .s (.ia 14 (.int .i64) (.t 12) (.t 13)), .s (.load 15 false 1 (.t 14)), .s (.callv (some 16) (.t 11) [(.t 15)])]) (.cond (.t 16) (.seq (.reg [.s (.mv 17 (.t 5)), .s (.mv 4 (.t 17))]) (.ret)) (.skip))))) (.reg [.s (.bin 18 .add (.t 8) (.k (.v (.c (.int .i64 1))))), .s (.mv 8 (.t 18))])))
def pf_slices_IndexFunc_int : PF := ⟨[.t 4], .seq (.reg [.s (.mv 4 (.k (.v (.c (.int .i64 0)))))]) (.seq (.seq (.reg [.s (.mv 6 (.t 0)), .s (.len 7 false (.t 6)), .s (.mv 8 (.k (.v (.c (.int .i64 0)))))]) (.blk 0 (.loop [0, 1, 7, 8] lb_slices_IndexFunc_int_0))) (.seq (.reg [.s (.mv 4 (.k (.v (.c (.int .i64 (-1))))))]) (.ret)))⟩
def c_slices_IndexFunc_int__impl_crosses_1 : Fun := ⟨220, [], fun ts K => as2 ts fun t0 t1 => arC (pL (.int .i64)) t0 fun xs => arF1 177 (pL (.int .i64)) t1 fun g => chk (xs.length ≤ 2147483647 ∧ g.length ≤ 2147483647) (K (tN (idxOf (fun n => g.any (fun x => n == x)) xs)) [])⟩
theorem run_slices_IndexFunc_int__impl_crosses_1 (xs : List (FT.Ty (.int .i64))) (g : List (FT.Ty (.int .i64))) (hpre : xs.length ≤ 2147483647 ∧ g.length ≤ 2147483647) : runK [c_impl_crosses_1] (xs.length + 1) [] pf_slices_IndexFunc_int [tL false (.int .i64) xs, .fn 177 [.ptr false 0 [tl false (.int .i64) g]]] fun r o => r = tN (idxOf (fun n => g.any (fun x => n == x)) xs) ∧ o = [] := by
  conv => whnf
  refine loop (α := Nat) (fun i => ⟨[(0, .v (.c (.sl false (.int .i64) 0))), (1, .fn 177 [.c (.ptr 1 0)]), (7, .v (.c (.int .i64 (xs.length : Int)))), (8, .v (.c (.int .i64 (i : Int))))], [(2, some (.flat false (.int .i64) none g)), (1, some (.box false [.sl false (.int .i64) 2])), (0, some (.flat false (.int .i64) none xs))], nums.tail.tail.tail, [], false, []⟩)
      (fun i => i ≤ xs.length ∧ idxOf (fun n => g.any (fun x => n == x)) xs = idxGo (fun n => g.any (fun x => n == x)) (xs.drop i) i) (fun i => xs.length - i) (fun i R hI hR => ?_) 0 _ ⟨by simp, rfl⟩ (by simp)
  obtain ⟨hi, hx⟩ := hI
  conv => whnf
  refine sel_i (fun h2 => ?_) (fun h2 => ?_)
  · have hlt : i < xs.length := by simp at h2; omega
    conv => whnf
    repeat (refine chk_i (by first | omega | (simp; omega)) ?_; conv => whnf)
    refine sel_i (fun h3 => ?_) (fun h3 => ?_)
    · conv => whnf
      rw [hx, idxGo_yes (z := FT.zero (.int .i64)) hlt (by first | (simp only [keyEq] at h3; exact h3) | (simpa using h3))]
      exact ⟨rfl, rfl⟩
    · conv => whnf
      rw [wrap_id (n := (i : Int) + 1) (by omega) (by omega)]
      exact hR (i + 1) ⟨by omega, by rw [hx, idxGo_no (z := FT.zero (.int .i64)) hlt (by first | (simp only [keyEq] at h3; exact h3) | (simpa using h3))]⟩ (by omega)
  · conv => whnf
    rw [hx, idxGo_end (by simp at h2; omega)]
    exact ⟨rfl, rfl⟩
theorem ok_slices_IndexFunc_int__impl_crosses_1 : FunOk Tryz.prog c_slices_IndexFunc_int__impl_crosses_1 := funOk (E := [c_impl_crosses_1]) (envOk_cons ok_impl_crosses_1 (envOk_nil)) mixd Tryz.func220 (pf := pf_slices_IndexFunc_int) (by kernel_rfl) fun ts K h => by
  obtain ⟨t0, t1, e0, h⟩ := as2_out h
  subst e0
  obtain ⟨xs, e1, hq⟩ := arC_out (rd_l (.int .i64)) h
  clear h
  subst e1
  have h := hq
  clear hq
  obtain ⟨g, e1, hq⟩ := arF1_out (rd_l (.int .i64)) h
  clear h
  subst e1
  have h := hq
  clear hq
  obtain ⟨hpre, h⟩ := chk_o h
  exact ⟨_, _, h, Nat.le_of_ble_eq_true (show Nat.ble 2 Tryz.f220.ntmps = true by kernel_rfl), _, run_slices_IndexFunc_int__impl_crosses_1 xs g hpre⟩

def pf_slices_ContainsFunc_int : PF := ⟨[.t 4], .seq (.reg [.s (.mv 4 (.k (.v (.c .ff))))]) (.seq (.reg [.s (.mv 5 (.t 0)), .s (.mv 6 (.t 1)), .s (.call (some 7) 220 [(.t 5), (.t 6)]), .s (.bin 8 .geq (.t 7) (.k (.v (.c (.int .i64 0))))), .s (.mv 4 (.t 8))]) (.ret))⟩
def c_slices_ContainsFunc_int__impl_crosses_1 : Fun := ⟨176, [], fun ts K => as2 ts fun t0 t1 => arC (pL (.int .i64)) t0 fun xs => arF1 177 (pL (.int .i64)) t1 fun g => chk (xs.length ≤ 2147483647 ∧ g.length ≤ 2147483647) (K (tB (xs.any (fun n => g.any (fun x => n == x)))) [])⟩
theorem run_slices_ContainsFunc_int__impl_crosses_1 (xs : List (FT.Ty (.int .i64))) (g : List (FT.Ty (.int .i64))) (hpre : xs.length ≤ 2147483647 ∧ g.length ≤ 2147483647) : runK [c_slices_IndexFunc_int__impl_crosses_1, c_impl_crosses_1] (0) [] pf_slices_ContainsFunc_int [tL false (.int .i64) xs, .fn 177 [.ptr false 0 [tl false (.int .i64) g]]] fun r o => r = tB (xs.any (fun n => g.any (fun x => n == x))) ∧ o = [] := by
  conv => whnf
  repeat' (first | (refine sel_i (fun h => ?_) (fun h => ?_) <;> conv => whnf) | (refine chk_c ?_ ?_ <;> conv => whnf) | (refine And.intro ?_ rfl) | (refine And.intro ?_ ?_ <;> conv => whnf))
  all_goals first | (refine ⟨?_⟩; exact hpre) | exact hpre | (rw [← idxOf_any]; rfl) | (rw [← idxOf_any])
theorem ok_slices_ContainsFunc_int__impl_crosses_1 : FunOk Tryz.prog c_slices_ContainsFunc_int__impl_crosses_1 := funOk (E := [c_slices_IndexFunc_int__impl_crosses_1, c_impl_crosses_1]) (envOk_cons ok_slices_IndexFunc_int__impl_crosses_1 (envOk_cons ok_impl_crosses_1 (envOk_nil))) mixd Tryz.func176 (pf := pf_slices_ContainsFunc_int) (by kernel_rfl) fun ts K h => by
  obtain ⟨t0, t1, e0, h⟩ := as2_out h
  subst e0
  obtain ⟨xs, e1, hq⟩ := arC_out (rd_l (.int .i64)) h
  clear h
  subst e1
  have h := hq
  clear hq
  obtain ⟨g, e1, hq⟩ := arF1_out (rd_l (.int .i64)) h
  clear h
  subst e1
  have h := hq
  clear hq
  obtain ⟨hpre, h⟩ := chk_o h
  exact ⟨_, _, h, Nat.le_of_ble_eq_true (show Nat.ble 2 Tryz.f176.ntmps = true by kernel_rfl), _, run_slices_ContainsFunc_int__impl_crosses_1 xs g hpre⟩

def pf_spec_l22Words : PF := ⟨[.t 2], .seq (.reg [.s (.box 1 (.t 0)), .s (.mv 2 (.k (.v (.c (.nils .word)))))]) (.seq (.rgd [] [.s (.bs 3 .word []), .s (.fa 4 (.t 1) 0), .s (.load 5 false 1 (.t 4)), .s (.app 6 .word (.t 3) (.t 5)), .s (.fa 7 (.t 1) 1), .s (.load 8 true 6 (.t 7)), .s (.bs 9 .word [(.t 8)]), .s (.app 10 .word (.t 6) (.t 9)), .s (.mv 2 (.t 10))] (.tk 1 (.tk 2 (.tk 4 (.tk 5 (.alt 0 false (.alt 3 false (.one 6 false (.one 7 true (.tk 8 (.done (some [2]))))) (.alt 6 false (.one 3 false (.one 7 true (.tk 8 (.done (some [2]))))) (.nil))) (.alt 6 false (.one 0 false (.one 3 false (.one 7 true (.tk 8 (.done (some [2])))))) (.nil)))))))) (.ret))⟩
def c_spec_l22Words : Fun := ⟨113, [], fun ts K => as1 ts fun t0 => arG pSideT t0 fun s => chk (s.regs.length ≤ 2147483646) (K (tL true .word (heldW s)) [])⟩
theorem run_spec_l22Words (s : Side) (hpre : s.regs.length ≤ 2147483646) : runK [] (0) [] pf_spec_l22Words [tG (s.tc false [])] fun r o => r = tL true .word (heldW s) ∧ o = [] := by
  conv => whnf
  repeat' (first | (refine sel_i (fun h => ?_) (fun h => ?_) <;> conv => whnf) | (refine chk_c ?_ ?_ <;> conv => whnf) | (refine And.intro ?_ rfl) | (refine And.intro ?_ ?_ <;> conv => whnf))
  all_goals first
    | (refine ⟨?_⟩; show s.regs.length + 1 ≤ 2147483647; omega)
    | (refine ⟨?_⟩; simp; omega)
    | rfl
    | trivial
    | trace_state
theorem ok_spec_l22Words : FunOk Tryz.prog c_spec_l22Words := funOk (E := []) (envOk_nil) mixd Tryz.func113 (pf := pf_spec_l22Words) (by kernel_rfl) fun ts K h => by
  obtain ⟨t0, e0, h⟩ := as1_out h
  subst e0
  obtain ⟨s, e1, hq⟩ := arG_out rd_side h
  clear h
  subst e1
  have h := hq
  clear hq
  obtain ⟨hpre, h⟩ := chk_o h
  exact ⟨_, _, h, Nat.le_of_ble_eq_true (show Nat.ble 1 Tryz.f113.ntmps = true by kernel_rfl), _, run_spec_l22Words s hpre⟩

def pf_impl_held : PF := ⟨[.t 2], .seq (.reg [.s (.box 1 (.t 0)), .s (.mv 2 (.k (.v (.c (.nils .word)))))]) (.seq (.rgd [] [.s (.fa 3 (.t 1) 0), .s (.load 4 false 1 (.t 3)), .s (.call (some 5) 105 [(.t 4)]), .s (.fa 6 (.t 1) 1), .s (.load 7 true 6 (.t 6)), .s (.bs 8 .word [(.t 7)]), .s (.app 9 .word (.t 5) (.t 8)), .s (.mv 2 (.t 9))] (.tk 0 (.tk 1 (.tk 3 (.tk 4 (.alt 2 false (.one 5 false (.one 6 true (.tk 7 (.done (some [2]))))) (.alt 5 false (.one 2 false (.one 6 true (.tk 7 (.done (some [2]))))) (.nil)))))))) (.ret))⟩
def c_impl_held : Fun := ⟨110, [], fun ts K => as1 ts fun t0 => arG pSideT t0 fun s => chk (s.regs.length ≤ 2147483646) (K (tL true .word (heldW s)) [])⟩
theorem run_impl_held (s : Side) (hpre : s.regs.length ≤ 2147483646) : runK [c_slices_Clone_Word] (0) [] pf_impl_held [tG (s.tc false [])] fun r o => r = tL true .word (heldW s) ∧ o = [] := by
  conv => whnf
  repeat' (first | (refine sel_i (fun h => ?_) (fun h => ?_) <;> conv => whnf) | (refine chk_c ?_ ?_ <;> conv => whnf) | (refine And.intro ?_ rfl) | (refine And.intro ?_ ?_ <;> conv => whnf))
  all_goals first
    | (refine ⟨?_⟩; show s.regs.length + 1 ≤ 2147483647; omega)
    | (refine ⟨?_⟩; simp; omega)
    | (refine ⟨?_⟩; omega)
    | rfl
    | trivial
    | trace_state
theorem ok_impl_held : FunOk Tryz.prog c_impl_held := funOk (E := [c_slices_Clone_Word]) (envOk_cons ok_slices_Clone_Word (envOk_nil)) mixd Tryz.func110 (pf := pf_impl_held) (by kernel_rfl) fun ts K h => by
  obtain ⟨t0, e0, h⟩ := as1_out h
  subst e0
  obtain ⟨s, e1, hq⟩ := arG_out rd_side h
  clear h
  subst e1
  have h := hq
  clear hq
  obtain ⟨hpre, h⟩ := chk_o h
  exact ⟨_, _, h, Nat.le_of_ble_eq_true (show Nat.ble 1 Tryz.f110.ntmps = true by kernel_rfl), _, run_impl_held s hpre⟩

def pf_impl_crosses : PF := ⟨[.t 6], .seq (.reg [.s (.box 3 (.t 0)), .s (.mv 6 (.k (.v (.c .ff))))]) (.seq (.rgd [] [.s (.load 8 true 2 (.t 3)), .s (.mv 9 (.t 2)), .s (.call (some 10) 14 [(.t 8), (.t 9)]), .s (.load 11 true 2 (.t 3)), .s (.mv 12 (.t 2)), .s (.call (some 13) 15 [(.t 11), (.t 12)]), .s (.app 14 (.int .i64) (.t 10) (.t 13)), .s (.alloc 7 [.nils (.int .i64)]), .s (.store 1 (.t 7) (.t 14))] (.tk 0 (.tk 1 (.tk 3 (.tk 4 (.alt 2 false (.alt 5 false (.alt 6 false (.one 7 false (.one 8 true (.done (some [1, 3, 7])))) (.alt 7 false (.one 6 true (.one 8 true (.done (some [1, 3, 7])))) (.nil))) (.alt 7 false (.one 5 true (.one 6 true (.one 8 true (.done (some [1, 3, 7]))))) (.nil))) (.alt 7 false (.one 2 false (.one 5 true (.one 6 true (.one 8 true (.done (some [1, 3, 7])))))) (.nil)))))))) (.seq (.reg [.s (.load 15 true 2 (.t 3)), .s (.mv 16 (.t 1)), .s (.call (some 17) 15 [(.t 15), (.t 16)]), .s (.mkf 18 177 [(.t 7)]), .s (.call (some 19) 176 [(.t 17), (.t 18)]), .s (.mv 6 (.t 19))]) (.ret)))⟩
def c_impl_crosses : Fun := ⟨112, [], fun ts K => as3 ts fun t0 t1 t2 => arG pMemT t0 fun m => arC (pL .word) t1 fun a => arC (pL .word) t2 fun b => chk (LMem m 2147483647 ∧ a.length ≤ 1048576 ∧ b.length ≤ 1048576) (K (tB (crossesB m a b)) [])⟩
theorem run_impl_crosses (m : Mem) (a : List (FT.Ty .word)) (b : List (FT.Ty .word)) (hpre : LMem m 2147483647 ∧ a.length ≤ 1048576 ∧ b.length ≤ 1048576) : runK [c_impl_LoadCells, c_impl_StoreCells, c_slices_ContainsFunc_int__impl_crosses_1, c_impl_crosses_1] (0) [] pf_impl_crosses [tG (m.tc false []), tL false .word a, tL false .word b] fun r o => r = tB (crossesB m a b) ∧ o = [] := by
  obtain ⟨l0, l1, l2⟩ := hpre
  have c1 := cellsBy_le m a 2
  have c2 := cellsBy_le m b 1
  have c3 := cellsBy_le m b 2
  conv => whnf
  repeat' (first | (refine sel_i (fun h => ?_) (fun h => ?_) <;> conv => whnf) | (refine chk_c ?_ ?_ <;> conv => whnf) | (refine And.intro ?_ rfl) | (refine And.intro ?_ ?_ <;> conv => whnf))
  all_goals first
    | (refine ⟨?_⟩; exact ⟨l0, l1⟩)
    | (refine ⟨?_⟩; exact ⟨l0, l2⟩)
    | (refine ⟨?_⟩; simp only [etaMemory, List.length_append]; omega)
    | rfl
    | trivial
    | trace_state
theorem ok_impl_crosses : FunOk Tryz.prog c_impl_crosses := funOk (E := [c_impl_LoadCells, c_impl_StoreCells, c_slices_ContainsFunc_int__impl_crosses_1, c_impl_crosses_1]) (envOk_cons ok_impl_LoadCells (envOk_cons ok_impl_StoreCells (envOk_cons ok_slices_ContainsFunc_int__impl_crosses_1 (envOk_cons ok_impl_crosses_1 (envOk_nil))))) mixd Tryz.func112 (pf := pf_impl_crosses) (by kernel_rfl) fun ts K h => by
  obtain ⟨t0, t1, t2, e0, h⟩ := as3_out h
  subst e0
  obtain ⟨m, e1, hq⟩ := arG_out rd_mem h
  clear h
  subst e1
  have h := hq
  clear hq
  obtain ⟨a, e1, hq⟩ := arC_out (rd_l .word) h
  clear h
  subst e1
  have h := hq
  clear hq
  obtain ⟨b, e1, hq⟩ := arC_out (rd_l .word) h
  clear h
  subst e1
  have h := hq
  clear hq
  obtain ⟨hpre, h⟩ := chk_o h
  exact ⟨_, _, h, Nat.le_of_ble_eq_true (show Nat.ble 3 Tryz.f112.ntmps = true by kernel_rfl), _, run_impl_crosses m a b hpre⟩

def lb_spec_l22Meet_0 : PC := .seq (.seq (.reg [.s (.mv 13 (.t 6)), .s (.mv 14 (.t 1)), .s (.len 15 false (.t 14)), .s (.bin 16 .lss (.t 13) (.t 15))]) (.cond (.t 16) (.skip) (.exit 2))) (.seq (.blk 3 (.seq (.rgd [] [.s (.mv 19 (.t 0)), .s (.mv 20 (.t 5)), .s (.ia 21 (.int .i64) (.t 19) (.t 20)), .s (.load 22 false 1 (.t 21)), .s (.mv 23 (.t 1)), .s (.mv 24 (.t 6)), .s (.ia 25 (.int .i64) (.t 23) (.t 24)), .s (.load 26 false 1 (.t 25)), .s (.bin 27 .eql (.t 22) (.t 26))] (.tk 0 (.tk 1 (.tk 2 (.tk 3 (.tk 4 (.tk 5 (.tk 6 (.tk 7 (.tk 8 (.done none))))))))))) (.cond (.t 27) (.seq (.reg [.s (.mv 4 (.k (.v (.c .tt))))]) (.ret)) (.skip)))) (.reg [.s (.mv 17 (.t 6)), .s (.bin 18 .add (.t 17) (.k (.v (.c (.int .i64 1))))), .s (.mv 6 (.t 18))]))
def lb_spec_l22Meet_1 : PC := .seq (.seq (.reg [.s (.mv 7 (.t 5)), .s (.mv 8 (.t 0)), .s (.len 9 false (.t 8)), .s (.bin 10 .lss (.t 7) (.t 9))]) (.cond (.t 10) (.skip) (.exit 0))) (.seq (.blk 1 (.seq (.reg [.s (.mv 6 (.k (.v (.c (.int .i64 0)))))]) (.blk 2 (.loop [0, 1, 5, 6] lb_spec_l22Meet_0)))) (.reg [.s (.mv 11 (.t 5)), .s (.bin 12 .add (.t 11) (.k (.v (.c (.int .i64 1))))), .s (.mv 5 (.t 12))]))
def pf_spec_l22Meet : PF := ⟨[.t 4], .seq (.reg [.s (.mv 4 (.k (.v (.c .ff))))]) (.seq (.seq (.reg [.s (.mv 5 (.k (.v (.c (.int .i64 0)))))]) (.blk 0 (.loop [0, 1, 5] lb_spec_l22Meet_1))) (.seq (.reg [.s (.mv 4 (.k (.v (.c .ff))))]) (.ret)))⟩
def c_spec_l22Meet : Fun := ⟨116, [], fun ts K => as2 ts fun t0 t1 => arC (pL (.int .i64)) t0 fun a => arC (pL (.int .i64)) t1 fun b => chk (a.length ≤ 2147483647 ∧ b.length ≤ 2147483647) (K (tB (meetI a b)) [])⟩
theorem run_spec_l22Meet (a : List (FT.Ty (.int .i64))) (b : List (FT.Ty (.int .i64))) (hpre : a.length ≤ 2147483647 ∧ b.length ≤ 2147483647) : runK [] (a.length + b.length + 1) [] pf_spec_l22Meet [tL false (.int .i64) a, tL false (.int .i64) b] fun r o => r = tB (meetI a b) ∧ o = [] := by
  obtain ⟨l1, l2⟩ := hpre
  conv => whnf
  refine loop (α := Nat) (fun i => ⟨[(0, .v (.c (.sl false (.int .i64) 0))), (1, .v (.c (.sl false (.int .i64) 1))), (5, .v (.c (.int .i64 (i : Int))))], [(1, some (.flat false (.int .i64) none b)), (0, some (.flat false (.int .i64) none a))], nums.tail.tail, [], false, []⟩)
      (fun i => i ≤ a.length ∧ (a.drop i).any (fun n => b.any (fun x => n == x)) = meetI a b) (fun i => a.length - i) (fun i R hI hR => ?_) 0 _ ⟨by simp, by simp [meetI]⟩ (by omega)
  obtain ⟨hi, hx⟩ := hI
  conv => whnf
  refine sel_i (fun h => ?_) (fun h => ?_)
  · have hlt : i < a.length := by simpa using h
    clear h
    conv => whnf
    refine loop (α := Nat) (fun j => ⟨[(0, .v (.c (.sl false (.int .i64) 0))), (1, .v (.c (.sl false (.int .i64) 1))), (5, .v (.c (.int .i64 (i : Int)))), (6, .v (.c (.int .i64 (j : Int))))], [(1, some (.flat false (.int .i64) none b)), (0, some (.flat false (.int .i64) none a))], nums.tail.tail, [], false, []⟩)
        (fun j => j ≤ b.length ∧ (b.drop j).any (fun x => a.getD i (FT.zero (.int .i64)) == x) = b.any (fun x => a.getD i (FT.zero (.int .i64)) == x)) (fun j => b.length - j) (fun j R2 hI2 hR2 => ?_) 0 _ ⟨by simp, by simp⟩ (by omega)
    obtain ⟨hj, hy⟩ := hI2
    conv => whnf
    repeat' (first | (refine sel_i (fun h => ?_) (fun h => ?_) <;> conv => whnf) | (refine chk_c ?_ ?_ <;> conv => whnf) | (refine And.intro ?_ rfl) | (refine And.intro ?_ ?_ <;> conv => whnf))
    all_goals (try simp only [Int.toNat_natCast, decide_eq_true_eq, decide_eq_false_iff_not] at *)
    all_goals first
      | (refine ⟨?_⟩; omega)
      | (have e := any_yes (z := FT.zero (.int .i64)) (p := fun x => a.getD i (FT.zero (.int .i64)) == x) (by omega) (by assumption) hy
         rw [show meetI a b = true from any_yes (z := FT.zero (.int .i64)) (p := fun n => b.any (fun x => n == x)) hlt e hx]; done)
      | (rw [wrap_id (n := (j : Int) + 1) (by omega) (by omega)]
         exact hR2 (j + 1) ⟨by omega, any_no (z := FT.zero (.int .i64)) (p := fun x => a.getD i (FT.zero (.int .i64)) == x) (by omega) (by assumption) hy⟩ (by omega))
      | (have e := any_end (p := fun x => a.getD i (FT.zero (.int .i64)) == x) (by omega) hy
         rw [wrap_id (n := (i : Int) + 1) (by omega) (by omega)]
         exact hR (i + 1) ⟨by omega, any_no (z := FT.zero (.int .i64)) (p := fun n => b.any (fun x => n == x)) hlt e hx⟩ (by omega))
      | trace_state
  · conv => whnf
    rw [show meetI a b = false from any_end (by simp at h; omega) hx]
    exact ⟨rfl, rfl⟩
theorem ok_spec_l22Meet : FunOk Tryz.prog c_spec_l22Meet := funOk (E := []) (envOk_nil) mixd Tryz.func116 (pf := pf_spec_l22Meet) (by kernel_rfl) fun ts K h => by
  obtain ⟨t0, t1, e0, h⟩ := as2_out h
  subst e0
  obtain ⟨a, e1, hq⟩ := arC_out (rd_l (.int .i64)) h
  clear h
  subst e1
  have h := hq
  clear hq
  obtain ⟨b, e1, hq⟩ := arC_out (rd_l (.int .i64)) h
  clear h
  subst e1
  have h := hq
  clear hq
  obtain ⟨hpre, h⟩ := chk_o h
  exact ⟨_, _, h, Nat.le_of_ble_eq_true (show Nat.ble 2 Tryz.f116.ntmps = true by kernel_rfl), _, run_spec_l22Meet a b hpre⟩

def pf_impl_Apart : PF := ⟨[.t 2], .seq (.reg [.s (.box 1 (.t 0)), .s (.mv 2 (.k (.v (.c .ff))))]) (.seq (.rgd [] [.s (.fa 5 (.t 1) 2), .s (.load 6 true 8 (.t 5)), .s (.call (some 7) 110 [(.t 6)]), .s (.fa 8 (.t 1) 10), .s (.load 9 true 8 (.t 8)), .s (.call (some 10) 110 [(.t 9)]), .s (.mv 3 (.t 7)), .s (.mv 4 (.t 10))] (.tk 0 (.tk 1 (.tk 3 (.tk 4 (.one 2 false (.one 5 true (.tk 6 (.tk 7 (.done none)))))))))) (.seq (.seq (.reg [.s (.load 11 true 18 (.t 1)), .s (.call (some 12) 44 [(.t 11)]), .s (.bnot 13 (.t 12)), .s (.mv 14 (.t 13)), .g 14 false (some 15) (.fa 15 (.t 1) 0), .g 14 false (some 16) (.load 16 true 2 (.t 15)), .g 14 false (some 17) (.mv 17 (.t 3)), .g 14 false (some 18) (.call (some 18) 111 [(.t 16), (.t 17)]), .s (.pick 19 (.t 14) (.k (.v (.c .tt))) (.t 18)), .s (.mv 20 (.t 19)), .g 20 false (some 21) (.fa 21 (.t 1) 0), .g 20 false (some 22) (.load 22 true 2 (.t 21)), .g 20 false (some 23) (.mv 23 (.t 4)), .g 20 false (some 24) (.call (some 24) 111 [(.t 22), (.t 23)]), .s (.pick 25 (.t 20) (.k (.v (.c .tt))) (.t 24))]) (.cond (.t 25) (.seq (.reg [.s (.mv 2 (.k (.v (.c .ff))))]) (.ret)) (.skip))) (.seq (.reg [.s (.fa 26 (.t 1) 0), .s (.load 27 true 2 (.t 26)), .s (.mv 28 (.t 3)), .s (.mv 29 (.t 4)), .s (.call (some 30) 112 [(.t 27), (.t 28), (.t 29)]), .s (.bnot 31 (.t 30)), .s (.mv 32 (.t 31)), .g 32 true (some 33) (.fa 33 (.t 1) 0), .g 32 true (some 34) (.load 34 true 2 (.t 33)), .g 32 true (some 35) (.mv 35 (.t 4)), .g 32 true (some 36) (.mv 36 (.t 3)), .g 32 true (some 37) (.call (some 37) 112 [(.t 34), (.t 35), (.t 36)]), .g 32 true (some 38) (.bnot 38 (.t 37)), .s (.pick 39 (.t 32) (.t 38) (.k (.v (.c .ff)))), .s (.mv 2 (.t 39))]) (.ret))))⟩
def c_impl_Apart : Fun := ⟨49, [], fun ts K => as1 ts fun t0 => arG pTwoT t0 fun t => chk (LTwo t 1048576) (K (tB (apartB t)) [])⟩
theorem run_impl_Apart (t : Two) (hpre : LTwo t 1048576) : runK [c_impl_TwoOk, c_impl_held, c_impl_CanSeal, c_impl_crosses] (0) [] pf_impl_Apart [tG (t.tc false [])] fun r o => r = tB (apartB t) ∧ o = [] := by
  have hz2 : LTwo t 2147483647 := hpre.mono (by decide)
  obtain ⟨l0, l1, l2⟩ := hpre
  have hm : LMem t.mem 2147483647 := hz2.1
  conv => whnf
  repeat' (first | (refine sel_i (fun h => ?_) (fun h => ?_) <;> conv => whnf) | (refine chk_c ?_ ?_ <;> conv => whnf) | (refine And.intro ?_ rfl) | (refine And.intro ?_ ?_ <;> conv => whnf))
  all_goals (try simp only [etaKey, etaWord, etaMemory, etaSide, etaTwo, Bool.not_eq_true', Bool.not_eq_false'] at *)
  all_goals first
    | (refine ⟨?_⟩; assumption)
    | (refine ⟨?_⟩; omega)
    | (have hh := twoOk_len (by assumption); refine ⟨?_⟩; exact ⟨hm, by simp only [heldW, List.length_append, hh.1, hh.2, List.length_cons, List.length_nil]; omega⟩)
    | (have hh := twoOk_len (by assumption); refine ⟨?_⟩; exact ⟨hm, by simp only [heldW, List.length_append, hh.1, hh.2, List.length_cons, List.length_nil]; omega, by simp only [heldW, List.length_append, hh.1, hh.2, List.length_cons, List.length_nil]; omega⟩)
    | (simp only [apartB, *, Bool.not_true, Bool.not_false, Bool.and_true, Bool.true_and, Bool.and_false, Bool.false_and]; done)
    | trace_state
theorem ok_impl_Apart : FunOk Tryz.prog c_impl_Apart := funOk (E := [c_impl_TwoOk, c_impl_held, c_impl_CanSeal, c_impl_crosses]) (envOk_cons ok_impl_TwoOk (envOk_cons ok_impl_held (envOk_cons ok_impl_CanSeal (envOk_cons ok_impl_crosses (envOk_nil))))) mixd Tryz.func49 (pf := pf_impl_Apart) (by kernel_rfl) fun ts K h => by
  obtain ⟨t0, e0, h⟩ := as1_out h
  subst e0
  obtain ⟨t, e1, hq⟩ := arG_out rd_two h
  clear h
  subst e1
  have h := hq
  clear hq
  obtain ⟨hpre, h⟩ := chk_o h
  exact ⟨_, _, h, Nat.le_of_ble_eq_true (show Nat.ble 1 Tryz.f49.ntmps = true by kernel_rfl), _, run_impl_Apart t hpre⟩

def pf_spec_Apart : PF := ⟨[.t 2], .seq (.reg [.s (.box 1 (.t 0)), .s (.mv 2 (.k (.v (.c .ff))))]) (.seq (.seq (.reg [.s (.load 7 true 18 (.t 1)), .s (.call (some 8) 45 [(.t 7)]), .s (.bnot 9 (.t 8))]) (.cond (.t 9) (.seq (.reg [.s (.mv 2 (.k (.v (.c .ff))))]) (.ret)) (.skip))) (.seq (.rgd [] [.s (.fa 10 (.t 1) 2), .s (.load 11 true 8 (.t 10)), .s (.call (some 12) 113 [(.t 11)]), .s (.fa 13 (.t 1) 10), .s (.load 14 true 8 (.t 13)), .s (.call (some 15) 113 [(.t 14)]), .s (.mv 3 (.t 12)), .s (.mv 4 (.t 15))] (.tk 0 (.tk 1 (.tk 3 (.tk 4 (.one 2 false (.one 5 true (.tk 6 (.tk 7 (.done none)))))))))) (.seq (.seq (.reg [.s (.fa 16 (.t 1) 0), .s (.load 17 true 2 (.t 16)), .s (.mv 18 (.t 3)), .s (.call (some 19) 114 [(.t 17), (.t 18)]), .s (.mv 20 (.t 19)), .g 20 false (some 21) (.fa 21 (.t 1) 0), .g 20 false (some 22) (.load 22 true 2 (.t 21)), .g 20 false (some 23) (.mv 23 (.t 4)), .g 20 false (some 24) (.call (some 24) 114 [(.t 22), (.t 23)]), .s (.pick 25 (.t 20) (.k (.v (.c .tt))) (.t 24))]) (.cond (.t 25) (.seq (.reg [.s (.mv 2 (.k (.v (.c .ff))))]) (.ret)) (.skip))) (.seq (.rgd [] [.s (.fa 26 (.t 1) 0), .s (.load 27 true 2 (.t 26)), .s (.mv 28 (.t 3)), .s (.call (some 29) 115 [(.t 27), (.t 28)]), .s (.fa 30 (.t 1) 0), .s (.load 31 true 2 (.t 30)), .s (.mv 32 (.t 4)), .s (.call (some 33) 115 [(.t 31), (.t 32)]), .s (.mv 5 (.t 29)), .s (.mv 6 (.t 33))] (.tk 0 (.tk 1 (.tk 2 (.tk 4 (.tk 5 (.tk 6 (.one 3 false (.one 7 true (.tk 8 (.tk 9 (.done none)))))))))))) (.seq (.reg [.s (.mv 34 (.t 5)), .s (.mv 35 (.t 6)), .s (.call (some 36) 116 [(.t 34), (.t 35)]), .s (.bnot 37 (.t 36)), .s (.mv 38 (.t 37)), .g 38 true (some 39) (.mv 39 (.t 5)), .g 38 true (some 40) (.fa 40 (.t 1) 0), .g 38 true (some 41) (.load 41 true 2 (.t 40)), .g 38 true (some 42) (.mv 42 (.t 4)), .g 38 true (some 43) (.call (some 43) 117 [(.t 41), (.t 42)]), .g 38 true (some 44) (.call (some 44) 116 [(.t 39), (.t 43)]), .g 38 true (some 45) (.bnot 45 (.t 44)), .s (.pick 46 (.t 38) (.t 45) (.k (.v (.c .ff)))), .s (.mv 47 (.t 46)), .g 47 true (some 48) (.mv 48 (.t 6)), .g 47 true (some 49) (.fa 49 (.t 1) 0), .g 47 true (some 50) (.load 50 true 2 (.t 49)), .g 47 true (some 51) (.mv 51 (.t 3)), .g 47 true (some 52) (.call (some 52) 117 [(.t 50), (.t 51)]), .g 47 true (some 53) (.call (some 53) 116 [(.t 48), (.t 52)]), .g 47 true (some 54) (.bnot 54 (.t 53)), .s (.pick 55 (.t 47) (.t 54) (.k (.v (.c .ff)))), .s (.mv 2 (.t 55))]) (.ret))))))⟩
def c_spec_Apart : Fun := ⟨50, [], fun ts K => as1 ts fun t0 => arG pTwoT t0 fun t => chk (LTwo t 1048576) (K (tB (apartB t)) [])⟩
theorem run_spec_Apart (t : Two) (hpre : LTwo t 1048576) : runK [c_spec_TwoOk, c_spec_l22Words, c_spec_CanSeal, c_spec_StoreCells, c_spec_l22Meet, c_spec_LoadCells] (0) [] pf_spec_Apart [tG (t.tc false [])] fun r o => r = tB (apartB t) ∧ o = [] := by
  have hz2 : LTwo t 2147483647 := hpre.mono (by decide)
  obtain ⟨l0, l1, l2⟩ := hpre
  have hm : LMem t.mem 2147483647 := hz2.1
  have hs : apartB t = (twoOk t && !canSeal t.mem (heldW t.a) && !canSeal t.mem (heldW t.b) && (!meetI (cellsBy t.mem (heldW t.a) 2) (cellsBy t.mem (heldW t.b) 2) && !meetI (cellsBy t.mem (heldW t.a) 2) (cellsBy t.mem (heldW t.b) 1) && !meetI (cellsBy t.mem (heldW t.b) 2) (cellsBy t.mem (heldW t.a) 1))) := by
    rw [← apart_spec]; rfl
  have c1 := cellsBy_le t.mem (heldW t.a) 2
  have c2 := cellsBy_le t.mem (heldW t.b) 2
  have c3 := cellsBy_le t.mem (heldW t.a) 1
  have c4 := cellsBy_le t.mem (heldW t.b) 1
  rw [hs]
  clear hs
  conv => whnf
  repeat' (first | (refine sel_i (fun h => ?_) (fun h => ?_) <;> conv => whnf) | (refine chk_c ?_ ?_ <;> conv => whnf) | (refine And.intro ?_ rfl) | (refine And.intro ?_ ?_ <;> conv => whnf))
  all_goals (try simp only [etaKey, etaWord, etaMemory, etaSide, etaTwo, Bool.not_eq_true', Bool.not_eq_false'] at *)
  all_goals first
    | (refine ⟨?_⟩; assumption)
    | (refine ⟨?_⟩; omega)
    | (have hh := twoOk_len (by assumption); refine ⟨?_⟩; exact ⟨hm, by simp only [heldW, List.length_append, hh.1, hh.2, List.length_cons, List.length_nil]; omega⟩)
    | (simp only [*, Bool.not_true, Bool.not_false, Bool.and_true, Bool.true_and, Bool.and_false, Bool.false_and]; done)
    | trace_state
theorem ok_spec_Apart : FunOk Tryz.prog c_spec_Apart := funOk (E := [c_spec_TwoOk, c_spec_l22Words, c_spec_CanSeal, c_spec_StoreCells, c_spec_l22Meet, c_spec_LoadCells]) (envOk_cons ok_spec_TwoOk (envOk_cons ok_spec_l22Words (envOk_cons ok_spec_CanSeal (envOk_cons ok_spec_StoreCells (envOk_cons ok_spec_l22Meet (envOk_cons ok_spec_LoadCells (envOk_nil))))))) mixd Tryz.func50 (pf := pf_spec_Apart) (by kernel_rfl) fun ts K h => by
  obtain ⟨t0, e0, h⟩ := as1_out h
  subst e0
  obtain ⟨t, e1, hq⟩ := arG_out rd_two h
  clear h
  subst e1
  have h := hq
  clear hq
  obtain ⟨hpre, h⟩ := chk_o h
  exact ⟨_, _, h, Nat.le_of_ble_eq_true (show Nat.ble 1 Tryz.f50.ntmps = true by kernel_rfl), _, run_spec_Apart t hpre⟩

def LHeap (h : Heap) (n : Nat) : Prop := LMem h.mem n ∧ h.live.length ≤ n ∧ h.waits.length ≤ n
theorem LHeap.mono {t : Heap} {n m : Nat} (h : LHeap t n) (k : n ≤ m) : LHeap t m := ⟨⟨Nat.le_trans h.1.1 k, Nat.le_trans h.1.2 k⟩, Nat.le_trans h.2.1 k, Nat.le_trans h.2.2 k⟩
theorem inR_t {n lo hi : Int} : inR n lo hi = true ↔ lo ≤ n ∧ n ≤ hi := by simp [inR]
theorem inR_f {n lo hi : Int} : inR n lo hi = false ↔ (n < lo ∨ hi < n) := by
  rw [Bool.eq_false_iff, ne_eq, inR_t]; omega

def allR (f : Nat → Bool) (n : Nat) : Bool := (List.range n).all f
end Go.Pi
