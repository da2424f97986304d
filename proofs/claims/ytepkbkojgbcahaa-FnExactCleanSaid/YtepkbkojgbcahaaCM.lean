/- Contracts of functions, each out of its run by PI. No conditions. -/
import Derived.Test.YtepkbkojgbcahaaCL
namespace Go.Pi
open Go.Proofs
set_option linter.unusedVariables false
set_option linter.unusedSimpArgs false
set_option maxRecDepth 100000
attribute [local irreducible] iterN
def filt (f : Nat → Bool) (n : Nat) : List Int := ((List.range n).filter f).map (fun c : Nat => (c : Int))
theorem filt_yes {f : Nat → Bool} {n : Nat} (h : f n = true) : filt f (n + 1) = filt f n ++ [(n : Int)] := by simp [filt, List.range_succ, List.filter_append, h]
theorem filt_no {f : Nat → Bool} {n : Nat} (h : f n = false) : filt f (n + 1) = filt f n := by simp [filt, List.range_succ, List.filter_append, h]
theorem filt_len (f : Nat → Bool) (n : Nat) : (filt f n).length ≤ n := by
  have := List.length_filter_le f (List.range n)
  simp [filt] at this ⊢; exact this
theorem filt_congr {f g : Nat → Bool} {n : Nat} (h : ∀ c, c < n → f c = g c) : filt f n = filt g n := by
  unfold filt
  congr 1
  apply List.filter_congr
  intro c hc
  exact h c (by simpa using hc)
def coverP (ws : List Word) (p : Int) (c : Nat) : Bool := ws.any (fun w => hasP w p && inR c w.key.base (w.key.top - 1))
def cellsBy (m : Mem) (l : List Word) (p : Int) : List Int := filt (coverP (closure m l) p) 24
theorem any_take {α : Type} (p : α → Bool) {xs : List α} {i : Nat} (z : α) (h : i < xs.length) : (xs.take (i + 1)).any p = ((xs.take i).any p || p (xs.getD i z)) := by
  have e : xs.getD i z = xs[i] := by simp [List.getD_eq_getElem?_getD, h]
  rw [List.take_add_one, List.getElem?_eq_getElem h, List.any_append, e]; simp
theorem getD_set {α : Type} (xs : List α) (i j : Nat) (v d : α) (h : j < xs.length) : (xs.set i v).getD j d = if i = j then v else xs.getD j d := by
  simp only [List.getD_eq_getElem?_getD, List.getElem?_set]
  by_cases e : i = j
  · subst e; simp [h]
  · simp [e]
theorem rep_getD {α : Type} {n c : Nat} {x d : α} (h : c < n) : (List.replicate n x).getD c d = x := by
  simp only [List.getD_eq_getElem?_getD, List.getElem?_replicate, if_pos h, Option.getD_some]

def lb_spec_l21Cells_0 : PC := .seq (.seq (.reg [.s (.mv 20 (.t 10)), .s (.mv 21 (.t 7)), .s (.len 22 false (.t 21)), .s (.bin 23 .lss (.t 20) (.t 22))]) (.cond (.t 23) (.skip) (.exit 2))) (.seq (.blk 3 (.seq (.reg [.s (.mv 26 (.t 7)), .s (.mv 27 (.t 10)), .s (.ia 28 .word (.t 26) (.t 27)), .s (.fa 29 (.t 28) 2), .s (.load 30 true 4 (.t 29)), .s (.alloc 11 [.int .i64 0, .int .i64 0, .int .i64 0, .int .i64 0]), .s (.store 4 (.t 11) (.t 30))]) (.seq (.reg [.s (.fa 31 (.t 11) 2), .s (.load 32 false 1 (.t 31)), .s (.mv 33 (.t 2)), .s (.bin 34 .and (.t 32) (.t 33)), .s (.bin 35 .neq (.t 34) (.k (.v (.c (.int .i64 0))))), .s (.mv 36 (.t 35)), .g 36 true (some 37) (.mv 37 (.t 9)), .g 36 true (some 38) (.fa 38 (.t 11) 0), .g 36 true (some 39) (.load 39 false 1 (.t 38)), .g 36 true (some 40) (.fa 40 (.t 11) 1), .g 36 true (some 41) (.load 41 false 1 (.t 40)), .g 36 true (some 42) (.bin 42 .sub (.t 41) (.k (.v (.c (.int .i64 1))))), .g 36 true (some 43) (.call (some 43) 101 [(.t 37), (.t 39), (.t 42)]), .s (.pick 44 (.t 36) (.t 43) (.k (.v (.c .ff))))]) (.cond (.t 44) (.seq (.reg [.s (.mv 45 (.t 8)), .s (.mv 46 (.t 9)), .s (.bs 47 (.int .i64) [(.t 46)]), .s (.app 48 (.int .i64) (.t 45) (.t 47)), .s (.mv 8 (.t 48))]) (.exit 2)) (.skip))))) (.reg [.s (.mv 24 (.t 10)), .s (.bin 25 .add (.t 24) (.k (.v (.c (.int .i64 1))))), .s (.mv 10 (.t 25))]))
def lb_spec_l21Cells_1 : PC := .seq (.seq (.reg [.s (.mv 16 (.t 9)), .s (.bin 17 .lss (.t 16) (.k (.v (.c (.int .i64 24)))))]) (.cond (.t 17) (.skip) (.exit 0))) (.seq (.blk 1 (.seq (.reg [.s (.mv 10 (.k (.v (.c (.int .i64 0)))))]) (.blk 2 (.loop [2, 7, 8, 9, 10] lb_spec_l21Cells_0)))) (.reg [.s (.mv 18 (.t 9)), .s (.bin 19 .add (.t 18) (.k (.v (.c (.int .i64 1))))), .s (.mv 9 (.t 19))]))
def pf_spec_l21Cells : PF := ⟨[.t 6], .seq (.reg [.s (.box 3 (.t 0)), .s (.mv 6 (.k (.v (.c (.nils (.int .i64))))))]) (.seq (.reg [.s (.load 12 true 2 (.t 3)), .s (.mv 13 (.t 1)), .s (.call (some 14) 14 [(.t 12), (.t 13)]), .s (.mv 7 (.t 14))]) (.seq (.reg [.s (.bs 15 (.int .i64) []), .s (.mv 8 (.t 15))]) (.seq (.seq (.reg [.s (.mv 9 (.k (.v (.c (.int .i64 0)))))]) (.blk 0 (.loop [2, 7, 8, 9] lb_spec_l21Cells_1))) (.seq (.reg [.s (.mv 49 (.t 8)), .s (.mv 6 (.t 49))]) (.ret)))))⟩
def c_spec_l21Cells : Fun := ⟨73, [], fun ts K => as3 ts fun t0 t1 t2 => arG pMemT t0 fun m => arC (pL .word) t1 fun l => arC (pI .i64) t2 fun p => chk (LMem m 2147483647 ∧ l.length ≤ 1048576) (K (tL true (.int .i64) (cellsBy m l p)) [])⟩
theorem run_spec_l21Cells (m : Mem) (l : List (FT.Ty .word)) (p : Int) (hpre : LMem m 2147483647 ∧ l.length ≤ 1048576) : runK [c_spec_Closure, c_spec_l1In] (l.length + 30) [] pf_spec_l21Cells [tG (m.tc false []), tL false .word l, tI .i64 p] fun r o => r = tL true (.int .i64) (cellsBy m l p) ∧ o = [] := by
  have h1 := closure_len m l
  have h2 := closure_out m l
  conv => whnf
  refine chk_i hpre ?_
  conv => whnf
  simp only [etaMemory]
  unfold cellsBy
  generalize closure m l = ws at *
  refine loop (α := Nat × List Int) (fun q => ⟨[(2, .v (.c (.int .i64 p))), (7, .v (.c (.sl false .word 0))), (8, .v (.c (.sl true (.int .i64) 1))), (9, .v (.c (.int .i64 (q.1 : Int))))],
        [(1, some (.flat true (.int .i64) none q.2)), (0, some (.flat true .word none ws))], nums.tail.tail, [], false, []⟩)
      (fun q => q.1 ≤ 24 ∧ q.2 = filt (coverP ws p) q.1) (fun q => 24 - q.1) (fun q R hI hR => ?_) (0, []) _ ⟨by simp, rfl⟩ (by dsimp only; omega)
  obtain ⟨c, out⟩ := q
  obtain ⟨hc, hx⟩ := hI
  dsimp only at hc hx
  dsimp only
  have hol : out.length ≤ c := by rw [hx]; exact filt_len _ _
  conv => whnf
  refine sel_i (fun h => ?_) (fun h => ?_)
  · have hc2 : c < 24 := by simp at h; omega
    clear h
    conv => whnf
    refine loop (α := Nat) (fun i => ⟨[(2, .v (.c (.int .i64 p))), (7, .v (.c (.sl false .word 0))), (8, .v (.c (.sl true (.int .i64) 1))), (9, .v (.c (.int .i64 (c : Int)))), (10, .v (.c (.int .i64 (i : Int))))],
          [(1, some (.flat true (.int .i64) none out)), (0, some (.flat true .word none ws))], nums.tail.tail, [], false, []⟩)
        (fun i => i ≤ ws.length ∧ (ws.drop i).any (fun w => hasP w p && inR c w.key.base (w.key.top - 1)) = coverP ws p c) (fun i => ws.length - i) (fun i R2 hI2 hR2 => ?_) 0 _ ⟨by simp, by simp [coverP]⟩ (by omega)
    obtain ⟨hi, hy⟩ := hI2
    conv => whnf
    refine sel_i (fun h => ?_) (fun h => ?_)
    · have hlt : i < ws.length := by simpa using h
      clear h
      obtain ⟨b1, b2, b3⟩ := wout_bounds h2 hlt
      have hh := hasP_is h2 (getD_mem hlt) p
      have w1 : IntKind.i64.wrap ((ws.getD i (FT.zero .word)).key.top - 1) = (ws.getD i (FT.zero .word)).key.top - 1 := wrap_id (by omega) (by omega)
      conv => whnf
      repeat' (first | (refine sel_i (fun h => ?_) (fun h => ?_) <;> conv => whnf) | (refine chk_c ?_ ?_ <;> conv => whnf) | (refine And.intro ?_ rfl) | (refine And.intro ?_ ?_ <;> conv => whnf))
      all_goals (try simp only [andI_eq, Int.toNat_natCast, w1] at *)
      all_goals first
        | (refine ⟨?_⟩; omega)
        | (refine ⟨?_⟩; simp; omega)
        | skip
      · rename_i g1
        have e : coverP ws p c = true := any_yes (z := FT.zero .word) hlt (by simp only [hh, g1, h, Bool.and_self]) hy
        rw [wrap_id (n := (c : Int) + 1) (by omega) (by omega)]
        exact hR (c + 1, out ++ [(c : Int)]) ⟨by dsimp only; omega, by rw [filt_yes e, hx]⟩ (by dsimp only; omega)
      · rename_i g1
        rw [wrap_id (n := (i : Int) + 1) (by omega) (by omega)]
        exact hR2 (i + 1) ⟨hlt, any_no (z := FT.zero .word) hlt (by simp only [hh, g1, h, Bool.and_false]) hy⟩ (by omega)
      · rw [wrap_id (n := (i : Int) + 1) (by omega) (by omega)]
        exact hR2 (i + 1) ⟨hlt, any_no (z := FT.zero .word) hlt (by simp only [hh, h, Bool.false_and]) hy⟩ (by omega)
    · have e : coverP ws p c = false := any_end (by simp at h; omega) hy
      conv => whnf
      rw [wrap_id (n := (c : Int) + 1) (by omega) (by omega)]
      exact hR (c + 1, out) ⟨by dsimp only; omega, by rw [filt_no e, hx]⟩ (by dsimp only; omega)
  · have e : c = 24 := by simp at h; omega
    subst e
    conv => whnf
    rw [hx]
    exact ⟨rfl, rfl⟩
theorem ok_spec_l21Cells : FunOk Try.prog c_spec_l21Cells := funOk (E := [c_spec_Closure, c_spec_l1In]) (envOk_cons ok_spec_Closure (envOk_cons ok_spec_l1In (envOk_nil))) mixd Try.func73 (pf := pf_spec_l21Cells) (by kernel_rfl) fun ts K h => by
  obtain ⟨t0, t1, t2, e0, h⟩ := as3_out h
  subst e0
  obtain ⟨m, e1, hq⟩ := arG_out rd_mem h
  clear h
  subst e1
  have h := hq
  clear hq
  obtain ⟨l, e1, hq⟩ := arC_out (rd_l .word) h
  clear h
  subst e1
  have h := hq
  clear hq
  obtain ⟨p, e1, hq⟩ := arC_out (rd_int .i64) h
  clear h
  subst e1
  have h := hq
  clear hq
  obtain ⟨hpre, h⟩ := chk_o h
  exact ⟨_, _, h, Nat.le_of_ble_eq_true (show Nat.ble 3 Try.f73.ntmps = true by kernel_rfl), _, run_spec_l21Cells m l p hpre⟩

def lb_impl_cellsBy_0 : PC := .seq (.seq (.reg [.s (.mv 36 (.t 12)), .s (.mv 37 (.t 11)), .s (.bin 38 .lss (.t 36) (.t 37))]) (.cond (.t 38) (.skip) (.exit 2))) (.seq (.blk 3 (.reg [.s (.mv 41 (.t 7)), .s (.mv 42 (.t 12)), .s (.ia 43 .bool (.t 41) (.t 42)), .s (.store 1 (.t 43) (.k (.v (.c .tt))))])) (.reg [.s (.mv 39 (.t 12)), .s (.bin 40 .add (.t 39) (.k (.v (.c (.int .i64 1))))), .s (.mv 12 (.t 40))]))
def lb_impl_cellsBy_1 : PC := .seq (.reg [.s (.bin 22 .lss (.t 21) (.t 20))]) (.seq (.cond (.t 22) (.skip) (.exit 0)) (.seq (.blk 1 (.seq (.reg [.s (.ia 23 .word (.t 19) (.t 21)), .s (.load 24 true 6 (.t 23)), .s (.alloc 9 [.int .i64 0, .ff, .int .i64 0, .int .i64 0, .int .i64 0, .int .i64 0]), .s (.store 6 (.t 9) (.t 24))]) (.seq (.seq (.reg [.s (.load 25 true 6 (.t 9)), .s (.mv 26 (.t 2)), .s (.call (some 27) 115 [(.t 25), (.t 26)]), .s (.bnot 28 (.t 27))]) (.cond (.t 28) (.exit 1) (.skip))) (.seq (.reg [.s (.fa 30 (.t 9) 2), .s (.load 31 true 4 (.t 30)), .s (.call (some 32) 63 [(.t 31)]), .s (.mv 29 (.t 32)), .s (.ext 33 (.t 29) 0), .s (.ext 34 (.t 29) 1), .s (.mv 10 (.t 33)), .s (.mv 11 (.t 34))]) (.seq (.reg [.s (.mv 35 (.t 10)), .s (.mv 12 (.t 35))]) (.blk 2 (.loop [2, 7, 11, 12, 19, 20, 21] lb_impl_cellsBy_0))))))) (.reg [.s (.bin 44 .add (.t 21) (.k (.v (.c (.int .i64 1))))), .s (.mv 21 (.t 44))])))
def lb_impl_cellsBy_2 : PC := .seq (.reg [.s (.bin 49 .lss (.t 48) (.t 47))]) (.seq (.cond (.t 49) (.skip) (.exit 4)) (.seq (.blk 5 (.seq (.reg [.s (.mv 50 (.t 48)), .s (.ia 51 .bool (.t 46) (.t 48)), .s (.load 52 false 1 (.t 51)), .s (.mv 14 (.t 50)), .s (.mv 15 (.t 52))]) (.seq (.reg [.s (.mv 53 (.t 15))]) (.cond (.t 53) (.reg [.s (.mv 54 (.t 13)), .s (.mv 55 (.t 14)), .s (.bs 56 (.int .i64) [(.t 55)]), .s (.app 57 (.int .i64) (.t 54) (.t 56)), .s (.mv 13 (.t 57))]) (.skip))))) (.reg [.s (.bin 58 .add (.t 48) (.k (.v (.c (.int .i64 1))))), .s (.mv 48 (.t 58))])))
def pf_impl_cellsBy : PF := ⟨[.t 6], .seq (.reg [.s (.box 3 (.t 0)), .s (.mv 6 (.k (.v (.c (.nils (.int .i64))))))]) (.seq (.reg [.s (.mkS 16 .bool (.k (.v (.c (.int .i64 24))))), .s (.mv 7 (.t 16))]) (.seq (.seq (.reg [.s (.load 17 true 2 (.t 3)), .s (.mv 18 (.t 1)), .s (.call (some 19) 17 [(.t 17), (.t 18)]), .s (.len 20 false (.t 19)), .s (.mv 21 (.k (.v (.c (.int .i64 0)))))]) (.blk 0 (.loop [2, 7, 19, 20, 21] lb_impl_cellsBy_1))) (.seq (.reg [.s (.bs 45 (.int .i64) []), .s (.mv 13 (.t 45))]) (.seq (.seq (.reg [.s (.mv 46 (.t 7)), .s (.len 47 false (.t 46)), .s (.mv 48 (.k (.v (.c (.int .i64 0)))))]) (.blk 4 (.loop [13, 46, 47, 48] lb_impl_cellsBy_2))) (.seq (.reg [.s (.mv 59 (.t 13)), .s (.mv 6 (.t 59))]) (.ret))))))⟩
def c_impl_cellsBy : Fun := ⟨74, [], fun ts K => as3 ts fun t0 t1 t2 => arG pMemT t0 fun m => arC (pL .word) t1 fun l => arC (pI .i64) t2 fun p => chk (LMem m 2147483647 ∧ l.length ≤ 1048576) (K (tL true (.int .i64) (cellsBy m l p)) [])⟩
theorem run_impl_cellsBy (m : Mem) (l : List (FT.Ty .word)) (p : Int) (hpre : LMem m 2147483647 ∧ l.length ≤ 1048576) : runK [c_impl_Closure, c_impl_spanned, c_impl_has] (l.length + 30) [] pf_impl_cellsBy [tG (m.tc false []), tL false .word l, tI .i64 p] fun r o => r = tL true (.int .i64) (cellsBy m l p) ∧ o = [] := by
  have h1 := closure_len m l
  have h2 := closure_out m l
  conv => whnf
  refine chk_i (by omega) ?_
  conv => whnf
  refine chk_i hpre ?_
  conv => whnf
  simp only [etaMemory]
  unfold cellsBy
  generalize closure m l = ws at *
  refine loop (α := Nat × List Bool) (fun q => ⟨[(2, .v (.c (.int .i64 p))), (7, .v (.c (.sl true .bool 0))), (19, .v (.c (.sl false .word 1))), (20, .v (.c (.int .i64 (ws.length : Int)))), (21, .v (.c (.int .i64 (q.1 : Int))))],
        [(1, some (.flat true .word none ws)), (0, some (.flat true .bool none q.2))], nums.tail.tail, [], false, []⟩)
      (fun q => q.1 ≤ ws.length ∧ q.2.length = 24 ∧ ∀ c, c < 24 → q.2.getD c false = coverP (ws.take q.1) p c) (fun q => ws.length - q.1) (fun q R hI hR => ?_) (0, List.replicate 24 false) _
      ⟨by simp, by simp, fun c hc => by rw [rep_getD hc]; rfl⟩ (by dsimp only; omega)
  obtain ⟨i, hit⟩ := q
  obtain ⟨hi, hl, hx⟩ := hI
  dsimp only at hi hl hx
  dsimp only
  conv => whnf
  refine sel_i (fun h => ?_) (fun h => ?_)
  · have hlt : i < ws.length := by simpa using h
    clear h
    obtain ⟨b1, b2, b3⟩ := wout_bounds h2 hlt
    have hs : ∀ c : Nat, coverP (ws.take (i + 1)) p c = (coverP (ws.take i) p c || (hasP (ws.getD i (FT.zero .word)) p && inR c (ws.getD i (FT.zero .word)).key.base ((ws.getD i (FT.zero .word)).key.top - 1))) := fun c => any_take _ (FT.zero .word) hlt
    conv => whnf
    repeat' (first | (refine sel_i (fun h => ?_) (fun h => ?_) <;> conv => whnf) | (refine chk_c ?_ ?_ <;> conv => whnf) | (refine And.intro ?_ rfl) | (refine And.intro ?_ ?_ <;> conv => whnf))
    all_goals (try simp only [etaKey, etaWord, Int.toNat_natCast, Bool.not_eq_true', Bool.not_eq_false'] at *)
    all_goals generalize ws.getD i (FT.zero .word) = w at *
    all_goals first
      | (refine ⟨?_⟩; omega)
      | skip
    · rw [wrap_id (n := (i : Int) + 1) (by omega) (by omega)]
      exact hR (i + 1, hit) ⟨hlt, hl, fun c hc => by rw [hs, h, Bool.false_and, Bool.or_false]; exact hx c hc⟩ (by dsimp only; omega)
    refine loop (α := Int × List Bool) (fun q => ⟨[(2, .v (.c (.int .i64 p))), (7, .v (.c (.sl true .bool 0))), (11, .v (.c (.int .i64 (min w.key.top 24)))), (12, .v (.c (.int .i64 q.1))), (19, .v (.c (.sl false .word 1))), (20, .v (.c (.int .i64 (ws.length : Int)))), (21, .v (.c (.int .i64 (i : Int))))],
          [(1, some (.flat true .word none ws)), (0, some (.flat true .bool none q.2))], nums.tail.tail, [], false, []⟩)
        (fun q => (w.key.base ≤ q.1 ∧ q.1 ≤ max w.key.base (min w.key.top 24)) ∧ q.2.length = 24 ∧ ∀ c : Nat, c < 24 → q.2.getD c false = (hit.getD c false || (decide (w.key.base ≤ c) && decide ((c : Int) < q.1)))) (fun q => (min w.key.top 24 - q.1).toNat) (fun q R2 hI2 hR2 => ?_) (w.key.base, hit) _
        ⟨by dsimp only; omega, hl, fun c hc => by
          have : (decide (w.key.base ≤ (c : Int)) && decide ((c : Int) < w.key.base)) = false := by
            by_cases hh : w.key.base ≤ (c : Int) <;> simp [hh] <;> omega
          simp only [this, Bool.or_false]⟩ (by dsimp only; omega)
    obtain ⟨n, hit2⟩ := q
    obtain ⟨gn, gl, gx⟩ := hI2
    dsimp only at gn gl gx
    dsimp only
    conv => whnf
    refine sel_i (fun h3 => ?_) (fun h3 => ?_)
    · have hn : n < min w.key.top 24 := by simpa using h3
      clear h3
      conv => whnf
      repeat' (first | (refine sel_i (fun h => ?_) (fun h => ?_) <;> conv => whnf) | (refine chk_c ?_ ?_ <;> conv => whnf) | (refine And.intro ?_ rfl) | (refine And.intro ?_ ?_ <;> conv => whnf))
      all_goals first
        | (refine ⟨?_⟩; omega)
        | skip
      rw [wrap_id (n := n + 1) (by omega) (by omega)]
      exact hR2 (n + 1, hit2.set n.toNat true) ⟨by dsimp only; omega, by simpa using gl, fun c hc => by
        rw [getD_set _ _ _ _ _ (by omega), gx c hc]
        by_cases e : n.toNat = c
        · rw [if_pos e]
          have e1 : decide (w.key.base ≤ (c : Int)) = true := decide_eq_true (by omega)
          have e2 : decide ((c : Int) < n + 1) = true := decide_eq_true (by omega)
          simp only [e1, e2, Bool.and_self, Bool.or_true]
        · rw [if_neg e]
          have e2 : decide ((c : Int) < n + 1) = decide ((c : Int) < n) := decide_eq_decide.2 (by omega)
          rw [e2]⟩ (by dsimp only; omega)
    · have hn : min w.key.top 24 ≤ n := by simp at h3; omega
      conv => whnf
      rw [wrap_id (n := (i : Int) + 1) (by omega) (by omega)]
      exact hR (i + 1, hit2) ⟨hlt, gl, fun c hc => by
        rw [hs, h, gx c hc, hx c hc, Bool.true_and]
        congr 1
        unfold inR
        by_cases e : w.key.base ≤ (c : Int)
        · rw [decide_eq_true e, Bool.true_and, Bool.true_and]
          exact decide_eq_decide.2 (by omega)
        · rw [decide_eq_false e]; rfl⟩ (by dsimp only; omega)
  · have he : i = ws.length := by simp at h; omega
    clear h hR
    subst he
    rw [List.take_length] at hx
    conv => whnf
    refine loop (α := Nat × List Int) (fun q => ⟨[(13, .v (.c (.sl true (.int .i64) 0))), (46, .v (.c (.sl true .bool 1))), (47, .v (.c (.int .i64 (hit.length : Int)))), (48, .v (.c (.int .i64 (q.1 : Int))))],
          [(1, some (.flat true .bool none hit)), (0, some (.flat true (.int .i64) none q.2))], nums.tail.tail, [], false, []⟩)
        (fun q => q.1 ≤ 24 ∧ q.2 = filt (coverP ws p) q.1) (fun q => 24 - q.1) (fun q R hI hR => ?_) (0, []) _ ⟨by simp, rfl⟩ (by dsimp only; omega)
    obtain ⟨c, out⟩ := q
    obtain ⟨hc, hy⟩ := hI
    dsimp only at hc hy
    dsimp only
    have hol : out.length ≤ c := by rw [hy]; exact filt_len _ _
    conv => whnf
    rw [hl]
    refine sel_i (fun h => ?_) (fun h => ?_)
    · have hc2 : c < 24 := by simp at h; omega
      clear h
      conv => whnf
      repeat' (first | (refine sel_i (fun h => ?_) (fun h => ?_) <;> conv => whnf) | (refine chk_c ?_ ?_ <;> conv => whnf) | (refine And.intro ?_ rfl) | (refine And.intro ?_ ?_ <;> conv => whnf))
      all_goals (try simp only [Int.toNat_natCast] at *)
      all_goals first
        | (refine ⟨?_⟩; omega)
        | (refine ⟨?_⟩; simp; omega)
        | skip
      · rw [wrap_id (n := (c : Int) + 1) (by omega) (by omega)]
        have := hR (c + 1, out ++ [(c : Int)]) ⟨by dsimp only; omega, by rw [filt_yes (by rw [← hx c hc2]; exact h), hy]⟩ (by dsimp only; omega)
        rw [hl] at this
        exact this
      · rw [wrap_id (n := (c : Int) + 1) (by omega) (by omega)]
        have := hR (c + 1, out) ⟨by dsimp only; omega, by rw [filt_no (by rw [← hx c hc2]; exact h), hy]⟩ (by dsimp only; omega)
        rw [hl] at this
        exact this
    · have e : c = 24 := by simp at h; omega
      subst e
      conv => whnf
      rw [hy]
      exact ⟨rfl, rfl⟩
theorem ok_impl_cellsBy : FunOk Try.prog c_impl_cellsBy := funOk (E := [c_impl_Closure, c_impl_spanned, c_impl_has]) (envOk_cons ok_impl_Closure (envOk_cons ok_impl_spanned (envOk_cons ok_impl_has (envOk_nil)))) mixd Try.func74 (pf := pf_impl_cellsBy) (by kernel_rfl) fun ts K h => by
  obtain ⟨t0, t1, t2, e0, h⟩ := as3_out h
  subst e0
  obtain ⟨m, e1, hq⟩ := arG_out rd_mem h
  clear h
  subst e1
  have h := hq
  clear hq
  obtain ⟨l, e1, hq⟩ := arC_out (rd_l .word) h
  clear h
  subst e1
  have h := hq
  clear hq
  obtain ⟨p, e1, hq⟩ := arC_out (rd_int .i64) h
  clear h
  subst e1
  have h := hq
  clear hq
  obtain ⟨hpre, h⟩ := chk_o h
  exact ⟨_, _, h, Nat.le_of_ble_eq_true (show Nat.ble 3 Try.f74.ntmps = true by kernel_rfl), _, run_impl_cellsBy m l p hpre⟩
end Go.Pi
