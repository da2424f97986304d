/- Contracts of functions, each out of its run by PI. No conditions. -/
import Derived.Test.YtbenlebnogedlaaGreatC4
namespace Go.Pi
open Go.Proofs
set_option linter.unusedVariables false
set_option linter.unusedSimpArgs false
set_option maxRecDepth 100000
attribute [local irreducible] iterN
/-! the core: what it is made of -/
abbrev zCore : Core := ⟨zState, [], zW, false, []⟩
def guessOk (g : List Int) : Bool := decide (g.length = 48) && g.all (fun n => inR n (-1) 65535)
def guessNew : List Int := List.replicate 48 (-1)
def guessW (g : List Int) (pc : Word) : Word := if inR pc.n 0 (g.length - 1) && (g.getD pc.n.toNat (FT.zero (.int .i64)) != -1) then pointW pc (g.getD pc.n.toNat (FT.zero (.int .i64))) else nextW pc
def learnG (g : List Int) (pc next : Word) : List Int := if inR pc.n 0 (g.length - 1) then g.set pc.n.toNat (andI next.n 65535) else g
def entryOk (e : Entry) : Bool := wordOk e.pc && wordOk e.guess && wordOk e.e.val && wordOk e.e.next && wordOk e.e.put && (insOk e.x || decide (e.x = zI)) && inR e.e.trap 0 5 && inR e.e.r (-1) 7 && decide (e.e.drop ≤ 4096)
def coreOk (c : Core) : Bool := stateOk c.s && decide (c.rob.length ≤ 6) && c.rob.all entryOk && wordOk c.next && guessOk c.guesses
def coreNew (s : State) : Core := if stateOk s then ⟨s, [], s.pc, false, guessNew⟩ else zCore
def setBy (e : Entry) : Int := if e.done then e.e.r else setsI e.x
def srcGo (rob : List Entry) (r : Int) : Nat → Int
  | 0 => -1
  | k + 1 => if setBy (rob.getD k (FT.zero .entry)) = r then (k : Int) else srcGo rob r k
def source (rob : List Entry) (i r : Int) : Int := if r < 0 then -1 else srcGo rob r (min i rob.length).toNat
def valueC (c : Core) (i r : Int) : Word × Bool :=
  if source c.rob i r < 0 then (c.s.regs.getD r.toNat (FT.zero .word), true) else if (c.rob.getD (source c.rob i r).toNat (FT.zero .entry)).done then ((c.rob.getD (source c.rob i r).toNat (FT.zero .entry)).e.val, true) else (zW, false)
def LCore (c : Core) (n : Nat) : Prop := LState c.s n ∧ c.rob.length ≤ n ∧ c.guesses.length ≤ n
theorem etaCore (x : Core) : (⟨x.s, x.rob, x.next, x.stop, x.guesses⟩ : Core) = x := rfl
theorem insEq0 (a : Inst) : (a.op == 0 && (a.r == 0 && (a.a == 0 && (a.b == 0 && a.n == 0)))) = decide (a = zI) := by
  obtain ⟨a1, a2, a3, a4, a5⟩ := a
  rw [Bool.eq_iff_iff]; simp
theorem srcGo_in (rob : List Entry) (r : Int) : ∀ k, -1 ≤ srcGo rob r k ∧ srcGo rob r k < k
  | 0 => by simp [srcGo]
  | k + 1 => by
    have := srcGo_in rob r k
    unfold srcGo
    split <;> omega
theorem source_in (rob : List Entry) (i r : Int) : -1 ≤ source rob i r ∧ source rob i r < rob.length := by
  unfold source
  split
  · omega
  · have := srcGo_in rob r (min i rob.length).toNat
    omega
theorem coreOk_iff {c : Core} : coreOk c = true ↔ stateOk c.s = true ∧ c.rob.length ≤ 6 ∧ (∀ e ∈ c.rob, entryOk e = true) ∧ wordOk c.next = true ∧ guessOk c.guesses = true := by
  simp only [coreOk, Bool.and_eq_true, decide_eq_true_eq, List.all_eq_true, and_assoc]
theorem guessOk_len {g : List Int} (h : guessOk g = true) : g.length = 48 := by
  simp only [guessOk, Bool.and_eq_true, decide_eq_true_eq] at h; exact h.1
theorem coreOk_len {c : Core} (h : coreOk c = true) : LenOk c.s ∧ c.rob.length ≤ 6 ∧ c.guesses.length = 48 := by
  obtain ⟨h1, h2, h3, h4, h5⟩ := coreOk_iff.1 h
  exact ⟨stateOk_len h1, h2, guessOk_len h5⟩
theorem coreOk_l {c : Core} (h : coreOk c = true) : LCore c 2147483647 := by
  obtain ⟨h1, h2, h3⟩ := coreOk_len h
  exact ⟨h1.l, by omega, by omega⟩
theorem guessW_yes {g : List Int} {pc : Word} (h : inR pc.n 0 (g.length - 1) = true) (h2 : (g.getD pc.n.toNat (FT.zero (.int .i64)) != -1) = true) : guessW g pc = pointW pc (g.getD pc.n.toNat (FT.zero (.int .i64))) := by
  unfold guessW; rw [h, h2]; rfl
theorem guessW_no {g : List Int} {pc : Word} (h2 : (g.getD pc.n.toNat (FT.zero (.int .i64)) != -1) = false) : guessW g pc = pointW pc (IntKind.i64.wrap (pc.n + 1)) := by
  unfold guessW; rw [h2, Bool.and_false]; rfl
theorem guessW_out {g : List Int} {pc : Word} (h : inR pc.n 0 (g.length - 1) = false) : guessW g pc = pointW pc (IntKind.i64.wrap (pc.n + 1)) := by
  unfold guessW; rw [h]; rfl

def pf_slices_Clone_Entry : PF := ⟨[.t 2], .seq (.reg [.s (.mv 2 (.k (.v (.c (.nils .entry)))))]) (.seq (.seq (.reg [.s (.mv 3 (.t 0)), .s (.isnil 4 (.t 3))]) (.cond (.t 4) (.seq (.reg [.s (.mv 2 (.k (.v (.c (.nils .entry)))))]) (.ret)) (.skip))) (.seq (.reg [.s (.bs 5 .entry []), .s (.mv 6 (.t 0)), .s (.app 7 .entry (.t 5) (.t 6)), .s (.mv 2 (.t 7))]) (.ret)))⟩
def c_slices_Clone_Entry : Fun := ⟨123, [], fun ts K => as1 ts fun t0 => arC (pL .entry) t0 fun a => chk (a.length ≤ 2147483647) (K (tL true .entry a) [])⟩
theorem ok_slices_Clone_Entry : FunOk Tryz.prog c_slices_Clone_Entry := funOkN (E := []) envOk_nil mixd Tryz.func123 (pf := pf_slices_Clone_Entry) (by kernel_rfl) rfl (Nat.le_of_ble_eq_true (show Nat.ble 1 Tryz.f123.ntmps = true by kernel_rfl)) fun ts K h => by
  obtain ⟨t0, e0, h⟩ := as1_out h
  subst e0
  obtain ⟨a, e1, h⟩ := arC_out (rd_l .entry) h
  subst e1
  obtain ⟨hpre, h⟩ := chk_o h
  refine ⟨.entry, a, _, rfl, h, 0, fun e => ?_, ?_⟩
  · subst e
    conv => whnf
    exact ⟨rfl, rfl⟩
  · conv => whnf
    repeat' (refine chk_c ?_ ?_ <;> conv => whnf)
    all_goals first
      | (refine ⟨?_⟩; simp; omega)
      | exact ⟨rfl, rfl⟩

def pf_slices_Clone_int : PF := ⟨[.t 2], .seq (.reg [.s (.mv 2 (.k (.v (.c (.nils (.int .i64))))))]) (.seq (.seq (.reg [.s (.mv 3 (.t 0)), .s (.isnil 4 (.t 3))]) (.cond (.t 4) (.seq (.reg [.s (.mv 2 (.k (.v (.c (.nils (.int .i64))))))]) (.ret)) (.skip))) (.seq (.reg [.s (.bs 5 (.int .i64) []), .s (.mv 6 (.t 0)), .s (.app 7 (.int .i64) (.t 5) (.t 6)), .s (.mv 2 (.t 7))]) (.ret)))⟩
def c_slices_Clone_int : Fun := ⟨124, [], fun ts K => as1 ts fun t0 => arC (pL (.int .i64)) t0 fun a => chk (a.length ≤ 2147483647) (K (tL true (.int .i64) a) [])⟩
theorem ok_slices_Clone_int : FunOk Tryz.prog c_slices_Clone_int := funOkN (E := []) envOk_nil mixd Tryz.func124 (pf := pf_slices_Clone_int) (by kernel_rfl) rfl (Nat.le_of_ble_eq_true (show Nat.ble 1 Tryz.f124.ntmps = true by kernel_rfl)) fun ts K h => by
  obtain ⟨t0, e0, h⟩ := as1_out h
  subst e0
  obtain ⟨a, e1, h⟩ := arC_out (rd_l (.int .i64)) h
  subst e1
  obtain ⟨hpre, h⟩ := chk_o h
  refine ⟨(.int .i64), a, _, rfl, h, 0, fun e => ?_, ?_⟩
  · subst e
    conv => whnf
    exact ⟨rfl, rfl⟩
  · conv => whnf
    repeat' (refine chk_c ?_ ?_ <;> conv => whnf)
    all_goals first
      | (refine ⟨?_⟩; simp; omega)
      | exact ⟨rfl, rfl⟩

def pf_impl_GuessOk_1 : PF := ⟨[.t 2], .seq (.reg [.s (.mv 2 (.k (.v (.c .ff))))]) (.seq (.reg [.s (.mv 3 (.t 0)), .s (.call (some 4) 36 [(.t 3), (.k (.v (.c (.int .i64 (-1))))), (.k (.v (.c (.int .i64 65535))))]), .s (.bnot 5 (.t 4)), .s (.mv 2 (.t 5))]) (.ret))⟩
def c_impl_GuessOk_1 : Fun := ⟨162, [], fun ts K => as1 ts fun t0 => arC (pI .i64) t0 fun n => K (tB (!inR n (-1) 65535)) []⟩
theorem run_impl_GuessOk_1 (n : Int) : runK [c_impl_in] (0) [] pf_impl_GuessOk_1 [tI .i64 n] fun r o => r = tB (!inR n (-1) 65535) ∧ o = [] := by
  conv => whnf
  repeat' (first | (refine sel_i (fun h => ?_) (fun h => ?_) <;> conv => whnf) | (refine chk_c ?_ ?_ <;> conv => whnf) | (refine And.intro ?_ rfl) | (refine And.intro ?_ ?_ <;> conv => whnf))
  all_goals rfl
theorem ok_impl_GuessOk_1 : FunOk Tryz.prog c_impl_GuessOk_1 := funOk (E := [c_impl_in]) (envOk_cons ok_impl_in (envOk_nil)) mixd Tryz.func162 (pf := pf_impl_GuessOk_1) (by kernel_rfl) fun ts K h => by
  obtain ⟨t0, e0, h⟩ := as1_out h
  subst e0
  obtain ⟨n, e1, hq⟩ := arC_out (rd_int .i64) h
  clear h
  subst e1
  have h := hq
  clear hq
  exact ⟨_, _, h, Nat.le_of_ble_eq_true (show Nat.ble 1 Tryz.f162.ntmps = true by kernel_rfl), _, run_impl_GuessOk_1 n⟩

def lb_slices_IndexFunc_int_0 : PC := .seq (.reg [.s (.bin 9 .lss (.t 8) (.t 7))]) (.seq (.cond (.t 9) (.skip) (.exit 0)) (.seq (.blk 1 (.seq (.reg [.s (.mv 10 (.t 8)), .s (.mv 5 (.t 10))]) (.seq (.reg [.s (.mv 11 (.t 1)), .s (.mv 12 (.t 0)), .s (.mv 13 (.t 5)), .s (.ia 14 (.int .i64) (.t 12) (.t 13)), .s (.load 15 false 1 (.t 14)), .s (.callv (some 16) (.t 11) [(.t 15)])]) (.cond (.t 16) (.seq (.reg [.s (.mv 17 (.t 5)), .s (.mv 4 (.t 17))]) (.ret)) (.skip))))) (.reg [.s (.bin 18 .add (.t 8) (.k (.v (.c (.int .i64 1))))), .s (.mv 8 (.t 18))])))
def pf_slices_IndexFunc_int : PF := ⟨[.t 4], .seq (.reg [.s (.mv 4 (.k (.v (.c (.int .i64 0)))))]) (.seq (.seq (.reg [.s (.mv 6 (.t 0)), .s (.len 7 false (.t 6)), .s (.mv 8 (.k (.v (.c (.int .i64 0)))))]) (.blk 0 (.loop [0, 1, 7, 8] lb_slices_IndexFunc_int_0))) (.seq (.reg [.s (.mv 4 (.k (.v (.c (.int .i64 (-1))))))]) (.ret)))⟩
def c_slices_IndexFunc_int__impl_GuessOk_1 : Fun := ⟨155, [], fun ts K => as2 ts fun t0 t1 => arC (pL (.int .i64)) t0 fun xs => arF0 162 t1 fun g => chk (xs.length ≤ 2147483647) (K (tN (idxOf (fun n => !inR n (-1) 65535) xs)) [])⟩
theorem run_slices_IndexFunc_int__impl_GuessOk_1 (xs : List (FT.Ty (.int .i64))) (g : Unit) (hpre : xs.length ≤ 2147483647) : runK [c_impl_GuessOk_1] (xs.length + 1) [] pf_slices_IndexFunc_int [tL false (.int .i64) xs, .fn 162 []] fun r o => r = tN (idxOf (fun n => !inR n (-1) 65535) xs) ∧ o = [] := by
  conv => whnf
  refine loop (α := Nat) (fun i => ⟨[(0, .v (.c (.sl false (.int .i64) 0))), (1, .fn 162 []), (7, .v (.c (.int .i64 (xs.length : Int)))), (8, .v (.c (.int .i64 (i : Int))))], [(0, some (.flat false (.int .i64) none xs))], nums.tail, [], false, []⟩)
      (fun i => i ≤ xs.length ∧ idxOf (fun n => !inR n (-1) 65535) xs = idxGo (fun n => !inR n (-1) 65535) (xs.drop i) i) (fun i => xs.length - i) (fun i R hI hR => ?_) 0 _ ⟨by simp, rfl⟩ (by simp)
  obtain ⟨hi, hx⟩ := hI
  conv => whnf
  refine sel_i (fun h2 => ?_) (fun h2 => ?_)
  · have hlt : i < xs.length := by simp at h2; omega
    conv => whnf
    repeat (refine chk_i (by first | omega | (simp; omega)) ?_; conv => whnf)
    refine sel_i (fun h3 => ?_) (fun h3 => ?_)
    · conv => whnf
      rw [hx, idxGo_yes (z := FT.zero (.int .i64)) hlt (by first | (simp only [keyEq] at h3; exact h3) | (simpa using h3))]
      exact ⟨rfl, rfl⟩
    · conv => whnf
      rw [wrap_id (n := (i : Int) + 1) (by omega) (by omega)]
      exact hR (i + 1) ⟨by omega, by rw [hx, idxGo_no (z := FT.zero (.int .i64)) hlt (by first | (simp only [keyEq] at h3; exact h3) | (simpa using h3))]⟩ (by omega)
  · conv => whnf
    rw [hx, idxGo_end (by simp at h2; omega)]
    exact ⟨rfl, rfl⟩
theorem ok_slices_IndexFunc_int__impl_GuessOk_1 : FunOk Tryz.prog c_slices_IndexFunc_int__impl_GuessOk_1 := funOk (E := [c_impl_GuessOk_1]) (envOk_cons ok_impl_GuessOk_1 (envOk_nil)) mixd Tryz.func155 (pf := pf_slices_IndexFunc_int) (by kernel_rfl) fun ts K h => by
  obtain ⟨t0, t1, e0, h⟩ := as2_out h
  subst e0
  obtain ⟨xs, e1, hq⟩ := arC_out (rd_l (.int .i64)) h
  clear h
  subst e1
  have h := hq
  clear hq
  obtain ⟨g, e1, hq⟩ := arF0_out h
  clear h
  subst e1
  have h := hq
  clear hq
  obtain ⟨hpre, h⟩ := chk_o h
  exact ⟨_, _, h, Nat.le_of_ble_eq_true (show Nat.ble 2 Tryz.f155.ntmps = true by kernel_rfl), _, run_slices_IndexFunc_int__impl_GuessOk_1 xs g hpre⟩

def pf_slices_ContainsFunc_int : PF := ⟨[.t 4], .seq (.reg [.s (.mv 4 (.k (.v (.c .ff))))]) (.seq (.reg [.s (.mv 5 (.t 0)), .s (.mv 6 (.t 1)), .s (.call (some 7) 155 [(.t 5), (.t 6)]), .s (.bin 8 .geq (.t 7) (.k (.v (.c (.int .i64 0))))), .s (.mv 4 (.t 8))]) (.ret))⟩
def c_slices_ContainsFunc_int__impl_GuessOk_1 : Fun := ⟨161, [], fun ts K => as2 ts fun t0 t1 => arC (pL (.int .i64)) t0 fun xs => arF0 162 t1 fun g => chk (xs.length ≤ 2147483647) (K (tB (xs.any (fun n => !inR n (-1) 65535))) [])⟩
theorem run_slices_ContainsFunc_int__impl_GuessOk_1 (xs : List (FT.Ty (.int .i64))) (g : Unit) (hpre : xs.length ≤ 2147483647) : runK [c_slices_IndexFunc_int__impl_GuessOk_1, c_impl_GuessOk_1] (0) [] pf_slices_ContainsFunc_int [tL false (.int .i64) xs, .fn 162 []] fun r o => r = tB (xs.any (fun n => !inR n (-1) 65535)) ∧ o = [] := by
  conv => whnf
  repeat' (first | (refine sel_i (fun h => ?_) (fun h => ?_) <;> conv => whnf) | (refine chk_c ?_ ?_ <;> conv => whnf) | (refine And.intro ?_ rfl) | (refine And.intro ?_ ?_ <;> conv => whnf))
  all_goals first | (refine ⟨?_⟩; exact hpre) | exact hpre | (rw [← idxOf_any]; rfl) | (rw [← idxOf_any])
theorem ok_slices_ContainsFunc_int__impl_GuessOk_1 : FunOk Tryz.prog c_slices_ContainsFunc_int__impl_GuessOk_1 := funOk (E := [c_slices_IndexFunc_int__impl_GuessOk_1, c_impl_GuessOk_1]) (envOk_cons ok_slices_IndexFunc_int__impl_GuessOk_1 (envOk_cons ok_impl_GuessOk_1 (envOk_nil))) mixd Tryz.func161 (pf := pf_slices_ContainsFunc_int) (by kernel_rfl) fun ts K h => by
  obtain ⟨t0, t1, e0, h⟩ := as2_out h
  subst e0
  obtain ⟨xs, e1, hq⟩ := arC_out (rd_l (.int .i64)) h
  clear h
  subst e1
  have h := hq
  clear hq
  obtain ⟨g, e1, hq⟩ := arF0_out h
  clear h
  subst e1
  have h := hq
  clear hq
  obtain ⟨hpre, h⟩ := chk_o h
  exact ⟨_, _, h, Nat.le_of_ble_eq_true (show Nat.ble 2 Tryz.f161.ntmps = true by kernel_rfl), _, run_slices_ContainsFunc_int__impl_GuessOk_1 xs g hpre⟩

theorem eqLen48 (n : Nat) : ((n : Int) == 48) = decide (n = 48) := eqLen n 48

def pf_impl_GuessOk : PF := ⟨[.t 2], .seq (.reg [.s (.mv 2 (.k (.v (.c .ff))))]) (.seq (.reg [.s (.mv 3 (.t 0)), .s (.len 4 false (.t 3)), .s (.bin 5 .eql (.t 4) (.k (.v (.c (.int .i64 48))))), .s (.mv 6 (.t 5)), .g 6 true (some 7) (.mv 7 (.t 0)), .g 6 true (some 8) (.call (some 8) 161 [(.t 7), (.k (.fn 162 []))]), .g 6 true (some 9) (.bnot 9 (.t 8)), .s (.pick 10 (.t 6) (.t 9) (.k (.v (.c .ff)))), .s (.mv 2 (.t 10))]) (.ret))⟩
def c_impl_GuessOk : Fun := ⟨122, [], fun ts K => as1 ts fun t0 => arC (pL (.int .i64)) t0 fun g => chk (g.length ≤ 2147483647) (K (tB (guessOk g)) [])⟩
theorem run_impl_GuessOk (g : List (FT.Ty (.int .i64))) (hpre : g.length ≤ 2147483647) : runK [c_slices_ContainsFunc_int__impl_GuessOk_1, c_impl_GuessOk_1] (0) [] pf_impl_GuessOk [tL false (.int .i64) g] fun r o => r = tB (guessOk g) ∧ o = [] := by
  conv => whnf
  repeat' (first | (refine sel_i (fun h => ?_) (fun h => ?_) <;> conv => whnf) | (refine chk_c ?_ ?_ <;> conv => whnf) | (refine And.intro ?_ rfl) | (refine And.intro ?_ ?_ <;> conv => whnf))
  all_goals first | (refine ⟨?_⟩; exact hpre) | (simp only [eqLen48, all_any, Bool.not_not] at *; simp_all [guessOk]; done) | trace_state
theorem ok_impl_GuessOk : FunOk Tryz.prog c_impl_GuessOk := funOk (E := [c_slices_ContainsFunc_int__impl_GuessOk_1, c_impl_GuessOk_1]) (envOk_cons ok_slices_ContainsFunc_int__impl_GuessOk_1 (envOk_cons ok_impl_GuessOk_1 (envOk_nil))) mixd Tryz.func122 (pf := pf_impl_GuessOk) (by kernel_rfl) fun ts K h => by
  obtain ⟨t0, e0, h⟩ := as1_out h
  subst e0
  obtain ⟨g, e1, hq⟩ := arC_out (rd_l (.int .i64)) h
  clear h
  subst e1
  have h := hq
  clear hq
  obtain ⟨hpre, h⟩ := chk_o h
  exact ⟨_, _, h, Nat.le_of_ble_eq_true (show Nat.ble 1 Tryz.f122.ntmps = true by kernel_rfl), _, run_impl_GuessOk g hpre⟩

def lb_spec_GuessOk_0 : PC := .seq (.seq (.reg [.s (.mv 4 (.t 3)), .s (.mv 5 (.t 0)), .s (.len 6 false (.t 5)), .s (.bin 7 .lss (.t 4) (.t 6))]) (.cond (.t 7) (.skip) (.exit 0))) (.seq (.blk 1 (.seq (.reg [.s (.mv 10 (.t 0)), .s (.mv 11 (.t 3)), .s (.ia 12 (.int .i64) (.t 10) (.t 11)), .s (.load 13 false 1 (.t 12)), .s (.call (some 14) 42 [(.t 13), (.k (.v (.c (.int .i64 (-1))))), (.k (.v (.c (.int .i64 65535))))]), .s (.bnot 15 (.t 14))]) (.cond (.t 15) (.seq (.reg [.s (.mv 2 (.k (.v (.c .ff))))]) (.ret)) (.skip)))) (.reg [.s (.mv 8 (.t 3)), .s (.bin 9 .add (.t 8) (.k (.v (.c (.int .i64 1))))), .s (.mv 3 (.t 9))]))
def pf_spec_GuessOk : PF := ⟨[.t 2], .seq (.reg [.s (.mv 2 (.k (.v (.c .ff))))]) (.seq (.seq (.reg [.s (.mv 3 (.k (.v (.c (.int .i64 0)))))]) (.blk 0 (.loop [0, 3] lb_spec_GuessOk_0))) (.seq (.reg [.s (.mv 16 (.t 0)), .s (.len 17 false (.t 16)), .s (.bin 18 .eql (.t 17) (.k (.v (.c (.int .i64 48))))), .s (.mv 2 (.t 18))]) (.ret)))⟩
def c_spec_GuessOk : Fun := ⟨135, [], fun ts K => as1 ts fun t0 => arC (pL (.int .i64)) t0 fun g => chk (g.length ≤ 2147483647) (K (tB (guessOk g)) [])⟩
theorem run_spec_GuessOk (g : List (FT.Ty (.int .i64))) (hpre : g.length ≤ 2147483647) : runK [c_spec_l1In] (g.length + 1) [] pf_spec_GuessOk [tL false (.int .i64) g] fun r o => r = tB (guessOk g) ∧ o = [] := by
  conv => whnf
  refine loop (α := Nat) (fun i => ⟨[(0, .v (.c (.sl false (.int .i64) 0))), (3, .v (.c (.int .i64 (i : Int))))], [(0, some (.flat false (.int .i64) none g))], nums.tail, [], false, []⟩)
      (fun i => i ≤ g.length ∧ (g.drop i).all (fun n => inR n (-1) 65535) = g.all (fun n => inR n (-1) 65535)) (fun i => g.length - i) (fun i R hI hR => ?_) 0 _ ⟨by simp, by simp⟩ (by omega)
  obtain ⟨hi, hx⟩ := hI
  have w3 : IntKind.i64.wrap ((i : Int) + 1) = ((i + 1 : Nat) : Int) := by rw [wrap_id (by omega) (by omega)]; rfl
  conv => whnf
  repeat' (first | (refine sel_i (fun h => ?_) (fun h => ?_) <;> conv => whnf) | (refine chk_c ?_ ?_ <;> conv => whnf) | (refine And.intro ?_ rfl) | (refine And.intro ?_ ?_ <;> conv => whnf))
  all_goals (simp only [w3, eqLen48, Int.toNat_natCast, Bool.not_eq_true', Bool.not_eq_false', decide_eq_true_eq, decide_eq_false_iff_not] at *)
  all_goals first
    | (refine ⟨?_⟩; omega)
    | (unfold guessOk; rw [all_no (z := FT.zero (.int .i64)) (by omega) (by assumption) hx, Bool.and_false]; done)
    | (exact hR (i + 1) ⟨by omega, all_yes (z := FT.zero (.int .i64)) (by omega) (by assumption) hx⟩ (by omega))
    | (unfold guessOk; rw [all_end (by omega) hx, Bool.and_true]; done)
    | trace_state
theorem ok_spec_GuessOk : FunOk Tryz.prog c_spec_GuessOk := funOk (E := [c_spec_l1In]) (envOk_cons ok_spec_l1In (envOk_nil)) mixd Tryz.func135 (pf := pf_spec_GuessOk) (by kernel_rfl) fun ts K h => by
  obtain ⟨t0, e0, h⟩ := as1_out h
  subst e0
  obtain ⟨g, e1, hq⟩ := arC_out (rd_l (.int .i64)) h
  clear h
  subst e1
  have h := hq
  clear hq
  obtain ⟨hpre, h⟩ := chk_o h
  exact ⟨_, _, h, Nat.le_of_ble_eq_true (show Nat.ble 1 Tryz.f135.ntmps = true by kernel_rfl), _, run_spec_GuessOk g hpre⟩

theorem u64_id {n : Int} (h : 0 ≤ n ∧ n ≤ 2147483647) : IntKind.u64.wrap n = n := by
  show n % 18446744073709551616 = n
  omega
theorem and32 {b : Int} (h0 : 0 ≤ b) (h1 : b ≤ 2147483647) : IntKind.u64.wrap ((BitVec.ofInt IntKind.u64.bits b &&& BitVec.ofInt IntKind.u64.bits 4294967295).toNat : Int) = b := by
  obtain ⟨m, rfl⟩ := Int.eq_ofNat_of_zero_le h0
  have e : (BitVec.ofInt IntKind.u64.bits (m : Int) &&& BitVec.ofInt IntKind.u64.bits 4294967295).toNat = m := by
    rw [BitVec.toNat_and, BitVec.ofInt_natCast, BitVec.toNat_ofNat]
    have e2 : (BitVec.ofInt IntKind.u64.bits 4294967295).toNat = 2 ^ 32 - 1 := by decide
    rw [e2, Nat.and_two_pow_sub_one_eq_mod, Nat.mod_eq_of_lt (a := m) (by show _ < 2 ^ 64; omega), Nat.mod_eq_of_lt (by omega)]
  rw [e]
  exact u64_id ⟨by omega, by omega⟩
theorem shr32 {b : Int} (h0 : 0 ≤ b) (h1 : b ≤ 2147483647) : b.fdiv (2 ^ min (Int.toNat 32) IntKind.u64.bits) = 0 := by
  have e : min (Int.toNat 32) IntKind.u64.bits = 32 := by decide
  rw [e, Int.fdiv_eq_ediv_of_nonneg _ (by decide)]
  omega

def pf_bits_Mul64 : PF := ⟨[.t 4, .t 5], .seq (.reg [.s (.mv 4 (.k (.v (.c (.int .u64 0))))), .s (.mv 5 (.k (.v (.c (.int .u64 0)))))]) (.seq (.reg [.s (.mv 14 (.t 0)), .s (.bin 15 .and (.t 14) (.k (.v (.c (.int .u64 4294967295))))), .s (.mv 6 (.t 15))]) (.seq (.reg [.s (.mv 16 (.t 0)), .s (.bin 17 .shr (.t 16) (.k (.v (.c (.int .u64 32))))), .s (.mv 7 (.t 17))]) (.seq (.reg [.s (.mv 18 (.t 1)), .s (.bin 19 .and (.t 18) (.k (.v (.c (.int .u64 4294967295))))), .s (.mv 8 (.t 19))]) (.seq (.reg [.s (.mv 20 (.t 1)), .s (.bin 21 .shr (.t 20) (.k (.v (.c (.int .u64 32))))), .s (.mv 9 (.t 21))]) (.seq (.reg [.s (.mv 22 (.t 6)), .s (.mv 23 (.t 8)), .s (.bin 24 .mul (.t 22) (.t 23)), .s (.mv 10 (.t 24))]) (.seq (.reg [.s (.mv 25 (.t 7)), .s (.mv 26 (.t 8)), .s (.bin 27 .mul (.t 25) (.t 26)), .s (.mv 28 (.t 10)), .s (.bin 29 .shr (.t 28) (.k (.v (.c (.int .u64 32))))), .s (.bin 30 .add (.t 27) (.t 29)), .s (.mv 11 (.t 30))]) (.seq (.reg [.s (.mv 31 (.t 11)), .s (.bin 32 .and (.t 31) (.k (.v (.c (.int .u64 4294967295))))), .s (.mv 12 (.t 32))]) (.seq (.reg [.s (.mv 33 (.t 11)), .s (.bin 34 .shr (.t 33) (.k (.v (.c (.int .u64 32))))), .s (.mv 13 (.t 34))]) (.seq (.reg [.s (.mv 35 (.t 12)), .s (.mv 36 (.t 6)), .s (.mv 37 (.t 9)), .s (.bin 38 .mul (.t 36) (.t 37)), .s (.bin 39 .add (.t 35) (.t 38)), .s (.mv 12 (.t 39))]) (.seq (.reg [.s (.mv 40 (.t 7)), .s (.mv 41 (.t 9)), .s (.bin 42 .mul (.t 40) (.t 41)), .s (.mv 43 (.t 13)), .s (.bin 44 .add (.t 42) (.t 43)), .s (.mv 45 (.t 12)), .s (.bin 46 .shr (.t 45) (.k (.v (.c (.int .u64 32))))), .s (.bin 47 .add (.t 44) (.t 46)), .s (.mv 4 (.t 47))]) (.seq (.reg [.s (.mv 48 (.t 0)), .s (.mv 49 (.t 1)), .s (.bin 50 .mul (.t 48) (.t 49)), .s (.mv 5 (.t 50))]) (.ret))))))))))))⟩
def c_bits_Mul64 : Fun := ⟨197, [], fun ts K => as2 ts fun t0 t1 => arC (pI .u64) t0 fun a => arC (pI .u64) t1 fun b => chk (a = 1 ∧ 0 ≤ b ∧ b ≤ 2147483647) (K (.tup [.c (.int .u64 0), .c (.int .u64 b)]) [])⟩
theorem run_bits_Mul64 (a : Int) (b : Int) (hpre : a = 1 ∧ 0 ≤ b ∧ b ≤ 2147483647) : runK [] (0) [] pf_bits_Mul64 [tI .u64 a, tI .u64 b] fun r o => r = .tup [.c (.int .u64 0), .c (.int .u64 b)] ∧ o = [] := by
  obtain ⟨rfl, h0, h1⟩ := hpre
  have e1 := and32 (b := 1) (by decide) (by decide)
  have e2 := and32 h0 h1
  have e3 := shr32 (b := 1) (by decide) (by decide)
  have e4 := shr32 h0 h1
  have e5 := u64_id ⟨h0, h1⟩
  have e6 := u64_id (n := 0) (by decide)
  have e7 := shr32 (b := 0) (by decide) (by decide)
  have e8 := and32 (b := 0) (by decide) (by decide)
  conv => whnf
  repeat' (first | (refine sel_i (fun h => ?_) (fun h => ?_) <;> conv => whnf) | (refine chk_c ?_ ?_ <;> conv => whnf) | (refine And.intro ?_ rfl) | (refine And.intro ?_ ?_ <;> conv => whnf))
  all_goals first
    | (refine ⟨?_⟩; decide)
    | (simp only [e1, e2, e3, e4, e5, e6, e7, e8, Int.one_mul, Int.zero_mul, Int.mul_zero, Int.add_zero]; done)
    | trace_state
theorem ok_bits_Mul64 : FunOk Tryz.prog c_bits_Mul64 := funOk (E := []) (envOk_nil) mixd Tryz.func197 (pf := pf_bits_Mul64) (by kernel_rfl) fun ts K h => by
  obtain ⟨t0, t1, e0, h⟩ := as2_out h
  subst e0
  obtain ⟨a, e1, hq⟩ := arC_out (rd_int .u64) h
  clear h
  subst e1
  have h := hq
  clear hq
  obtain ⟨b, e1, hq⟩ := arC_out (rd_int .u64) h
  clear h
  subst e1
  have h := hq
  clear hq
  obtain ⟨hpre, h⟩ := chk_o h
  exact ⟨_, _, h, Nat.le_of_ble_eq_true (show Nat.ble 2 Tryz.f197.ntmps = true by kernel_rfl), _, run_bits_Mul64 a b hpre⟩

def pf_bits_Mul : PF := ⟨[.t 4, .t 5], .seq (.reg [.s (.mv 4 (.k (.v (.c (.int .u64 0))))), .s (.mv 5 (.k (.v (.c (.int .u64 0)))))]) (.seq (.cond (.k (.v (.c .ff))) (.seq (.reg [.s (.mv 11 (.t 0)), .s (.conv 12 .u32 (.t 11)), .s (.mv 13 (.t 1)), .s (.conv 14 .u32 (.t 13)), .s (.call (some 15) 196 [(.t 12), (.t 14)]), .s (.mv 10 (.t 15)), .s (.ext 16 (.t 10) 0), .s (.ext 17 (.t 10) 1), .s (.mv 6 (.t 16)), .s (.mv 7 (.t 17))]) (.seq (.reg [.s (.mv 18 (.t 6)), .s (.conv 19 .u64 (.t 18)), .s (.mv 20 (.t 7)), .s (.conv 21 .u64 (.t 20)), .s (.mv 4 (.t 19)), .s (.mv 5 (.t 21))]) (.ret))) (.skip)) (.seq (.reg [.s (.mv 23 (.t 0)), .s (.mv 24 (.t 1)), .s (.call (some 25) 197 [(.t 23), (.t 24)]), .s (.mv 22 (.t 25)), .s (.ext 26 (.t 22) 0), .s (.ext 27 (.t 22) 1), .s (.mv 8 (.t 26)), .s (.mv 9 (.t 27))]) (.seq (.reg [.s (.mv 28 (.t 8)), .s (.mv 29 (.t 9)), .s (.mv 4 (.t 28)), .s (.mv 5 (.t 29))]) (.ret))))⟩
def c_bits_Mul : Fun := ⟨159, [], fun ts K => as2 ts fun t0 t1 => arC (pI .u64) t0 fun a => arC (pI .u64) t1 fun b => chk (a = 1 ∧ 0 ≤ b ∧ b ≤ 2147483647) (K (.tup [.c (.int .u64 0), .c (.int .u64 b)]) [])⟩
theorem run_bits_Mul (a : Int) (b : Int) (hpre : a = 1 ∧ 0 ≤ b ∧ b ≤ 2147483647) : runK [c_bits_Mul64] (0) [] pf_bits_Mul [tI .u64 a, tI .u64 b] fun r o => r = .tup [.c (.int .u64 0), .c (.int .u64 b)] ∧ o = [] := by
  conv => whnf
  repeat' (first | (refine sel_i (fun h => ?_) (fun h => ?_) <;> conv => whnf) | (refine chk_c ?_ ?_ <;> conv => whnf) | (refine And.intro ?_ rfl) | (refine And.intro ?_ ?_ <;> conv => whnf))
  all_goals first
    | (refine ⟨?_⟩; exact hpre)
    | rfl
    | trace_state
theorem ok_bits_Mul : FunOk Tryz.prog c_bits_Mul := funOk (E := [c_bits_Mul64]) (envOk_cons ok_bits_Mul64 (envOk_nil)) mixd Tryz.func159 (pf := pf_bits_Mul) (by kernel_rfl) fun ts K h => by
  obtain ⟨t0, t1, e0, h⟩ := as2_out h
  subst e0
  obtain ⟨a, e1, hq⟩ := arC_out (rd_int .u64) h
  clear h
  subst e1
  have h := hq
  clear hq
  obtain ⟨b, e1, hq⟩ := arC_out (rd_int .u64) h
  clear h
  subst e1
  have h := hq
  clear hq
  obtain ⟨hpre, h⟩ := chk_o h
  exact ⟨_, _, h, Nat.le_of_ble_eq_true (show Nat.ble 2 Tryz.f159.ntmps = true by kernel_rfl), _, run_bits_Mul a b hpre⟩

def repS (v : Int) (n k : Nat) : List Int := List.replicate k v ++ List.replicate (n - k) (FT.zero (.int .i64))
theorem repS_len (v : Int) {n k : Nat} (h : k ≤ n) : (repS v n k).length = n := by simp [repS]; omega
theorem repS_0 {x : List Int} (hx : x.length = 1) (n : Nat) : over (List.replicate n (FT.zero (.int .i64))) 0 (x.take n) = repS (x.getD 0 (FT.zero (.int .i64))) n (min 1 n) := by
  obtain ⟨v, rfl⟩ := List.length_eq_one_iff.1 hx
  cases n with
  | zero => rfl
  | succ n =>
    have e : min 1 (n + 1) = 1 := by omega
    rw [e]
    simp [over, repS]
theorem repS_win (v : Int) {n k : Nat} (h : k ≤ n) : win (repS v n k) 0 k = List.replicate k v := by
  unfold win repS
  rw [List.drop_zero, List.take_append_of_le_length (by simp), List.take_of_length_le (by simp)]
theorem repS_step (v : Int) {n k : Nat} (h : k ≤ n) : over (repS v n k) k ((List.replicate k v).take (n - k)) = repS v n (k + min k (n - k)) := by
  unfold over
  have e1 : (repS v n k).take k = List.replicate k v := by
    unfold repS; rw [List.take_append_of_le_length (by simp), List.take_of_length_le (by simp)]
  have e2 : (List.replicate k v).take (n - k) = List.replicate (min k (n - k)) v := by rw [List.take_replicate, Nat.min_comm]
  rw [e1, e2, List.length_replicate]
  unfold repS
  rw [List.drop_append, List.drop_replicate, List.drop_replicate, List.length_replicate]
  have e3 : k - (k + min k (n - k)) = 0 := by omega
  have e4 : n - k - (k + min k (n - k) - k) = n - (k + min k (n - k)) := by omega
  rw [e3, e4, List.replicate_zero, List.nil_append, ← List.replicate_append_replicate, List.append_assoc]

def lb_slices_Repeat_int_0 : PC := .seq (.seq (.reg [.s (.mv 34 (.t 8)), .s (.mv 35 (.t 7)), .s (.len 36 false (.t 35)), .s (.bin 37 .lss (.t 34) (.t 36))]) (.cond (.t 37) (.skip) (.exit 0))) (.blk 1 (.rgd [] [.s (.mv 38 (.t 8)), .s (.mv 39 (.t 7)), .s (.mv 40 (.t 8)), .s (.slc 41 (.int .i64) (.t 39) (some (.t 40)) none), .s (.mv 42 (.t 7)), .s (.mv 43 (.t 8)), .s (.slc 44 (.int .i64) (.t 42) none (some (.t 43))), .s (.cpy (some 45) (.int .i64) (.t 41) (.t 44)), .s (.bin 46 .add (.t 38) (.t 45)), .s (.mv 8 (.t 46))] (.tk 0 (.tk 1 (.tk 2 (.tk 4 (.tk 5 (.alt 3 false (.one 6 true (.one 7 true (.tk 8 (.tk 9 (.done (some [7, 8])))))) (.alt 6 false (.one 3 true (.one 7 true (.tk 8 (.tk 9 (.done (some [7, 8])))))) (.nil))))))))))
def pf_slices_Repeat_int : PF := ⟨[.t 4], .seq (.reg [.s (.mv 4 (.k (.v (.c (.nils (.int .i64))))))]) (.seq (.seq (.reg [.s (.mv 9 (.t 1)), .s (.bin 10 .lss (.t 9) (.k (.v (.c (.int .i64 0)))))]) (.cond (.t 10) (.reg [.s (.no), .s (.no)]) (.skip))) (.seq (.reg [.s (.mv 13 (.t 0)), .s (.len 14 false (.t 13)), .s (.conv 15 .u64 (.t 14)), .s (.mv 16 (.t 1)), .s (.conv 17 .u64 (.t 16)), .s (.call (some 18) 159 [(.t 15), (.t 17)]), .s (.mv 12 (.t 18)), .s (.ext 19 (.t 12) 0), .s (.ext 20 (.t 12) 1), .s (.mv 5 (.t 19)), .s (.mv 6 (.t 20))]) (.seq (.seq (.reg [.s (.mv 21 (.t 5)), .s (.bin 22 .gtr (.t 21) (.k (.v (.c (.int .u64 0))))), .s (.mv 23 (.t 22)), .g 23 false (some 24) (.mv 24 (.t 6)), .g 23 false (some 25) (.bin 25 .gtr (.t 24) (.k (.v (.c (.int .u64 9223372036854775807))))), .s (.pick 26 (.t 23) (.k (.v (.c .tt))) (.t 25))]) (.cond (.t 26) (.reg [.s (.no), .s (.no)]) (.skip))) (.seq (.reg [.s (.mv 28 (.t 6)), .s (.conv 29 .i64 (.t 28)), .s (.mkS 30 (.int .i64) (.t 29)), .s (.mv 7 (.t 30))]) (.seq (.reg [.s (.mv 31 (.t 7)), .s (.mv 32 (.t 0)), .s (.cpy (some 33) (.int .i64) (.t 31) (.t 32)), .s (.mv 8 (.t 33))]) (.seq (.blk 0 (.loop [7, 8] lb_slices_Repeat_int_0)) (.seq (.reg [.s (.mv 47 (.t 7)), .s (.mv 4 (.t 47))]) (.ret))))))))⟩
def c_slices_Repeat_int : Fun := ⟨118, [], fun ts K => as2 ts fun t0 t1 => arC (pL (.int .i64)) t0 fun x => arC (pI .i64) t1 fun n => chk (x.length = 1 ∧ 0 ≤ n ∧ n ≤ 2147483647) (K (tL true (.int .i64) (List.replicate n.toNat (x.getD 0 (FT.zero (.int .i64))))) [])⟩
theorem run_slices_Repeat_int (x : List (FT.Ty (.int .i64))) (n : Int) (hpre : x.length = 1 ∧ 0 ≤ n ∧ n ≤ 2147483647) : runK [c_bits_Mul] (n.toNat + 1) [] pf_slices_Repeat_int [tL false (.int .i64) x, tI .i64 n] fun r o => r = tL true (.int .i64) (List.replicate n.toNat (x.getD 0 (FT.zero (.int .i64)))) ∧ o = [] := by
  obtain ⟨hx, h0, h1⟩ := hpre
  have w1 : IntKind.u64.wrap (x.length : Int) = 1 := by rw [hx]; decide
  have w2 : IntKind.u64.wrap n = n := u64_id ⟨h0, h1⟩
  have w3 : IntKind.i64.wrap n = n := wrap_id (by omega) (by omega)
  have e0 := repS_0 hx n.toNat
  conv => whnf
  repeat' (first | (refine sel_i (fun h => ?_) (fun h => ?_) <;> conv => whnf) | (refine chk_c ?_ ?_ <;> conv => whnf) | (refine And.intro ?_ rfl) | (refine And.intro ?_ ?_ <;> conv => whnf))
  all_goals (simp only [w1, w2, w3, decide_eq_true_eq, decide_eq_false_iff_not, List.length_replicate, hx, e0] at *)
  all_goals first
    | omega
    | (refine ⟨?_⟩; omega)
    | skip
  generalize x.getD 0 (FT.zero (.int .i64)) = v
  refine loop (α := Nat) (fun k => ⟨[(7, .v (.c (.sl true (.int .i64) 0))), (8, .v (.c (.int .i64 (k : Int))))], [(0, some (.flat true (.int .i64) none (repS v n.toNat k)))], nums.tail, [], false, []⟩)
    (fun k => k ≤ n.toNat ∧ (k = 0 → n = 0)) (fun k => n.toNat - k) (fun k R hI hR => ?_) (min 1 n.toNat) _ ⟨by omega, by omega⟩ (by omega)
  obtain ⟨hk, hk0⟩ := hI
  have hl := repS_len v hk
  have hw := repS_win v hk
  have hs := repS_step v hk
  have g1 : ((n.toNat : Int) - k).toNat = n.toNat - k := by omega
  have g2 : min k (n.toNat - k) + k ≤ n.toNat := by omega
  conv => whnf
  repeat' (first | (refine sel_i (fun h => ?_) (fun h => ?_) <;> conv => whnf) | (refine chk_c ?_ ?_ <;> conv => whnf) | (refine And.intro ?_ rfl) | (refine And.intro ?_ ?_ <;> conv => whnf))
  all_goals (simp only [hl, Int.toNat_natCast, hw, g1, Nat.zero_add, List.length_replicate, hs, decide_eq_true_eq, decide_eq_false_iff_not] at *)
  all_goals first
    | trivial
    | (refine ⟨?_⟩; omega)
    | (rw [show k = n.toNat by omega]; unfold repS; simp; done)
    | (rw [wrap_id (n := (k : Int) + (min k (n.toNat - k) : Nat)) (by omega) (by omega)]
       exact hR (k + min k (n.toNat - k)) ⟨by omega, by omega⟩ (by omega))
    | trace_state
theorem ok_slices_Repeat_int : FunOk Tryz.prog c_slices_Repeat_int := funOk (E := [c_bits_Mul]) (envOk_cons ok_bits_Mul (envOk_nil)) mixd Tryz.func118 (pf := pf_slices_Repeat_int) (by kernel_rfl) fun ts K h => by
  obtain ⟨t0, t1, e0, h⟩ := as2_out h
  subst e0
  obtain ⟨x, e1, hq⟩ := arC_out (rd_l (.int .i64)) h
  clear h
  subst e1
  have h := hq
  clear hq
  obtain ⟨n, e1, hq⟩ := arC_out (rd_int .i64) h
  clear h
  subst e1
  have h := hq
  clear hq
  obtain ⟨hpre, h⟩ := chk_o h
  exact ⟨_, _, h, Nat.le_of_ble_eq_true (show Nat.ble 2 Tryz.f118.ntmps = true by kernel_rfl), _, run_slices_Repeat_int x n hpre⟩

def pf_impl_GuessNew : PF := ⟨[.t 0], .seq (.reg [.s (.mv 0 (.k (.v (.c (.nils (.int .i64))))))]) (.seq (.reg [.s (.bs 1 (.int .i64) [(.k (.v (.c (.int .i64 (-1)))))]), .s (.call (some 2) 118 [(.t 1), (.k (.v (.c (.int .i64 48))))]), .s (.mv 0 (.t 2))]) (.ret))⟩
def c_impl_GuessNew : Fun := ⟨69, [], fun ts K => as0 ts (K (tL true (.int .i64) guessNew) [])⟩
theorem run_impl_GuessNew  : runK [c_slices_Repeat_int] (0) [] pf_impl_GuessNew [] fun r o => r = tL true (.int .i64) guessNew ∧ o = [] := by
  conv => whnf
  repeat' (first | (refine sel_i (fun h => ?_) (fun h => ?_) <;> conv => whnf) | (refine chk_c ?_ ?_ <;> conv => whnf) | (refine And.intro ?_ rfl) | (refine And.intro ?_ ?_ <;> conv => whnf))
  all_goals first
    | (refine ⟨?_⟩; decide)
    | rfl
    | trace_state
theorem ok_impl_GuessNew : FunOk Tryz.prog c_impl_GuessNew := funOk (E := [c_slices_Repeat_int]) (envOk_cons ok_slices_Repeat_int (envOk_nil)) mixd Tryz.func69 (pf := pf_impl_GuessNew) (by kernel_rfl) fun ts K h => by
  obtain ⟨e0, h⟩ := as0_out h
  subst e0
  exact ⟨_, _, h, Nat.le_of_ble_eq_true (show Nat.ble 0 Tryz.f69.ntmps = true by kernel_rfl), _, run_impl_GuessNew ⟩

def lb_spec_GuessNew_0 : PC := .seq (.seq (.reg [.s (.mv 4 (.t 2)), .s (.bin 5 .lss (.t 4) (.k (.v (.c (.int .i64 48)))))]) (.cond (.t 5) (.skip) (.exit 0))) (.seq (.blk 1 (.reg [.s (.mv 8 (.t 1)), .s (.bs 9 (.int .i64) [(.k (.v (.c (.int .i64 (-1)))))]), .s (.app 10 (.int .i64) (.t 8) (.t 9)), .s (.mv 1 (.t 10))])) (.reg [.s (.mv 6 (.t 2)), .s (.bin 7 .add (.t 6) (.k (.v (.c (.int .i64 1))))), .s (.mv 2 (.t 7))]))
def pf_spec_GuessNew : PF := ⟨[.t 0], .seq (.reg [.s (.mv 0 (.k (.v (.c (.nils (.int .i64))))))]) (.seq (.reg [.s (.bs 3 (.int .i64) []), .s (.mv 1 (.t 3))]) (.seq (.seq (.reg [.s (.mv 2 (.k (.v (.c (.int .i64 0)))))]) (.blk 0 (.loop [1, 2] lb_spec_GuessNew_0))) (.seq (.reg [.s (.mv 11 (.t 1)), .s (.mv 0 (.t 11))]) (.ret))))⟩
def c_spec_GuessNew : Fun := ⟨82, [], fun ts K => as0 ts (K (tL true (.int .i64) guessNew) [])⟩
theorem run_spec_GuessNew  : runK [] (49) [] pf_spec_GuessNew [] fun r o => r = tL true (.int .i64) guessNew ∧ o = [] := by
  conv => whnf
  refine loop (α := Nat) (fun k => ⟨[(1, .v (.c (.sl true (.int .i64) 0))), (2, .v (.c (.int .i64 (k : Int))))], [(0, some (.flat true (.int .i64) none (List.replicate k (-1))))], nums.tail, [], false, []⟩)
    (fun k => k ≤ 48) (fun k => 48 - k) (fun k R hI hR => ?_) 0 _ (by omega) (by omega)
  have w3 : IntKind.i64.wrap ((k : Int) + 1) = ((k + 1 : Nat) : Int) := by rw [wrap_id (by omega) (by omega)]; rfl
  have hR := hR (k + 1)
  rw [List.replicate_succ'] at hR
  conv => whnf
  repeat' (first | (refine sel_i (fun h => ?_) (fun h => ?_) <;> conv => whnf) | (refine chk_c ?_ ?_ <;> conv => whnf) | (refine And.intro ?_ rfl) | (refine And.intro ?_ ?_ <;> conv => whnf))
  all_goals (simp only [w3, decide_eq_true_eq, decide_eq_false_iff_not] at *)
  all_goals first
    | (refine ⟨?_⟩; simp only [List.length_replicate, List.length_cons, List.length_nil]; omega)
    | exact hR (by omega) (by omega)
    | (rw [show k = 48 by omega]; rfl)
    | trace_state
theorem ok_spec_GuessNew : FunOk Tryz.prog c_spec_GuessNew := funOk (E := []) (envOk_nil) mixd Tryz.func82 (pf := pf_spec_GuessNew) (by kernel_rfl) fun ts K h => by
  obtain ⟨e0, h⟩ := as0_out h
  subst e0
  exact ⟨_, _, h, Nat.le_of_ble_eq_true (show Nat.ble 0 Tryz.f82.ntmps = true by kernel_rfl), _, run_spec_GuessNew ⟩

def pf_impl_Guess : PF := ⟨[.c 4 true 6], .seq (.reg [.s (.box 3 (.t 1)), .s (.alloc 4 [.int .i64 0, .ff, .int .i64 0, .int .i64 0, .int .i64 0, .int .i64 0])]) (.seq (.seq (.reg [.s (.fa 5 (.t 3) 0), .s (.load 6 false 1 (.t 5)), .s (.mv 7 (.t 0)), .s (.len 8 false (.t 7)), .s (.bin 9 .sub (.t 8) (.k (.v (.c (.int .i64 1))))), .s (.call (some 10) 36 [(.t 6), (.k (.v (.c (.int .i64 0)))), (.t 9)]), .s (.mv 11 (.t 10)), .g 11 true (some 12) (.mv 12 (.t 0)), .g 11 true (some 13) (.fa 13 (.t 3) 0), .g 11 true (some 14) (.load 14 false 1 (.t 13)), .g 11 true (some 15) (.ia 15 (.int .i64) (.t 12) (.t 14)), .g 11 true (some 16) (.load 16 false 1 (.t 15)), .g 11 true (some 17) (.bin 17 .neq (.t 16) (.k (.v (.c (.int .i64 (-1)))))), .s (.pick 18 (.t 11) (.t 17) (.k (.v (.c .ff))))]) (.cond (.t 18) (.seq (.rgd [] [.s (.load 19 true 6 (.t 3)), .s (.mv 20 (.t 0)), .s (.fa 21 (.t 3) 0), .s (.load 22 false 1 (.t 21)), .s (.ia 23 (.int .i64) (.t 20) (.t 22)), .s (.load 24 false 1 (.t 23)), .s (.call (some 25) 126 [(.t 19), (.t 24)]), .s (.store 6 (.t 4) (.t 25))] (.tk 0 (.tk 1 (.tk 2 (.tk 3 (.tk 4 (.tk 5 (.one 6 true (.one 7 true (.done none)))))))))) (.ret)) (.skip))) (.seq (.reg [.s (.load 26 true 6 (.t 3)), .s (.fa 27 (.t 3) 0), .s (.load 28 false 1 (.t 27)), .s (.bin 29 .add (.t 28) (.k (.v (.c (.int .i64 1))))), .s (.call (some 30) 126 [(.t 26), (.t 29)]), .s (.store 6 (.t 4) (.t 30))]) (.ret)))⟩
def c_impl_Guess : Fun := ⟨74, [], fun ts K => as2 ts fun t0 t1 => arC (pL (.int .i64)) t0 fun g => arG pWordT t1 fun pc => chk (g.length ≤ 2147483647) (K (tG ((guessW g pc).tc [])) [])⟩
theorem run_impl_Guess (g : List (FT.Ty (.int .i64))) (pc : Word) (hpre : g.length ≤ 2147483647) : runK [c_impl_in, c_impl_Point] (0) [] pf_impl_Guess [tL false (.int .i64) g, tG (pc.tc [])] fun r o => r = tG ((guessW g pc).tc []) ∧ o = [] := by
  have w1 : IntKind.i64.wrap ((g.length : Int) - 1) = (g.length : Int) - 1 := wrap_id (by omega) (by omega)
  conv => whnf
  repeat' (first | (refine sel_i (fun h => ?_) (fun h => ?_) <;> conv => whnf) | (refine chk_c ?_ ?_ <;> conv => whnf) | (refine And.intro ?_ rfl) | (refine And.intro ?_ ?_ <;> conv => whnf))
  all_goals (try simp only [w1, etaKey, etaWord] at *)
  all_goals first
    | (refine ⟨?_⟩; have hr := inR_t.1 (show inR pc.n 0 ((g.length : Int) - 1) = true by assumption); omega)
    | (rw [guessW_yes (by assumption) (by assumption)]; rfl)
    | (rw [guessW_no (by assumption)]; rfl)
    | (rw [guessW_out (by assumption)]; rfl)
    | trace_state
theorem ok_impl_Guess : FunOk Tryz.prog c_impl_Guess := funOk (E := [c_impl_in, c_impl_Point]) (envOk_cons ok_impl_in (envOk_cons ok_impl_Point (envOk_nil))) mixd Tryz.func74 (pf := pf_impl_Guess) (by kernel_rfl) fun ts K h => by
  obtain ⟨t0, t1, e0, h⟩ := as2_out h
  subst e0
  obtain ⟨g, e1, hq⟩ := arC_out (rd_l (.int .i64)) h
  clear h
  subst e1
  have h := hq
  clear hq
  obtain ⟨pc, e1, hq⟩ := arG_out rd_word h
  clear h
  subst e1
  have h := hq
  clear hq
  obtain ⟨hpre, h⟩ := chk_o h
  exact ⟨_, _, h, Nat.le_of_ble_eq_true (show Nat.ble 2 Tryz.f74.ntmps = true by kernel_rfl), _, run_impl_Guess g pc hpre⟩

def pf_spec_Guess : PF := ⟨[.c 4 true 6], .seq (.reg [.s (.box 3 (.t 1)), .s (.alloc 4 [.int .i64 0, .ff, .int .i64 0, .int .i64 0, .int .i64 0, .int .i64 0])]) (.seq (.seq (.reg [.s (.fa 5 (.t 3) 0), .s (.load 6 false 1 (.t 5)), .s (.mv 7 (.t 0)), .s (.len 8 false (.t 7)), .s (.bin 9 .sub (.t 8) (.k (.v (.c (.int .i64 1))))), .s (.call (some 10) 42 [(.t 6), (.k (.v (.c (.int .i64 0)))), (.t 9)]), .s (.mv 11 (.t 10)), .g 11 true (some 12) (.mv 12 (.t 0)), .g 11 true (some 13) (.fa 13 (.t 3) 0), .g 11 true (some 14) (.load 14 false 1 (.t 13)), .g 11 true (some 15) (.ia 15 (.int .i64) (.t 12) (.t 14)), .g 11 true (some 16) (.load 16 false 1 (.t 15)), .g 11 true (some 17) (.bin 17 .neq (.t 16) (.k (.v (.c (.int .i64 (-1)))))), .s (.pick 18 (.t 11) (.t 17) (.k (.v (.c .ff))))]) (.cond (.t 18) (.seq (.rgd [] [.s (.load 19 true 6 (.t 3)), .s (.mv 20 (.t 0)), .s (.fa 21 (.t 3) 0), .s (.load 22 false 1 (.t 21)), .s (.ia 23 (.int .i64) (.t 20) (.t 22)), .s (.load 24 false 1 (.t 23)), .s (.call (some 25) 137 [(.t 19), (.t 24)]), .s (.store 6 (.t 4) (.t 25))] (.tk 0 (.tk 1 (.tk 2 (.tk 3 (.tk 4 (.tk 5 (.one 6 true (.one 7 true (.done none)))))))))) (.ret)) (.skip))) (.seq (.reg [.s (.load 26 true 6 (.t 3)), .s (.fa 27 (.t 3) 0), .s (.load 28 false 1 (.t 27)), .s (.bin 29 .add (.t 28) (.k (.v (.c (.int .i64 1))))), .s (.call (some 30) 137 [(.t 26), (.t 29)]), .s (.store 6 (.t 4) (.t 30))]) (.ret)))⟩
def c_spec_Guess : Fun := ⟨87, [], fun ts K => as2 ts fun t0 t1 => arC (pL (.int .i64)) t0 fun g => arG pWordT t1 fun pc => chk (g.length ≤ 2147483647) (K (tG ((guessW g pc).tc [])) [])⟩
theorem run_spec_Guess (g : List (FT.Ty (.int .i64))) (pc : Word) (hpre : g.length ≤ 2147483647) : runK [c_spec_l1In, c_spec_Point] (0) [] pf_spec_Guess [tL false (.int .i64) g, tG (pc.tc [])] fun r o => r = tG ((guessW g pc).tc []) ∧ o = [] := by
  have w1 : IntKind.i64.wrap ((g.length : Int) - 1) = (g.length : Int) - 1 := wrap_id (by omega) (by omega)
  conv => whnf
  repeat' (first | (refine sel_i (fun h => ?_) (fun h => ?_) <;> conv => whnf) | (refine chk_c ?_ ?_ <;> conv => whnf) | (refine And.intro ?_ rfl) | (refine And.intro ?_ ?_ <;> conv => whnf))
  all_goals (try simp only [w1, etaKey, etaWord] at *)
  all_goals first
    | (refine ⟨?_⟩; have hr := inR_t.1 (show inR pc.n 0 ((g.length : Int) - 1) = true by assumption); omega)
    | (rw [guessW_yes (by assumption) (by assumption)]; rfl)
    | (rw [guessW_no (by assumption)]; rfl)
    | (rw [guessW_out (by assumption)]; rfl)
    | trace_state
theorem ok_spec_Guess : FunOk Tryz.prog c_spec_Guess := funOk (E := [c_spec_l1In, c_spec_Point]) (envOk_cons ok_spec_l1In (envOk_cons ok_spec_Point (envOk_nil))) mixd Tryz.func87 (pf := pf_spec_Guess) (by kernel_rfl) fun ts K h => by
  obtain ⟨t0, t1, e0, h⟩ := as2_out h
  subst e0
  obtain ⟨g, e1, hq⟩ := arC_out (rd_l (.int .i64)) h
  clear h
  subst e1
  have h := hq
  clear hq
  obtain ⟨pc, e1, hq⟩ := arG_out rd_word h
  clear h
  subst e1
  have h := hq
  clear hq
  obtain ⟨hpre, h⟩ := chk_o h
  exact ⟨_, _, h, Nat.le_of_ble_eq_true (show Nat.ble 2 Tryz.f87.ntmps = true by kernel_rfl), _, run_spec_Guess g pc hpre⟩

def pf_impl_Learn : PF := ⟨[.t 6], .seq (.reg [.s (.box 4 (.t 1)), .s (.box 5 (.t 2)), .s (.mv 6 (.k (.v (.c (.nils (.int .i64))))))]) (.seq (.reg [.s (.mv 8 (.t 0)), .s (.call (some 9) 124 [(.t 8)]), .s (.mv 7 (.t 9))]) (.seq (.seq (.reg [.s (.fa 10 (.t 4) 0), .s (.load 11 false 1 (.t 10)), .s (.mv 12 (.t 0)), .s (.len 13 false (.t 12)), .s (.bin 14 .sub (.t 13) (.k (.v (.c (.int .i64 1))))), .s (.call (some 15) 36 [(.t 11), (.k (.v (.c (.int .i64 0)))), (.t 14)])]) (.cond (.t 15) (.rgd [] [.s (.mv 16 (.t 7)), .s (.fa 17 (.t 4) 0), .s (.load 18 false 1 (.t 17)), .s (.load 19 true 6 (.t 5)), .s (.call (some 20) 168 [(.t 19)]), .s (.fld 21 (.t 20) 0 1 false), .s (.ia 22 (.int .i64) (.t 16) (.t 18)), .s (.store 1 (.t 22) (.t 21))] (.tk 0 (.tk 1 (.tk 2 (.tk 3 (.one 4 false (.tk 5 (.tk 6 (.one 7 true (.done none)))))))))) (.skip))) (.seq (.reg [.s (.mv 23 (.t 7)), .s (.mv 6 (.t 23))]) (.ret))))⟩
def c_impl_Learn : Fun := ⟨130, [], fun ts K => as3 ts fun t0 t1 t2 => arC (pL (.int .i64)) t0 fun g => arG pWordT t1 fun pc => arG pWordT t2 fun nx => chk (g.length ≤ 2147483647) (K (tL true (.int .i64) (learnG g pc nx)) [])⟩
theorem run_impl_Learn (g : List (FT.Ty (.int .i64))) (pc : Word) (nx : Word) (hpre : g.length ≤ 2147483647) : runK [c_impl_in, c_slices_Clone_int, c_impl_Bare] (0) [] pf_impl_Learn [tL false (.int .i64) g, tG (pc.tc []), tG (nx.tc [])] fun r o => r = tL true (.int .i64) (learnG g pc nx) ∧ o = [] := by
  have w1 : IntKind.i64.wrap ((g.length : Int) - 1) = (g.length : Int) - 1 := wrap_id (by omega) (by omega)
  conv => whnf
  repeat' (first | (refine sel_i (fun h => ?_) (fun h => ?_) <;> conv => whnf) | (refine chk_c ?_ ?_ <;> conv => whnf) | (refine And.intro ?_ rfl) | (refine And.intro ?_ ?_ <;> conv => whnf))
  all_goals (try simp only [w1, etaKey, etaWord] at *)
  all_goals first
    | (refine ⟨?_⟩; first | exact hpre | (have hr := inR_t.1 (show inR pc.n 0 ((g.length : Int) - 1) = true by assumption); omega))
    | (unfold learnG; simp only [*, if_true, if_false, Bool.false_eq_true]; first | done | rfl)
    | trace_state
theorem ok_impl_Learn : FunOk Tryz.prog c_impl_Learn := funOk (E := [c_impl_in, c_slices_Clone_int, c_impl_Bare]) (envOk_cons ok_impl_in (envOk_cons ok_slices_Clone_int (envOk_cons ok_impl_Bare (envOk_nil)))) mixd Tryz.func130 (pf := pf_impl_Learn) (by kernel_rfl) fun ts K h => by
  obtain ⟨t0, t1, t2, e0, h⟩ := as3_out h
  subst e0
  obtain ⟨g, e1, hq⟩ := arC_out (rd_l (.int .i64)) h
  clear h
  subst e1
  have h := hq
  clear hq
  obtain ⟨pc, e1, hq⟩ := arG_out rd_word h
  clear h
  subst e1
  have h := hq
  clear hq
  obtain ⟨nx, e1, hq⟩ := arG_out rd_word h
  clear h
  subst e1
  have h := hq
  clear hq
  obtain ⟨hpre, h⟩ := chk_o h
  exact ⟨_, _, h, Nat.le_of_ble_eq_true (show Nat.ble 3 Tryz.f130.ntmps = true by kernel_rfl), _, run_impl_Learn g pc nx hpre⟩

def pf_spec_Learn : PF := ⟨[.t 6], .seq (.reg [.s (.box 4 (.t 1)), .s (.box 5 (.t 2)), .s (.mv 6 (.k (.v (.c (.nils (.int .i64))))))]) (.seq (.reg [.s (.bs 8 (.int .i64) []), .s (.mv 9 (.t 0)), .s (.app 10 (.int .i64) (.t 8) (.t 9)), .s (.mv 7 (.t 10))]) (.seq (.seq (.reg [.s (.fa 11 (.t 4) 0), .s (.load 12 false 1 (.t 11)), .s (.mv 13 (.t 0)), .s (.len 14 false (.t 13)), .s (.bin 15 .sub (.t 14) (.k (.v (.c (.int .i64 1))))), .s (.call (some 16) 42 [(.t 12), (.k (.v (.c (.int .i64 0)))), (.t 15)])]) (.cond (.t 16) (.rgd [] [.s (.mv 17 (.t 7)), .s (.fa 18 (.t 4) 0), .s (.load 19 false 1 (.t 18)), .s (.fa 20 (.t 5) 0), .s (.load 21 false 1 (.t 20)), .s (.call (some 22) 99 [(.t 21)]), .s (.fld 23 (.t 22) 0 1 false), .s (.ia 24 (.int .i64) (.t 17) (.t 19)), .s (.store 1 (.t 24) (.t 23))] (.tk 0 (.tk 1 (.tk 2 (.tk 3 (.tk 4 (.one 5 false (.tk 6 (.tk 7 (.one 8 true (.done none))))))))))) (.skip))) (.seq (.reg [.s (.mv 25 (.t 7)), .s (.mv 6 (.t 25))]) (.ret))))⟩
def c_spec_Learn : Fun := ⟨141, [], fun ts K => as3 ts fun t0 t1 t2 => arC (pL (.int .i64)) t0 fun g => arG pWordT t1 fun pc => arG pWordT t2 fun nx => chk (g.length ≤ 2147483647) (K (tL true (.int .i64) (learnG g pc nx)) [])⟩
theorem run_spec_Learn (g : List (FT.Ty (.int .i64))) (pc : Word) (nx : Word) (hpre : g.length ≤ 2147483647) : runK [c_spec_l1In, c_spec_Plain] (0) [] pf_spec_Learn [tL false (.int .i64) g, tG (pc.tc []), tG (nx.tc [])] fun r o => r = tL true (.int .i64) (learnG g pc nx) ∧ o = [] := by
  have w1 : IntKind.i64.wrap ((g.length : Int) - 1) = (g.length : Int) - 1 := wrap_id (by omega) (by omega)
  conv => whnf
  repeat' (first | (refine sel_i (fun h => ?_) (fun h => ?_) <;> conv => whnf) | (refine chk_c ?_ ?_ <;> conv => whnf) | (refine And.intro ?_ rfl) | (refine And.intro ?_ ?_ <;> conv => whnf))
  all_goals (try simp only [w1, etaKey, etaWord, List.nil_append] at *)
  all_goals first
    | (refine ⟨?_⟩; first | exact hpre | (simp only [List.length_nil]; omega) | (have hr := inR_t.1 (show inR pc.n 0 ((g.length : Int) - 1) = true by assumption); omega))
    | (unfold learnG; simp only [*, if_true, if_false, Bool.false_eq_true]; first | done | rfl)
    | trace_state
theorem ok_spec_Learn : FunOk Tryz.prog c_spec_Learn := funOk (E := [c_spec_l1In, c_spec_Plain]) (envOk_cons ok_spec_l1In (envOk_cons ok_spec_Plain (envOk_nil))) mixd Tryz.func141 (pf := pf_spec_Learn) (by kernel_rfl) fun ts K h => by
  obtain ⟨t0, t1, t2, e0, h⟩ := as3_out h
  subst e0
  obtain ⟨g, e1, hq⟩ := arC_out (rd_l (.int .i64)) h
  clear h
  subst e1
  have h := hq
  clear hq
  obtain ⟨pc, e1, hq⟩ := arG_out rd_word h
  clear h
  subst e1
  have h := hq
  clear hq
  obtain ⟨nx, e1, hq⟩ := arG_out rd_word h
  clear h
  subst e1
  have h := hq
  clear hq
  obtain ⟨hpre, h⟩ := chk_o h
  exact ⟨_, _, h, Nat.le_of_ble_eq_true (show Nat.ble 3 Tryz.f141.ntmps = true by kernel_rfl), _, run_spec_Learn g pc nx hpre⟩

def pf_impl_entryOk : PF := ⟨[.t 2], .seq (.reg [.s (.box 1 (.t 0)), .s (.mv 2 (.k (.v (.c .ff))))]) (.seq (.reg [.s (.fa 3 (.t 1) 0), .s (.load 4 true 6 (.t 3)), .s (.call (some 5) 67 [(.t 4)]), .s (.mv 6 (.t 5)), .g 6 true (some 7) (.fa 7 (.t 1) 34), .g 6 true (some 8) (.load 8 true 6 (.t 7)), .g 6 true (some 9) (.call (some 9) 67 [(.t 8)]), .s (.pick 10 (.t 6) (.t 9) (.k (.v (.c .ff)))), .s (.mv 11 (.t 10)), .g 11 true (some 12) (.fa 12 (.t 1) 12), .g 11 true (some 13) (.fa 13 (.t 12) 2), .g 11 true (some 14) (.load 14 true 6 (.t 13)), .g 11 true (some 15) (.call (some 15) 67 [(.t 14)]), .s (.pick 16 (.t 11) (.t 15) (.k (.v (.c .ff)))), .s (.mv 17 (.t 16)), .g 17 true (some 18) (.fa 18 (.t 1) 12), .g 17 true (some 19) (.fa 19 (.t 18) 8), .g 17 true (some 20) (.load 20 true 6 (.t 19)), .g 17 true (some 21) (.call (some 21) 67 [(.t 20)]), .s (.pick 22 (.t 17) (.t 21) (.k (.v (.c .ff)))), .s (.mv 23 (.t 22)), .g 23 true (some 24) (.fa 24 (.t 1) 12), .g 23 true (some 25) (.fa 25 (.t 24) 15), .g 23 true (some 26) (.load 26 true 6 (.t 25)), .g 23 true (some 27) (.call (some 27) 67 [(.t 26)]), .s (.pick 28 (.t 23) (.t 27) (.k (.v (.c .ff)))), .s (.mv 29 (.t 28)), .g 29 true (some 30) (.fa 30 (.t 1) 6), .g 29 true (some 31) (.load 31 true 5 (.t 30)), .g 29 true (some 32) (.call (some 32) 61 [(.t 31)]), .g 29 true (some 33) (.mv 33 (.t 32)), .g 33 false (some 34) (.fa 34 (.t 1) 6), .g 33 false (some 35) (.load 35 true 5 (.t 34)), .g 33 false (some 36) (.build 36 [.int .i64 0, .int .i64 0, .int .i64 0, .int .i64 0, .int .i64 0] []), .g 33 false (some 37) (.eqs 37 true [.i, .i, .i, .i, .i] false (.t 35) (.t 36)), .g 29 true (some 38) (.pick 38 (.t 33) (.k (.v (.c .tt))) (.t 37)), .s (.pick 39 (.t 29) (.t 38) (.k (.v (.c .ff)))), .s (.mv 40 (.t 39)), .g 40 true (some 41) (.fa 41 (.t 1) 12), .g 40 true (some 42) (.fa 42 (.t 41) 0), .g 40 true (some 43) (.load 43 false 1 (.t 42)), .g 40 true (some 44) (.call (some 44) 36 [(.t 43), (.k (.v (.c (.int .i64 0)))), (.k (.v (.c (.int .i64 5))))]), .s (.pick 45 (.t 40) (.t 44) (.k (.v (.c .ff)))), .s (.mv 46 (.t 45)), .g 46 true (some 47) (.fa 47 (.t 1) 12), .g 46 true (some 48) (.fa 48 (.t 47) 1), .g 46 true (some 49) (.load 49 false 1 (.t 48)), .g 46 true (some 50) (.call (some 50) 36 [(.t 49), (.k (.v (.c (.int .i64 (-1))))), (.k (.v (.c (.int .i64 7))))]), .s (.pick 51 (.t 46) (.t 50) (.k (.v (.c .ff)))), .s (.mv 52 (.t 51)), .g 52 true (some 53) (.fa 53 (.t 1) 12), .g 52 true (some 54) (.fa 54 (.t 53) 21), .g 52 true (some 55) (.load 55 false 1 (.t 54)), .g 52 true (some 56) (.bin 56 .leq (.t 55) (.k (.v (.c (.int .i64 4096))))), .s (.pick 57 (.t 52) (.t 56) (.k (.v (.c .ff)))), .s (.mv 2 (.t 57))]) (.ret))⟩
def c_impl_entryOk : Fun := ⟨121, [], fun ts K => as1 ts fun t0 => arG pEntryT t0 fun e => K (tB (entryOk e)) []⟩
theorem run_impl_entryOk (e : Entry) : runK [c_impl_in, c_impl_InsOk, c_impl_WordOk] (0) [] pf_impl_entryOk [tG (e.tc [])] fun r o => r = tB (entryOk e) ∧ o = [] := by
  conv => whnf
  repeat' (first | (refine sel_i (fun h => ?_) (fun h => ?_) <;> conv => whnf) | (refine chk_c ?_ ?_ <;> conv => whnf) | (refine And.intro ?_ rfl) | (refine And.intro ?_ ?_ <;> conv => whnf))
  all_goals (simp only [etaKey, etaWord, etaInst, insEq0] at *)
  all_goals first
    | (simp only [entryOk, *, Bool.true_and, Bool.false_and, Bool.and_true, Bool.and_false, Bool.true_or, Bool.false_or, Bool.or_true, Bool.or_false]; done)
    | trace_state
theorem ok_impl_entryOk : FunOk Tryz.prog c_impl_entryOk := funOk (E := [c_impl_in, c_impl_InsOk, c_impl_WordOk]) (envOk_cons ok_impl_in (envOk_cons ok_impl_InsOk (envOk_cons ok_impl_WordOk (envOk_nil)))) mixd Tryz.func121 (pf := pf_impl_entryOk) (by kernel_rfl) fun ts K h => by
  obtain ⟨t0, e0, h⟩ := as1_out h
  subst e0
  obtain ⟨e, e1, hq⟩ := arG_out rd_entry h
  clear h
  subst e1
  have h := hq
  clear hq
  exact ⟨_, _, h, Nat.le_of_ble_eq_true (show Nat.ble 1 Tryz.f121.ntmps = true by kernel_rfl), _, run_impl_entryOk e⟩

def pf_spec_l12Entry : PF := ⟨[.t 2], .seq (.reg [.s (.box 1 (.t 0)), .s (.mv 2 (.k (.v (.c .ff))))]) (.seq (.seq (.reg [.s (.fa 3 (.t 1) 0), .s (.load 4 true 6 (.t 3)), .s (.call (some 5) 79 [(.t 4)]), .s (.bnot 6 (.t 5)), .s (.mv 7 (.t 6)), .g 7 false (some 8) (.fa 8 (.t 1) 34), .g 7 false (some 9) (.load 9 true 6 (.t 8)), .g 7 false (some 10) (.call (some 10) 79 [(.t 9)]), .g 7 false (some 11) (.bnot 11 (.t 10)), .s (.pick 12 (.t 7) (.k (.v (.c .tt))) (.t 11)), .s (.mv 13 (.t 12)), .g 13 false (some 14) (.fa 14 (.t 1) 12), .g 13 false (some 15) (.fa 15 (.t 14) 2), .g 13 false (some 16) (.load 16 true 6 (.t 15)), .g 13 false (some 17) (.call (some 17) 79 [(.t 16)]), .g 13 false (some 18) (.bnot 18 (.t 17)), .s (.pick 19 (.t 13) (.k (.v (.c .tt))) (.t 18)), .s (.mv 20 (.t 19)), .g 20 false (some 21) (.fa 21 (.t 1) 12), .g 20 false (some 22) (.fa 22 (.t 21) 8), .g 20 false (some 23) (.load 23 true 6 (.t 22)), .g 20 false (some 24) (.call (some 24) 79 [(.t 23)]), .g 20 false (some 25) (.bnot 25 (.t 24)), .s (.pick 26 (.t 20) (.k (.v (.c .tt))) (.t 25)), .s (.mv 27 (.t 26)), .g 27 false (some 28) (.fa 28 (.t 1) 12), .g 27 false (some 29) (.fa 29 (.t 28) 15), .g 27 false (some 30) (.load 30 true 6 (.t 29)), .g 27 false (some 31) (.call (some 31) 79 [(.t 30)]), .g 27 false (some 32) (.bnot 32 (.t 31)), .s (.pick 33 (.t 27) (.k (.v (.c .tt))) (.t 32))]) (.cond (.t 33) (.seq (.reg [.s (.mv 2 (.k (.v (.c .ff))))]) (.ret)) (.skip))) (.seq (.reg [.s (.fa 34 (.t 1) 6), .s (.load 35 true 5 (.t 34)), .s (.call (some 36) 95 [(.t 35)]), .s (.mv 37 (.t 36)), .g 37 false (some 38) (.fa 38 (.t 1) 6), .g 37 false (some 39) (.load 39 true 5 (.t 38)), .g 37 false (some 40) (.build 40 [.int .i64 0, .int .i64 0, .int .i64 0, .int .i64 0, .int .i64 0] []), .g 37 false (some 41) (.eqs 41 true [.i, .i, .i, .i, .i] false (.t 39) (.t 40)), .s (.pick 42 (.t 37) (.k (.v (.c .tt))) (.t 41)), .s (.mv 43 (.t 42)), .g 43 true (some 44) (.fa 44 (.t 1) 12), .g 43 true (some 45) (.fa 45 (.t 44) 0), .g 43 true (some 46) (.load 46 false 1 (.t 45)), .g 43 true (some 47) (.call (some 47) 42 [(.t 46), (.k (.v (.c (.int .i64 0)))), (.k (.v (.c (.int .i64 5))))]), .s (.pick 48 (.t 43) (.t 47) (.k (.v (.c .ff)))), .s (.mv 49 (.t 48)), .g 49 true (some 50) (.fa 50 (.t 1) 12), .g 49 true (some 51) (.fa 51 (.t 50) 1), .g 49 true (some 52) (.load 52 false 1 (.t 51)), .g 49 true (some 53) (.call (some 53) 42 [(.t 52), (.k (.v (.c (.int .i64 (-1))))), (.k (.v (.c (.int .i64 7))))]), .s (.pick 54 (.t 49) (.t 53) (.k (.v (.c .ff)))), .s (.mv 55 (.t 54)), .g 55 true (some 56) (.fa 56 (.t 1) 12), .g 55 true (some 57) (.fa 57 (.t 56) 21), .g 55 true (some 58) (.load 58 false 1 (.t 57)), .g 55 true (some 59) (.bin 59 .leq (.t 58) (.k (.v (.c (.int .i64 4096))))), .s (.pick 60 (.t 55) (.t 59) (.k (.v (.c .ff)))), .s (.mv 2 (.t 60))]) (.ret)))⟩
def c_spec_l12Entry : Fun := ⟨134, [], fun ts K => as1 ts fun t0 => arG pEntryT t0 fun e => K (tB (entryOk e)) []⟩
theorem run_spec_l12Entry (e : Entry) : runK [c_spec_l1In, c_spec_WordOk, c_spec_InsOk] (0) [] pf_spec_l12Entry [tG (e.tc [])] fun r o => r = tB (entryOk e) ∧ o = [] := by
  conv => whnf
  repeat' (first | (refine sel_i (fun h => ?_) (fun h => ?_) <;> conv => whnf) | (refine chk_c ?_ ?_ <;> conv => whnf) | (refine And.intro ?_ rfl) | (refine And.intro ?_ ?_ <;> conv => whnf))
  all_goals (simp only [etaKey, etaWord, etaInst, insEq0, Bool.not_eq_true', Bool.not_eq_false'] at *)
  all_goals first
    | (simp only [entryOk, *, Bool.true_and, Bool.false_and, Bool.and_true, Bool.and_false, Bool.true_or, Bool.false_or, Bool.or_true, Bool.or_false]; done)
    | trace_state
theorem ok_spec_l12Entry : FunOk Tryz.prog c_spec_l12Entry := funOk (E := [c_spec_l1In, c_spec_WordOk, c_spec_InsOk]) (envOk_cons ok_spec_l1In (envOk_cons ok_spec_WordOk (envOk_cons ok_spec_InsOk (envOk_nil)))) mixd Tryz.func134 (pf := pf_spec_l12Entry) (by kernel_rfl) fun ts K h => by
  obtain ⟨t0, e0, h⟩ := as1_out h
  subst e0
  obtain ⟨e, e1, hq⟩ := arG_out rd_entry h
  clear h
  subst e1
  have h := hq
  clear hq
  exact ⟨_, _, h, Nat.le_of_ble_eq_true (show Nat.ble 1 Tryz.f134.ntmps = true by kernel_rfl), _, run_spec_l12Entry e⟩

def pf_impl_CoreOk_1 : PF := ⟨[.t 2], .seq (.reg [.s (.box 1 (.t 0)), .s (.mv 2 (.k (.v (.c .ff))))]) (.seq (.reg [.s (.load 3 true 40 (.t 1)), .s (.call (some 4) 121 [(.t 3)]), .s (.bnot 5 (.t 4)), .s (.mv 2 (.t 5))]) (.ret))⟩
def c_impl_CoreOk_1 : Fun := ⟨120, [], fun ts K => as1 ts fun t0 => arG pEntryT t0 fun e => K (tB (!entryOk e)) []⟩
theorem run_impl_CoreOk_1 (e : Entry) : runK [c_impl_entryOk] (0) [] pf_impl_CoreOk_1 [tG (e.tc [])] fun r o => r = tB (!entryOk e) ∧ o = [] := by
  conv => whnf
  repeat' (first | (refine sel_i (fun h => ?_) (fun h => ?_) <;> conv => whnf) | (refine chk_c ?_ ?_ <;> conv => whnf) | (refine And.intro ?_ rfl) | (refine And.intro ?_ ?_ <;> conv => whnf))
  all_goals (try simp only [etaKey, etaWord, etaInst, etaEff, etaEntry])
theorem ok_impl_CoreOk_1 : FunOk Tryz.prog c_impl_CoreOk_1 := funOk (E := [c_impl_entryOk]) (envOk_cons ok_impl_entryOk (envOk_nil)) mixd Tryz.func120 (pf := pf_impl_CoreOk_1) (by kernel_rfl) fun ts K h => by
  obtain ⟨t0, e0, h⟩ := as1_out h
  subst e0
  obtain ⟨e, e1, hq⟩ := arG_out rd_entry h
  clear h
  subst e1
  have h := hq
  clear hq
  exact ⟨_, _, h, Nat.le_of_ble_eq_true (show Nat.ble 1 Tryz.f120.ntmps = true by kernel_rfl), _, run_impl_CoreOk_1 e⟩

def lb_slices_IndexFunc_Entry_0 : PC := .seq (.reg [.s (.bin 9 .lss (.t 8) (.t 7))]) (.seq (.cond (.t 9) (.skip) (.exit 0)) (.seq (.blk 1 (.seq (.reg [.s (.mv 10 (.t 8)), .s (.mv 5 (.t 10))]) (.seq (.reg [.s (.mv 11 (.t 1)), .s (.mv 12 (.t 0)), .s (.mv 13 (.t 5)), .s (.ia 14 .entry (.t 12) (.t 13)), .s (.load 15 true 40 (.t 14)), .s (.callv (some 16) (.t 11) [(.t 15)])]) (.cond (.t 16) (.seq (.reg [.s (.mv 17 (.t 5)), .s (.mv 4 (.t 17))]) (.ret)) (.skip))))) (.reg [.s (.bin 18 .add (.t 8) (.k (.v (.c (.int .i64 1))))), .s (.mv 8 (.t 18))])))
def pf_slices_IndexFunc_Entry : PF := ⟨[.t 4], .seq (.reg [.s (.mv 4 (.k (.v (.c (.int .i64 0)))))]) (.seq (.seq (.reg [.s (.mv 6 (.t 0)), .s (.len 7 false (.t 6)), .s (.mv 8 (.k (.v (.c (.int .i64 0)))))]) (.blk 0 (.loop [0, 1, 7, 8] lb_slices_IndexFunc_Entry_0))) (.seq (.reg [.s (.mv 4 (.k (.v (.c (.int .i64 (-1))))))]) (.ret)))⟩
def c_slices_IndexFunc_Entry__impl_CoreOk_1 : Fun := ⟨160, [], fun ts K => as2 ts fun t0 t1 => arC (pL .entry) t0 fun xs => arF0 120 t1 fun g => chk (xs.length ≤ 2147483647) (K (tN (idxOf (fun e => !entryOk e) xs)) [])⟩
theorem run_slices_IndexFunc_Entry__impl_CoreOk_1 (xs : List (FT.Ty .entry)) (g : Unit) (hpre : xs.length ≤ 2147483647) : runK [c_impl_CoreOk_1] (xs.length + 1) [] pf_slices_IndexFunc_Entry [tL false .entry xs, .fn 120 []] fun r o => r = tN (idxOf (fun e => !entryOk e) xs) ∧ o = [] := by
  conv => whnf
  refine loop (α := Nat) (fun i => ⟨[(0, .v (.c (.sl false .entry 0))), (1, .fn 120 []), (7, .v (.c (.int .i64 (xs.length : Int)))), (8, .v (.c (.int .i64 (i : Int))))], [(0, some (.flat false .entry none xs))], nums.tail, [], false, []⟩)
      (fun i => i ≤ xs.length ∧ idxOf (fun e => !entryOk e) xs = idxGo (fun e => !entryOk e) (xs.drop i) i) (fun i => xs.length - i) (fun i R hI hR => ?_) 0 _ ⟨by simp, rfl⟩ (by simp)
  obtain ⟨hi, hx⟩ := hI
  conv => whnf
  refine sel_i (fun h2 => ?_) (fun h2 => ?_)
  · have hlt : i < xs.length := by simp at h2; omega
    conv => whnf
    repeat (refine chk_i (by first | omega | (simp; omega)) ?_; conv => whnf)
    refine sel_i (fun h3 => ?_) (fun h3 => ?_)
    · conv => whnf
      rw [hx, idxGo_yes (z := FT.zero .entry) hlt (by first | (simp only [keyEq] at h3; exact h3) | (simpa using h3))]
      exact ⟨rfl, rfl⟩
    · conv => whnf
      rw [wrap_id (n := (i : Int) + 1) (by omega) (by omega)]
      exact hR (i + 1) ⟨by omega, by rw [hx, idxGo_no (z := FT.zero .entry) hlt (by first | (simp only [keyEq] at h3; exact h3) | (simpa using h3))]⟩ (by omega)
  · conv => whnf
    rw [hx, idxGo_end (by simp at h2; omega)]
    exact ⟨rfl, rfl⟩
theorem ok_slices_IndexFunc_Entry__impl_CoreOk_1 : FunOk Tryz.prog c_slices_IndexFunc_Entry__impl_CoreOk_1 := funOk (E := [c_impl_CoreOk_1]) (envOk_cons ok_impl_CoreOk_1 (envOk_nil)) mixd Tryz.func160 (pf := pf_slices_IndexFunc_Entry) (by kernel_rfl) fun ts K h => by
  obtain ⟨t0, t1, e0, h⟩ := as2_out h
  subst e0
  obtain ⟨xs, e1, hq⟩ := arC_out (rd_l .entry) h
  clear h
  subst e1
  have h := hq
  clear hq
  obtain ⟨g, e1, hq⟩ := arF0_out h
  clear h
  subst e1
  have h := hq
  clear hq
  obtain ⟨hpre, h⟩ := chk_o h
  exact ⟨_, _, h, Nat.le_of_ble_eq_true (show Nat.ble 2 Tryz.f160.ntmps = true by kernel_rfl), _, run_slices_IndexFunc_Entry__impl_CoreOk_1 xs g hpre⟩

def pf_slices_ContainsFunc_Entry : PF := ⟨[.t 4], .seq (.reg [.s (.mv 4 (.k (.v (.c .ff))))]) (.seq (.reg [.s (.mv 5 (.t 0)), .s (.mv 6 (.t 1)), .s (.call (some 7) 160 [(.t 5), (.t 6)]), .s (.bin 8 .geq (.t 7) (.k (.v (.c (.int .i64 0))))), .s (.mv 4 (.t 8))]) (.ret))⟩
def c_slices_ContainsFunc_Entry__impl_CoreOk_1 : Fun := ⟨119, [], fun ts K => as2 ts fun t0 t1 => arC (pL .entry) t0 fun xs => arF0 120 t1 fun g => chk (xs.length ≤ 2147483647) (K (tB (xs.any (fun e => !entryOk e))) [])⟩
theorem run_slices_ContainsFunc_Entry__impl_CoreOk_1 (xs : List (FT.Ty .entry)) (g : Unit) (hpre : xs.length ≤ 2147483647) : runK [c_slices_IndexFunc_Entry__impl_CoreOk_1, c_impl_CoreOk_1] (0) [] pf_slices_ContainsFunc_Entry [tL false .entry xs, .fn 120 []] fun r o => r = tB (xs.any (fun e => !entryOk e)) ∧ o = [] := by
  conv => whnf
  repeat' (first | (refine sel_i (fun h => ?_) (fun h => ?_) <;> conv => whnf) | (refine chk_c ?_ ?_ <;> conv => whnf) | (refine And.intro ?_ rfl) | (refine And.intro ?_ ?_ <;> conv => whnf))
  all_goals first | (refine ⟨?_⟩; exact hpre) | exact hpre | (rw [← idxOf_any]; rfl) | (rw [← idxOf_any])
theorem ok_slices_ContainsFunc_Entry__impl_CoreOk_1 : FunOk Tryz.prog c_slices_ContainsFunc_Entry__impl_CoreOk_1 := funOk (E := [c_slices_IndexFunc_Entry__impl_CoreOk_1, c_impl_CoreOk_1]) (envOk_cons ok_slices_IndexFunc_Entry__impl_CoreOk_1 (envOk_cons ok_impl_CoreOk_1 (envOk_nil))) mixd Tryz.func119 (pf := pf_slices_ContainsFunc_Entry) (by kernel_rfl) fun ts K h => by
  obtain ⟨t0, t1, e0, h⟩ := as2_out h
  subst e0
  obtain ⟨xs, e1, hq⟩ := arC_out (rd_l .entry) h
  clear h
  subst e1
  have h := hq
  clear hq
  obtain ⟨g, e1, hq⟩ := arF0_out h
  clear h
  subst e1
  have h := hq
  clear hq
  obtain ⟨hpre, h⟩ := chk_o h
  exact ⟨_, _, h, Nat.le_of_ble_eq_true (show Nat.ble 2 Tryz.f119.ntmps = true by kernel_rfl), _, run_slices_ContainsFunc_Entry__impl_CoreOk_1 xs g hpre⟩

theorem lenLe6 (n : Nat) : decide ((n : Int) ≤ 6) = decide (n ≤ 6) := decide_eq_decide.2 (by omega)

def pf_impl_CoreOk : PF := ⟨[.t 2], .seq (.reg [.s (.box 1 (.t 0)), .s (.mv 2 (.k (.v (.c .ff))))]) (.seq (.reg [.s (.fa 3 (.t 1) 0), .s (.load 4 true 10 (.t 3)), .s (.call (some 5) 35 [(.t 4)]), .s (.mv 6 (.t 5)), .g 6 true (some 7) (.fa 7 (.t 1) 10), .g 6 true (some 8) (.load 8 false 1 (.t 7)), .g 6 true (some 9) (.len 9 false (.t 8)), .g 6 true (some 10) (.bin 10 .leq (.t 9) (.k (.v (.c (.int .i64 6))))), .s (.pick 11 (.t 6) (.t 10) (.k (.v (.c .ff)))), .s (.mv 12 (.t 11)), .g 12 true (some 13) (.fa 13 (.t 1) 10), .g 12 true (some 14) (.load 14 false 1 (.t 13)), .g 12 true (some 15) (.call (some 15) 119 [(.t 14), (.k (.fn 120 []))]), .g 12 true (some 16) (.bnot 16 (.t 15)), .s (.pick 17 (.t 12) (.t 16) (.k (.v (.c .ff)))), .s (.mv 18 (.t 17)), .g 18 true (some 19) (.fa 19 (.t 1) 11), .g 18 true (some 20) (.load 20 true 6 (.t 19)), .g 18 true (some 21) (.call (some 21) 67 [(.t 20)]), .s (.pick 22 (.t 18) (.t 21) (.k (.v (.c .ff)))), .s (.mv 23 (.t 22)), .g 23 true (some 24) (.fa 24 (.t 1) 18), .g 23 true (some 25) (.load 25 false 1 (.t 24)), .g 23 true (some 26) (.call (some 26) 122 [(.t 25)]), .s (.pick 27 (.t 23) (.t 26) (.k (.v (.c .ff)))), .s (.mv 2 (.t 27))]) (.ret))⟩
def c_impl_CoreOk : Fun := ⟨70, [], fun ts K => as1 ts fun t0 => arG pCoreT t0 fun c => chk (LCore c 2147483647) (K (tB (coreOk c)) [])⟩
theorem run_impl_CoreOk (c : Core) (hpre : LCore c 2147483647) : runK [c_impl_StateOk, c_impl_WordOk, c_slices_ContainsFunc_Entry__impl_CoreOk_1, c_impl_CoreOk_1, c_impl_GuessOk] (0) [] pf_impl_CoreOk [tG (c.tc false [])] fun r o => r = tB (coreOk c) ∧ o = [] := by
  obtain ⟨l1, l2, l3⟩ := hpre
  conv => whnf
  repeat' (first | (refine sel_i (fun h => ?_) (fun h => ?_) <;> conv => whnf) | (refine chk_c ?_ ?_ <;> conv => whnf) | (refine And.intro ?_ rfl) | (refine And.intro ?_ ?_ <;> conv => whnf))
  all_goals (simp only [etaKey, etaWord, etaMemory, etaState, all_any, Bool.not_not, Bool.not_eq_true', Bool.not_eq_false', lenLe6] at *)
  all_goals first
    | (refine ⟨?_⟩; assumption)
    | (simp only [coreOk, *, Bool.true_and, Bool.false_and, Bool.and_true, Bool.and_false]; done)
    | trace_state
theorem ok_impl_CoreOk : FunOk Tryz.prog c_impl_CoreOk := funOk (E := [c_impl_StateOk, c_impl_WordOk, c_slices_ContainsFunc_Entry__impl_CoreOk_1, c_impl_CoreOk_1, c_impl_GuessOk]) (envOk_cons ok_impl_StateOk (envOk_cons ok_impl_WordOk (envOk_cons ok_slices_ContainsFunc_Entry__impl_CoreOk_1 (envOk_cons ok_impl_CoreOk_1 (envOk_cons ok_impl_GuessOk (envOk_nil)))))) mixd Tryz.func70 (pf := pf_impl_CoreOk) (by kernel_rfl) fun ts K h => by
  obtain ⟨t0, e0, h⟩ := as1_out h
  subst e0
  obtain ⟨c, e1, hq⟩ := arG_out rd_core h
  clear h
  subst e1
  have h := hq
  clear hq
  obtain ⟨hpre, h⟩ := chk_o h
  exact ⟨_, _, h, Nat.le_of_ble_eq_true (show Nat.ble 1 Tryz.f70.ntmps = true by kernel_rfl), _, run_impl_CoreOk c hpre⟩

def lb_spec_CoreOk_0 : PC := .seq (.seq (.reg [.s (.mv 4 (.t 3)), .s (.fa 5 (.t 1) 10), .s (.load 6 false 1 (.t 5)), .s (.len 7 false (.t 6)), .s (.bin 8 .lss (.t 4) (.t 7))]) (.cond (.t 8) (.skip) (.exit 0))) (.seq (.blk 1 (.seq (.reg [.s (.fa 11 (.t 1) 10), .s (.load 12 false 1 (.t 11)), .s (.mv 13 (.t 3)), .s (.ia 14 .entry (.t 12) (.t 13)), .s (.load 15 true 40 (.t 14)), .s (.call (some 16) 134 [(.t 15)]), .s (.bnot 17 (.t 16))]) (.cond (.t 17) (.seq (.reg [.s (.mv 2 (.k (.v (.c .ff))))]) (.ret)) (.skip)))) (.reg [.s (.mv 9 (.t 3)), .s (.bin 10 .add (.t 9) (.k (.v (.c (.int .i64 1))))), .s (.mv 3 (.t 10))]))
def pf_spec_CoreOk : PF := ⟨[.t 2], .seq (.reg [.s (.box 1 (.t 0)), .s (.mv 2 (.k (.v (.c .ff))))]) (.seq (.seq (.reg [.s (.mv 3 (.k (.v (.c (.int .i64 0)))))]) (.blk 0 (.loop [1, 3] lb_spec_CoreOk_0))) (.seq (.reg [.s (.fa 18 (.t 1) 0), .s (.load 19 true 10 (.t 18)), .s (.call (some 20) 41 [(.t 19)]), .s (.mv 21 (.t 20)), .g 21 true (some 22) (.fa 22 (.t 1) 10), .g 21 true (some 23) (.load 23 false 1 (.t 22)), .g 21 true (some 24) (.len 24 false (.t 23)), .g 21 true (some 25) (.bin 25 .leq (.t 24) (.k (.v (.c (.int .i64 6))))), .s (.pick 26 (.t 21) (.t 25) (.k (.v (.c .ff)))), .s (.mv 27 (.t 26)), .g 27 true (some 28) (.fa 28 (.t 1) 11), .g 27 true (some 29) (.load 29 true 6 (.t 28)), .g 27 true (some 30) (.call (some 30) 79 [(.t 29)]), .s (.pick 31 (.t 27) (.t 30) (.k (.v (.c .ff)))), .s (.mv 32 (.t 31)), .g 32 true (some 33) (.fa 33 (.t 1) 18), .g 32 true (some 34) (.load 34 false 1 (.t 33)), .g 32 true (some 35) (.call (some 35) 135 [(.t 34)]), .s (.pick 36 (.t 32) (.t 35) (.k (.v (.c .ff)))), .s (.mv 2 (.t 36))]) (.ret)))⟩
def c_spec_CoreOk : Fun := ⟨83, [], fun ts K => as1 ts fun t0 => arG pCoreT t0 fun c => chk (LCore c 2147483647) (K (tB (coreOk c)) [])⟩
theorem run_spec_CoreOk (c : Core) (hpre : LCore c 2147483647) : runK [c_spec_StateOk, c_spec_WordOk, c_spec_l12Entry, c_spec_GuessOk] (c.rob.length + 1) [] pf_spec_CoreOk [tG (c.tc false [])] fun r o => r = tB (coreOk c) ∧ o = [] := by
  obtain ⟨l1, l2, l3⟩ := hpre
  conv => whnf
  refine loop (α := Nat) (fun i => ⟨[(1, .v (.c (.ptr 0 0))), (3, .v (.c (.int .i64 (i : Int))))],
      [(5, some (.flat false (.int .i64) none c.guesses)), (4, some (.flat false .entry none c.rob)), (3, some (.flat false .bool none c.s.mem.gone)), (2, some (.flat false .word none c.s.mem.words)), (1, some (.flat false .word none c.s.regs)),
       (0, some (.box true [.sl false .word 1, .int .i64 c.s.pc.n, .bool c.s.pc.is, .int .i64 c.s.pc.key.base, .int .i64 c.s.pc.key.top, .int .i64 c.s.pc.key.perms, .int .i64 c.s.pc.key.sealed, .sl false .word 2, .sl false .bool 3, .int .i64 c.s.trap,
         .sl false .entry 4, .int .i64 c.next.n, .bool c.next.is, .int .i64 c.next.key.base, .int .i64 c.next.key.top, .int .i64 c.next.key.perms, .int .i64 c.next.key.sealed, .bool c.stop, .sl false (.int .i64) 5]))], nums.tail.tail.tail.tail.tail.tail, [], false, []⟩)
    (fun i => i ≤ c.rob.length ∧ (c.rob.drop i).all entryOk = c.rob.all entryOk) (fun i => c.rob.length - i) (fun i R hI hR => ?_) 0 _ ⟨by omega, rfl⟩ (by omega)
  obtain ⟨hi, hx⟩ := hI
  have w3 : IntKind.i64.wrap ((i : Int) + 1) = ((i + 1 : Nat) : Int) := by rw [wrap_id (by omega) (by omega)]; rfl
  conv => whnf
  repeat' (first | (refine sel_i (fun h => ?_) (fun h => ?_) <;> conv => whnf) | (refine chk_c ?_ ?_ <;> conv => whnf) | (refine And.intro ?_ rfl) | (refine And.intro ?_ ?_ <;> conv => whnf))
  all_goals (simp only [w3, etaKey, etaWord, etaMemory, etaState, etaInst, etaEff, etaEntry, Int.toNat_natCast, Bool.not_eq_true', Bool.not_eq_false', decide_eq_true_eq, decide_eq_false_iff_not, lenLe6] at *)
  all_goals first
    | (refine ⟨?_⟩; omega)
    | (refine ⟨?_⟩; assumption)
    | (have e := all_no (z := FT.zero .entry) (by omega) (by assumption) hx; simp only [coreOk, e, Bool.false_and, Bool.and_false]; done)
    | (exact hR (i + 1) ⟨by omega, all_yes (z := FT.zero .entry) (by omega) (by assumption) hx⟩ (by omega))
    | (have e := all_end (by omega) hx; simp only [coreOk, e, *, Bool.true_and, Bool.false_and, Bool.and_true, Bool.and_false, decide_true, decide_false]; done)
    | trace_state
theorem ok_spec_CoreOk : FunOk Tryz.prog c_spec_CoreOk := funOk (E := [c_spec_StateOk, c_spec_WordOk, c_spec_l12Entry, c_spec_GuessOk]) (envOk_cons ok_spec_StateOk (envOk_cons ok_spec_WordOk (envOk_cons ok_spec_l12Entry (envOk_cons ok_spec_GuessOk (envOk_nil))))) mixd Tryz.func83 (pf := pf_spec_CoreOk) (by kernel_rfl) fun ts K h => by
  obtain ⟨t0, e0, h⟩ := as1_out h
  subst e0
  obtain ⟨c, e1, hq⟩ := arG_out rd_core h
  clear h
  subst e1
  have h := hq
  clear hq
  obtain ⟨hpre, h⟩ := chk_o h
  exact ⟨_, _, h, Nat.le_of_ble_eq_true (show Nat.ble 1 Tryz.f83.ntmps = true by kernel_rfl), _, run_spec_CoreOk c hpre⟩

def pf_impl_CoreNew : PF := ⟨[.c 2 true 19], .seq (.reg [.s (.box 1 (.t 0)), .s (.alloc 2 [.nils .word, .int .i64 0, .ff, .int .i64 0, .int .i64 0, .int .i64 0, .int .i64 0, .nils .word, .nils .bool, .int .i64 0, .nils .entry, .int .i64 0, .ff, .int .i64 0, .int .i64 0, .int .i64 0, .int .i64 0, .ff, .nils (.int .i64)])]) (.seq (.seq (.reg [.s (.load 3 true 10 (.t 1)), .s (.call (some 4) 35 [(.t 3)]), .s (.bnot 5 (.t 4))]) (.cond (.t 5) (.seq (.reg [.s (.build 6 [.nils .word, .int .i64 0, .ff, .int .i64 0, .int .i64 0, .int .i64 0, .int .i64 0, .nils .word, .nils .bool, .int .i64 0, .nils .entry, .int .i64 0, .ff, .int .i64 0, .int .i64 0, .int .i64 0, .int .i64 0, .ff, .nils (.int .i64)] []), .s (.store 19 (.t 2) (.t 6))]) (.ret)) (.skip))) (.seq (.rgd [] [.s (.load 7 true 10 (.t 1)), .s (.call (some 8) 40 [(.t 7)]), .s (.fa 9 (.t 1) 1), .s (.load 10 true 6 (.t 9)), .s (.call (some 11) 69 []), .s (.build 12 [.nils .word, .int .i64 0, .ff, .int .i64 0, .int .i64 0, .int .i64 0, .int .i64 0, .nils .word, .nils .bool, .int .i64 0, .nils .entry, .int .i64 0, .ff, .int .i64 0, .int .i64 0, .int .i64 0, .int .i64 0, .ff, .nils (.int .i64)] [(0, 10, (.t 8)), (11, 6, (.t 10)), (18, 1, (.t 11))]), .s (.store 19 (.t 2) (.t 12))] (.tk 0 (.tk 2 (.tk 3 (.one 1 false (.one 4 false (.tk 5 (.one 6 true (.done none))))))))) (.ret)))⟩
def c_impl_CoreNew : Fun := ⟨37, [], fun ts K => as1 ts fun t0 => arG pStateT t0 fun s => chk (LState s 2147483647) (K (tG ((coreNew s).tc true [])) [])⟩
theorem run_impl_CoreNew (s : State) (hpre : LState s 2147483647) : runK [c_impl_StateOk, c_impl_cloneState, c_impl_GuessNew] (0) [] pf_impl_CoreNew [tG (s.tc false [])] fun r o => r = tG ((coreNew s).tc true []) ∧ o = [] := by
  conv => whnf
  repeat' (first | (refine sel_i (fun h => ?_) (fun h => ?_) <;> conv => whnf) | (refine chk_c ?_ ?_ <;> conv => whnf) | (refine And.intro ?_ rfl) | (refine And.intro ?_ ?_ <;> conv => whnf))
  all_goals (try simp only [etaKey, etaWord, etaMemory, etaState, Bool.not_eq_true', Bool.not_eq_false'] at *)
  all_goals first
    | (refine ⟨?_⟩; assumption)
    | (simp only [coreNew, *, if_true, if_false, Bool.false_eq_true]; rfl)
    | trace_state
theorem ok_impl_CoreNew : FunOk Tryz.prog c_impl_CoreNew := funOk (E := [c_impl_StateOk, c_impl_cloneState, c_impl_GuessNew]) (envOk_cons ok_impl_StateOk (envOk_cons ok_impl_cloneState (envOk_cons ok_impl_GuessNew (envOk_nil)))) mixd Tryz.func37 (pf := pf_impl_CoreNew) (by kernel_rfl) fun ts K h => by
  obtain ⟨t0, e0, h⟩ := as1_out h
  subst e0
  obtain ⟨s, e1, hq⟩ := arG_out rd_state h
  clear h
  subst e1
  have h := hq
  clear hq
  obtain ⟨hpre, h⟩ := chk_o h
  exact ⟨_, _, h, Nat.le_of_ble_eq_true (show Nat.ble 1 Tryz.f37.ntmps = true by kernel_rfl), _, run_impl_CoreNew s hpre⟩

def pf_spec_CoreNew : PF := ⟨[.c 2 true 19], .seq (.reg [.s (.box 1 (.t 0)), .s (.alloc 2 [.nils .word, .int .i64 0, .ff, .int .i64 0, .int .i64 0, .int .i64 0, .int .i64 0, .nils .word, .nils .bool, .int .i64 0, .nils .entry, .int .i64 0, .ff, .int .i64 0, .int .i64 0, .int .i64 0, .int .i64 0, .ff, .nils (.int .i64)])]) (.seq (.seq (.reg [.s (.load 3 true 10 (.t 1)), .s (.call (some 4) 41 [(.t 3)]), .s (.bnot 5 (.t 4))]) (.cond (.t 5) (.seq (.reg [.s (.build 6 [.nils .word, .int .i64 0, .ff, .int .i64 0, .int .i64 0, .int .i64 0, .int .i64 0, .nils .word, .nils .bool, .int .i64 0, .nils .entry, .int .i64 0, .ff, .int .i64 0, .int .i64 0, .int .i64 0, .int .i64 0, .ff, .nils (.int .i64)] []), .s (.store 19 (.t 2) (.t 6))]) (.ret)) (.skip))) (.seq (.rgd [] [.s (.load 7 true 10 (.t 1)), .s (.call (some 8) 81 [(.t 7)]), .s (.fa 9 (.t 1) 1), .s (.load 10 true 6 (.t 9)), .s (.call (some 11) 82 []), .s (.build 12 [.nils .word, .int .i64 0, .ff, .int .i64 0, .int .i64 0, .int .i64 0, .int .i64 0, .nils .word, .nils .bool, .int .i64 0, .nils .entry, .int .i64 0, .ff, .int .i64 0, .int .i64 0, .int .i64 0, .int .i64 0, .ff, .nils (.int .i64)] [(0, 10, (.t 8)), (11, 6, (.t 10)), (18, 1, (.t 11))]), .s (.store 19 (.t 2) (.t 12))] (.tk 0 (.tk 2 (.tk 3 (.one 1 false (.one 4 false (.tk 5 (.one 6 true (.done none))))))))) (.ret)))⟩
def c_spec_CoreNew : Fun := ⟨43, [], fun ts K => as1 ts fun t0 => arG pStateT t0 fun s => chk (LState s 2147483647) (K (tG ((coreNew s).tc true [])) [])⟩
theorem run_spec_CoreNew (s : State) (hpre : LState s 2147483647) : runK [c_spec_StateOk, c_spec_l9Copy, c_spec_GuessNew] (0) [] pf_spec_CoreNew [tG (s.tc false [])] fun r o => r = tG ((coreNew s).tc true []) ∧ o = [] := by
  conv => whnf
  repeat' (first | (refine sel_i (fun h => ?_) (fun h => ?_) <;> conv => whnf) | (refine chk_c ?_ ?_ <;> conv => whnf) | (refine And.intro ?_ rfl) | (refine And.intro ?_ ?_ <;> conv => whnf))
  all_goals (try simp only [etaKey, etaWord, etaMemory, etaState, Bool.not_eq_true', Bool.not_eq_false'] at *)
  all_goals first
    | (refine ⟨?_⟩; assumption)
    | (simp only [coreNew, *, if_true, if_false, Bool.false_eq_true]; rfl)
    | trace_state
theorem ok_spec_CoreNew : FunOk Tryz.prog c_spec_CoreNew := funOk (E := [c_spec_StateOk, c_spec_l9Copy, c_spec_GuessNew]) (envOk_cons ok_spec_StateOk (envOk_cons ok_spec_l9Copy (envOk_cons ok_spec_GuessNew (envOk_nil)))) mixd Tryz.func43 (pf := pf_spec_CoreNew) (by kernel_rfl) fun ts K h => by
  obtain ⟨t0, e0, h⟩ := as1_out h
  subst e0
  obtain ⟨s, e1, hq⟩ := arG_out rd_state h
  clear h
  subst e1
  have h := hq
  clear hq
  obtain ⟨hpre, h⟩ := chk_o h
  exact ⟨_, _, h, Nat.le_of_ble_eq_true (show Nat.ble 1 Tryz.f43.ntmps = true by kernel_rfl), _, run_spec_CoreNew s hpre⟩

def pf_impl_cloneCore : PF := ⟨[.c 2 true 19], .seq (.reg [.s (.box 1 (.t 0)), .s (.alloc 2 [.nils .word, .int .i64 0, .ff, .int .i64 0, .int .i64 0, .int .i64 0, .int .i64 0, .nils .word, .nils .bool, .int .i64 0, .nils .entry, .int .i64 0, .ff, .int .i64 0, .int .i64 0, .int .i64 0, .int .i64 0, .ff, .nils (.int .i64)])]) (.seq (.rgd [] [.s (.fa 3 (.t 1) 0), .s (.load 4 true 10 (.t 3)), .s (.call (some 5) 40 [(.t 4)]), .s (.fa 6 (.t 1) 10), .s (.load 7 false 1 (.t 6)), .s (.call (some 8) 123 [(.t 7)]), .s (.fa 9 (.t 1) 18), .s (.load 10 false 1 (.t 9)), .s (.call (some 11) 124 [(.t 10)]), .s (.fa 12 (.t 1) 0), .s (.store 10 (.t 12) (.t 5)), .s (.fa 13 (.t 1) 10), .s (.store 1 (.t 13) (.t 8)), .s (.fa 14 (.t 1) 18), .s (.store 1 (.t 14) (.t 11))] (.tk 0 (.tk 1 (.tk 3 (.tk 4 (.tk 6 (.tk 7 (.one 2 false (.tk 9 (.one 5 false (.one 8 true (.one 10 true (.tk 11 (.one 12 true (.tk 13 (.one 14 true (.done none))))))))))))))))) (.seq (.reg [.s (.load 15 true 19 (.t 1)), .s (.store 19 (.t 2) (.t 15))]) (.ret)))⟩
def c_impl_cloneCore : Fun := ⟨71, [], fun ts K => as1 ts fun t0 => arG pCoreT t0 fun c => chk (LCore c 2147483647) (K (tG (c.tc true [])) [])⟩
theorem run_impl_cloneCore (c : Core) (hpre : LCore c 2147483647) : runK [c_impl_cloneState, c_slices_Clone_Entry, c_slices_Clone_int] (0) [] pf_impl_cloneCore [tG (c.tc false [])] fun r o => r = tG (c.tc true []) ∧ o = [] := by
  obtain ⟨l1, l2, l3⟩ := hpre
  conv => whnf
  repeat' (first | (refine chk_c ?_ ?_ <;> conv => whnf) | (refine And.intro ?_ ?_ <;> conv => whnf))
  all_goals first
    | (refine ⟨?_⟩; assumption)
    | trivial
    | rfl
    | trace_state
theorem ok_impl_cloneCore : FunOk Tryz.prog c_impl_cloneCore := funOk (E := [c_impl_cloneState, c_slices_Clone_Entry, c_slices_Clone_int]) (envOk_cons ok_impl_cloneState (envOk_cons ok_slices_Clone_Entry (envOk_cons ok_slices_Clone_int (envOk_nil)))) mixd Tryz.func71 (pf := pf_impl_cloneCore) (by kernel_rfl) fun ts K h => by
  obtain ⟨t0, e0, h⟩ := as1_out h
  subst e0
  obtain ⟨c, e1, hq⟩ := arG_out rd_core h
  clear h
  subst e1
  have h := hq
  clear hq
  obtain ⟨hpre, h⟩ := chk_o h
  exact ⟨_, _, h, Nat.le_of_ble_eq_true (show Nat.ble 1 Tryz.f71.ntmps = true by kernel_rfl), _, run_impl_cloneCore c hpre⟩

def pf_spec_l12Copy : PF := ⟨[.c 2 true 19], .seq (.reg [.s (.box 1 (.t 0)), .s (.alloc 2 [.nils .word, .int .i64 0, .ff, .int .i64 0, .int .i64 0, .int .i64 0, .int .i64 0, .nils .word, .nils .bool, .int .i64 0, .nils .entry, .int .i64 0, .ff, .int .i64 0, .int .i64 0, .int .i64 0, .int .i64 0, .ff, .nils (.int .i64)])]) (.seq (.rgd [] [.s (.fa 3 (.t 1) 0), .s (.load 4 true 10 (.t 3)), .s (.call (some 5) 81 [(.t 4)]), .s (.bs 6 .entry []), .s (.fa 7 (.t 1) 10), .s (.load 8 false 1 (.t 7)), .s (.app 9 .entry (.t 6) (.t 8)), .s (.fa 10 (.t 1) 11), .s (.load 11 true 6 (.t 10)), .s (.fa 12 (.t 1) 17), .s (.load 13 false 1 (.t 12)), .s (.bs 14 (.int .i64) []), .s (.fa 15 (.t 1) 18), .s (.load 16 false 1 (.t 15)), .s (.app 17 (.int .i64) (.t 14) (.t 16)), .s (.build 18 [.nils .word, .int .i64 0, .ff, .int .i64 0, .int .i64 0, .int .i64 0, .int .i64 0, .nils .word, .nils .bool, .int .i64 0, .nils .entry, .int .i64 0, .ff, .int .i64 0, .int .i64 0, .int .i64 0, .int .i64 0, .ff, .nils (.int .i64)] [(0, 10, (.t 5)), (10, 1, (.t 9)), (11, 6, (.t 11)), (17, 1, (.t 13)), (18, 1, (.t 17))]), .s (.store 19 (.t 2) (.t 18))] (.tk 0 (.tk 1 (.tk 4 (.tk 5 (.tk 7 (.tk 8 (.tk 9 (.tk 10 (.tk 12 (.tk 13 (.alt 2 false (.alt 3 false (.alt 6 false (.one 11 false (.one 14 false (.tk 15 (.one 16 true (.done (some [2])))))) (.alt 11 false (.one 6 false (.one 14 false (.tk 15 (.one 16 true (.done (some [2])))))) (.nil))) (.alt 11 false (.one 3 false (.one 6 false (.one 14 false (.tk 15 (.one 16 true (.done (some [2]))))))) (.nil))) (.alt 3 false (.alt 2 false (.alt 6 false (.one 11 false (.one 14 false (.tk 15 (.one 16 true (.done (some [2])))))) (.alt 11 false (.one 6 false (.one 14 false (.tk 15 (.one 16 true (.done (some [2])))))) (.nil))) (.alt 11 false (.one 2 false (.one 6 false (.one 14 false (.tk 15 (.one 16 true (.done (some [2]))))))) (.nil))) (.alt 11 false (.alt 2 false (.one 3 false (.one 6 false (.one 14 false (.tk 15 (.one 16 true (.done (some [2]))))))) (.alt 3 false (.one 2 false (.one 6 false (.one 14 false (.tk 15 (.one 16 true (.done (some [2]))))))) (.nil))) (.nil))))))))))))))) (.ret))⟩
def c_spec_l12Copy : Fun := ⟨84, [], fun ts K => as1 ts fun t0 => arG pCoreT t0 fun c => chk (LCore c 2147483647) (K (tG (c.tc true [])) [])⟩
theorem run_spec_l12Copy (c : Core) (hpre : LCore c 2147483647) : runK [c_spec_l9Copy] (0) [] pf_spec_l12Copy [tG (c.tc false [])] fun r o => r = tG (c.tc true []) ∧ o = [] := by
  obtain ⟨l1, l2, l3⟩ := hpre
  conv => whnf
  repeat' (first | (refine chk_c ?_ ?_ <;> conv => whnf) | (refine And.intro ?_ ?_ <;> conv => whnf))
  all_goals first
    | (refine ⟨?_⟩; assumption)
    | (refine ⟨?_⟩; simp only [List.length_nil]; omega)
    | trivial
    | rfl
    | trace_state
theorem ok_spec_l12Copy : FunOk Tryz.prog c_spec_l12Copy := funOk (E := [c_spec_l9Copy]) (envOk_cons ok_spec_l9Copy (envOk_nil)) mixd Tryz.func84 (pf := pf_spec_l12Copy) (by kernel_rfl) fun ts K h => by
  obtain ⟨t0, e0, h⟩ := as1_out h
  subst e0
  obtain ⟨c, e1, hq⟩ := arG_out rd_core h
  clear h
  subst e1
  have h := hq
  clear hq
  obtain ⟨hpre, h⟩ := chk_o h
  exact ⟨_, _, h, Nat.le_of_ble_eq_true (show Nat.ble 1 Tryz.f84.ntmps = true by kernel_rfl), _, run_spec_l12Copy c hpre⟩

def pf_impl_Sets : PF := ⟨[.t 2], .seq (.reg [.s (.box 1 (.t 0)), .s (.mv 2 (.k (.v (.c (.int .i64 0)))))]) (.seq (.seq (.reg [.s (.load 3 true 5 (.t 1)), .s (.call (some 4) 109 [(.t 3), (.k (.v (.c (.int .u8 82))))])]) (.cond (.t 4) (.seq (.reg [.s (.fa 5 (.t 1) 1), .s (.load 6 false 1 (.t 5)), .s (.mv 2 (.t 6))]) (.ret)) (.skip))) (.seq (.reg [.s (.mv 2 (.k (.v (.c (.int .i64 (-1))))))]) (.ret)))⟩
def c_impl_Sets : Fun := ⟨223, [], fun ts K => as1 ts fun t0 => arG pInstT t0 fun x => K (tN (setsI x)) []⟩
theorem run_impl_Sets (x : Inst) : runK [c_impl_hasPart] (0) [] pf_impl_Sets [tG (x.tc [])] fun r o => r = tN (setsI x) ∧ o = [] := by
  conv => whnf
  repeat' (first | (refine sel_i (fun h => ?_) (fun h => ?_) <;> conv => whnf) | (refine chk_c ?_ ?_ <;> conv => whnf) | (refine And.intro ?_ rfl) | (refine And.intro ?_ ?_ <;> conv => whnf))
  all_goals first
    | (rw [setsI_yes (by assumption)]; done)
    | (rw [setsI_no (by assumption)]; done)
    | trace_state
theorem ok_impl_Sets : FunOk Tryz.prog c_impl_Sets := funOk (E := [c_impl_hasPart]) (envOk_cons ok_impl_hasPart (envOk_nil)) mixd Tryz.func223 (pf := pf_impl_Sets) (by kernel_rfl) fun ts K h => by
  obtain ⟨t0, e0, h⟩ := as1_out h
  subst e0
  obtain ⟨x, e1, hq⟩ := arG_out rd_inst h
  clear h
  subst e1
  have h := hq
  clear hq
  exact ⟨_, _, h, Nat.le_of_ble_eq_true (show Nat.ble 1 Tryz.f223.ntmps = true by kernel_rfl), _, run_impl_Sets x⟩

def pf_impl_setBy : PF := ⟨[.t 2], .seq (.reg [.s (.box 1 (.t 0)), .s (.mv 2 (.k (.v (.c (.int .i64 0)))))]) (.seq (.seq (.reg [.s (.fa 3 (.t 1) 11), .s (.load 4 false 1 (.t 3))]) (.cond (.t 4) (.seq (.reg [.s (.fa 5 (.t 1) 12), .s (.fa 6 (.t 5) 1), .s (.load 7 false 1 (.t 6)), .s (.mv 2 (.t 7))]) (.ret)) (.skip))) (.seq (.reg [.s (.fa 8 (.t 1) 6), .s (.load 9 true 5 (.t 8)), .s (.call (some 10) 223 [(.t 9)]), .s (.mv 2 (.t 10))]) (.ret)))⟩
def c_impl_setBy : Fun := ⟨217, [], fun ts K => as1 ts fun t0 => arG pEntryT t0 fun e => K (tN (setBy e)) []⟩
theorem run_impl_setBy (e : Entry) : runK [c_impl_Sets] (0) [] pf_impl_setBy [tG (e.tc [])] fun r o => r = tN (setBy e) ∧ o = [] := by
  conv => whnf
  repeat' (first | (refine sel_i (fun h => ?_) (fun h => ?_) <;> conv => whnf) | (refine chk_c ?_ ?_ <;> conv => whnf) | (refine And.intro ?_ rfl) | (refine And.intro ?_ ?_ <;> conv => whnf))
  all_goals (try simp only [etaInst] at *)
  all_goals first
    | (simp only [setBy, *, if_true, if_false, Bool.false_eq_true]; done)
    | trace_state
theorem ok_impl_setBy : FunOk Tryz.prog c_impl_setBy := funOk (E := [c_impl_Sets]) (envOk_cons ok_impl_Sets (envOk_nil)) mixd Tryz.func217 (pf := pf_impl_setBy) (by kernel_rfl) fun ts K h => by
  obtain ⟨t0, e0, h⟩ := as1_out h
  subst e0
  obtain ⟨e, e1, hq⟩ := arG_out rd_entry h
  clear h
  subst e1
  have h := hq
  clear hq
  exact ⟨_, _, h, Nat.le_of_ble_eq_true (show Nat.ble 1 Tryz.f217.ntmps = true by kernel_rfl), _, run_impl_setBy e⟩

theorem srcGo_yes {rob : List Entry} {q : Int} {k : Nat} (h : setBy (rob.getD k (FT.zero .entry)) = q) : srcGo rob q (k + 1) = k := by unfold srcGo; rw [if_pos h]
theorem srcGo_no {rob : List Entry} {q : Int} {k : Nat} (h : ¬ setBy (rob.getD k (FT.zero .entry)) = q) : srcGo rob q (k + 1) = srcGo rob q k := by
  show (if setBy (rob.getD k (FT.zero .entry)) = q then (k : Int) else srcGo rob q k) = srcGo rob q k
  rw [if_neg h]

def lb_impl_Source_0 : PC := .seq (.seq (.reg [.s (.mv 13 (.t 7)), .s (.bin 14 .gtr (.t 13) (.k (.v (.c (.int .i64 0))))), .s (.mv 15 (.t 14)), .g 15 true (some 16) (.mv 16 (.t 2)), .g 15 true (some 17) (.bin 17 .geq (.t 16) (.k (.v (.c (.int .i64 0))))), .s (.pick 18 (.t 15) (.t 17) (.k (.v (.c .ff))))]) (.cond (.t 18) (.skip) (.exit 0))) (.seq (.blk 1 (.seq (.reg [.s (.fa 21 (.t 3) 10), .s (.load 22 false 1 (.t 21)), .s (.mv 23 (.t 7)), .s (.bin 24 .sub (.t 23) (.k (.v (.c (.int .i64 1))))), .s (.ia 25 .entry (.t 22) (.t 24)), .s (.load 26 true 40 (.t 25)), .s (.call (some 27) 217 [(.t 26)]), .s (.mv 28 (.t 2)), .s (.bin 29 .eql (.t 27) (.t 28))]) (.cond (.t 29) (.seq (.reg [.s (.mv 30 (.t 7)), .s (.bin 31 .sub (.t 30) (.k (.v (.c (.int .i64 1))))), .s (.mv 6 (.t 31))]) (.ret)) (.skip)))) (.reg [.s (.mv 19 (.t 7)), .s (.bin 20 .sub (.t 19) (.k (.v (.c (.int .i64 1))))), .s (.mv 7 (.t 20))]))
def pf_impl_Source : PF := ⟨[.t 6], .seq (.reg [.s (.box 3 (.t 0)), .s (.mv 6 (.k (.v (.c (.int .i64 0)))))]) (.seq (.seq (.reg [.s (.mv 8 (.t 1)), .s (.fa 9 (.t 3) 10), .s (.load 10 false 1 (.t 9)), .s (.len 11 false (.t 10)), .s (.mm 12 false (.t 8) (.t 11)), .s (.mv 7 (.t 12))]) (.blk 0 (.loop [2, 3, 7] lb_impl_Source_0))) (.seq (.reg [.s (.mv 6 (.k (.v (.c (.int .i64 (-1))))))]) (.ret)))⟩
def c_impl_Source : Fun := ⟨198, [], fun ts K => as3 ts fun t0 t1 t2 => arG pCoreT t0 fun c => arC (pI .i64) t1 fun i => arC (pI .i64) t2 fun q => chk (LCore c 2147483647) (K (tN (source c.rob i q)) [])⟩
theorem run_impl_Source (c : Core) (i : Int) (q : Int) (hpre : LCore c 2147483647) : runK [c_impl_setBy] (c.rob.length + 1) [] pf_impl_Source [tG (c.tc false []), tI .i64 i, tI .i64 q] fun r o => r = tN (source c.rob i q) ∧ o = [] := by
  obtain ⟨l1, l2, l3⟩ := hpre
  conv => whnf
  refine loop (α := Int) (fun t => ⟨[(2, .v (.c (.int .i64 q))), (3, .v (.c (.ptr 0 0))), (7, .v (.c (.int .i64 t)))],
      [(5, some (.flat false (.int .i64) none c.guesses)), (4, some (.flat false .entry none c.rob)), (3, some (.flat false .bool none c.s.mem.gone)), (2, some (.flat false .word none c.s.mem.words)), (1, some (.flat false .word none c.s.regs)),
       (0, some (.box true [.sl false .word 1, .int .i64 c.s.pc.n, .bool c.s.pc.is, .int .i64 c.s.pc.key.base, .int .i64 c.s.pc.key.top, .int .i64 c.s.pc.key.perms, .int .i64 c.s.pc.key.sealed, .sl false .word 2, .sl false .bool 3, .int .i64 c.s.trap,
         .sl false .entry 4, .int .i64 c.next.n, .bool c.next.is, .int .i64 c.next.key.base, .int .i64 c.next.key.top, .int .i64 c.next.key.perms, .int .i64 c.next.key.sealed, .bool c.stop, .sl false (.int .i64) 5]))], nums.tail.tail.tail.tail.tail.tail, [], false, []⟩)
    (fun t => t ≤ c.rob.length ∧ srcGo c.rob q (min i c.rob.length).toNat = srcGo c.rob q t.toNat) (fun t => t.toNat) (fun t R hI hR => ?_) (min i c.rob.length) _ ⟨by omega, rfl⟩ (by omega)
  obtain ⟨hi, hx⟩ := hI
  have hs : 0 ≤ q → source c.rob i q = srcGo c.rob q t.toNat := fun h => by unfold source; rw [if_neg (by omega), hx]
  have hs0 : q < 0 → source c.rob i q = -1 := fun h => by unfold source; rw [if_pos h]
  have hz : t ≤ 0 → srcGo c.rob q t.toNat = -1 := fun h => by rw [show t.toNat = 0 by omega]; rfl
  have w3 : 0 < t → IntKind.i64.wrap (t - 1) = t - 1 := fun h => wrap_id (by omega) (by omega)
  have w4 : 0 < t → t.toNat = (t - 1).toNat + 1 := fun h => by omega
  conv => whnf
  repeat' (first | (refine sel_i (fun h => ?_) (fun h => ?_) <;> conv => whnf) | (refine chk_c ?_ ?_ <;> conv => whnf) | (refine And.intro ?_ rfl) | (refine And.intro ?_ ?_ <;> conv => whnf))
  all_goals (try simp only [etaKey, etaWord, etaInst, etaEff, etaEntry, decide_eq_true_eq, decide_eq_false_iff_not, ge_iff_le, gt_iff_lt, beq_iff_eq, beq_eq_false_iff_ne] at *)
  all_goals (try rw [w3 (by omega)] at *)
  all_goals first
    | (refine ⟨?_⟩; omega)
    | (rw [hs0 (by omega)]; done)
    | (rw [hs (by omega), hz (by omega)]; done)
    | (rcases Int.lt_or_le q 0 with hq | hq
       · rw [hs0 hq]
       · rw [hs hq, hz (by omega)])
    | (rw [hs (by omega), w4 (by omega), srcGo_yes (by assumption), Int.toNat_of_nonneg (by omega)]; done)
    | (refine hR (t - 1) ⟨by omega, ?_⟩ (by omega); rw [hx, w4 (by omega), srcGo_no (by assumption)])
    | trace_state
theorem ok_impl_Source : FunOk Tryz.prog c_impl_Source := funOk (E := [c_impl_setBy]) (envOk_cons ok_impl_setBy (envOk_nil)) mixd Tryz.func198 (pf := pf_impl_Source) (by kernel_rfl) fun ts K h => by
  obtain ⟨t0, t1, t2, e0, h⟩ := as3_out h
  subst e0
  obtain ⟨c, e1, hq⟩ := arG_out rd_core h
  clear h
  subst e1
  have h := hq
  clear hq
  obtain ⟨i, e1, hq⟩ := arC_out (rd_int .i64) h
  clear h
  subst e1
  have h := hq
  clear hq
  obtain ⟨q, e1, hq⟩ := arC_out (rd_int .i64) h
  clear h
  subst e1
  have h := hq
  clear hq
  obtain ⟨hpre, h⟩ := chk_o h
  exact ⟨_, _, h, Nat.le_of_ble_eq_true (show Nat.ble 3 Tryz.f198.ntmps = true by kernel_rfl), _, run_impl_Source c i q hpre⟩

def lb_spec_Source_0 : PC := .seq (.seq (.reg [.s (.mv 21 (.t 7)), .s (.bin 22 .geq (.t 21) (.k (.v (.c (.int .i64 0)))))]) (.cond (.t 22) (.skip) (.exit 0))) (.seq (.blk 1 (.seq (.reg [.s (.fa 25 (.t 3) 10), .s (.load 26 false 1 (.t 25)), .s (.mv 27 (.t 7)), .s (.ia 28 .entry (.t 26) (.t 27)), .s (.fa 29 (.t 28) 12), .s (.fa 30 (.t 29) 1), .s (.load 31 false 1 (.t 30)), .s (.mv 8 (.t 31))]) (.seq (.seq (.reg [.s (.fa 32 (.t 3) 10), .s (.load 33 false 1 (.t 32)), .s (.mv 34 (.t 7)), .s (.ia 35 .entry (.t 33) (.t 34)), .s (.fa 36 (.t 35) 11), .s (.load 37 false 1 (.t 36)), .s (.bnot 38 (.t 37))]) (.cond (.t 38) (.reg [.s (.fa 39 (.t 3) 10), .s (.load 40 false 1 (.t 39)), .s (.mv 41 (.t 7)), .s (.ia 42 .entry (.t 40) (.t 41)), .s (.fa 43 (.t 42) 6), .s (.load 44 true 5 (.t 43)), .s (.call (some 45) 175 [(.t 44)]), .s (.mv 8 (.t 45))]) (.skip))) (.seq (.reg [.s (.mv 46 (.t 8)), .s (.mv 47 (.t 2)), .s (.bin 48 .eql (.t 46) (.t 47))]) (.cond (.t 48) (.seq (.reg [.s (.mv 49 (.t 7)), .s (.mv 6 (.t 49))]) (.ret)) (.skip)))))) (.reg [.s (.mv 23 (.t 7)), .s (.bin 24 .sub (.t 23) (.k (.v (.c (.int .i64 1))))), .s (.mv 7 (.t 24))]))
def pf_spec_Source : PF := ⟨[.t 6], .seq (.reg [.s (.box 3 (.t 0)), .s (.mv 6 (.k (.v (.c (.int .i64 0)))))]) (.seq (.seq (.reg [.s (.mv 9 (.t 2)), .s (.bin 10 .lss (.t 9) (.k (.v (.c (.int .i64 0))))), .s (.mv 11 (.t 10)), .g 11 false (some 12) (.mv 12 (.t 1)), .g 11 false (some 13) (.bin 13 .lss (.t 12) (.k (.v (.c (.int .i64 0))))), .s (.pick 14 (.t 11) (.k (.v (.c .tt))) (.t 13))]) (.cond (.t 14) (.seq (.reg [.s (.mv 6 (.k (.v (.c (.int .i64 (-1))))))]) (.ret)) (.skip))) (.seq (.seq (.reg [.s (.mv 15 (.t 1)), .s (.fa 16 (.t 3) 10), .s (.load 17 false 1 (.t 16)), .s (.len 18 false (.t 17)), .s (.call (some 19) 44 [(.t 15), (.t 18)]), .s (.bin 20 .sub (.t 19) (.k (.v (.c (.int .i64 1))))), .s (.mv 7 (.t 20))]) (.blk 0 (.loop [2, 3, 7] lb_spec_Source_0))) (.seq (.reg [.s (.mv 6 (.k (.v (.c (.int .i64 (-1))))))]) (.ret))))⟩
def c_spec_Source : Fun := ⟨201, [], fun ts K => as3 ts fun t0 t1 t2 => arG pCoreT t0 fun c => arC (pI .i64) t1 fun i => arC (pI .i64) t2 fun q => chk (LCore c 2147483647) (K (tN (source c.rob i q)) [])⟩
theorem run_spec_Source (c : Core) (i : Int) (q : Int) (hpre : LCore c 2147483647) : runK [c_spec_l1Min, c_spec_Sets] (c.rob.length + 1) [] pf_spec_Source [tG (c.tc false []), tI .i64 i, tI .i64 q] fun r o => r = tN (source c.rob i q) ∧ o = [] := by
  obtain ⟨l1, l2, l3⟩ := hpre
  have hs0 : q < 0 → source c.rob i q = -1 := fun h => by unfold source; rw [if_pos h]
  have hs1 : i < 0 → source c.rob i q = -1 := fun h => by
    unfold source
    split
    · rfl
    · rw [show (min i (c.rob.length : Int)).toNat = 0 by omega]; rfl
  conv => whnf
  repeat' (first | (refine sel_i (fun h => ?_) (fun h => ?_) <;> conv => whnf) | (refine chk_c ?_ ?_ <;> conv => whnf) | (refine And.intro ?_ rfl) | (refine And.intro ?_ ?_ <;> conv => whnf))
  all_goals (try simp only [decide_eq_true_eq, decide_eq_false_iff_not] at *)
  all_goals first
    | (rw [hs0 (by assumption)]; done)
    | (rw [hs1 (by assumption)]; done)
    | skip
  rw [wrap_id (n := min i (c.rob.length : Int) - 1) (by omega) (by omega)]
  refine loop (α := Int) (fun t => ⟨[(2, .v (.c (.int .i64 q))), (3, .v (.c (.ptr 0 0))), (7, .v (.c (.int .i64 t)))],
      [(5, some (.flat false (.int .i64) none c.guesses)), (4, some (.flat false .entry none c.rob)), (3, some (.flat false .bool none c.s.mem.gone)), (2, some (.flat false .word none c.s.mem.words)), (1, some (.flat false .word none c.s.regs)),
       (0, some (.box true [.sl false .word 1, .int .i64 c.s.pc.n, .bool c.s.pc.is, .int .i64 c.s.pc.key.base, .int .i64 c.s.pc.key.top, .int .i64 c.s.pc.key.perms, .int .i64 c.s.pc.key.sealed, .sl false .word 2, .sl false .bool 3, .int .i64 c.s.trap,
         .sl false .entry 4, .int .i64 c.next.n, .bool c.next.is, .int .i64 c.next.key.base, .int .i64 c.next.key.top, .int .i64 c.next.key.perms, .int .i64 c.next.key.sealed, .bool c.stop, .sl false (.int .i64) 5]))], nums.tail.tail.tail.tail.tail.tail, [], false, []⟩)
    (fun t => -1 ≤ t ∧ t < c.rob.length ∧ srcGo c.rob q (min i c.rob.length).toNat = srcGo c.rob q (t + 1).toNat) (fun t => (t + 1).toNat) (fun t R hI hR => ?_) (min i c.rob.length - 1) _ ⟨by omega, by omega, by rw [show min i (c.rob.length : Int) - 1 + 1 = min i (c.rob.length : Int) by omega]⟩ (by omega)
  obtain ⟨hi, hi2, hx⟩ := hI
  have hs : source c.rob i q = srcGo c.rob q (t + 1).toNat := by unfold source; rw [if_neg (by omega), hx]
  have hz : t < 0 → srcGo c.rob q (t + 1).toNat = -1 := fun h => by rw [show (t + 1).toNat = 0 by omega]; rfl
  have w3 : IntKind.i64.wrap (t - 1) = t - 1 := wrap_id (by omega) (by omega)
  have w4 : 0 ≤ t → (t + 1).toNat = t.toNat + 1 := fun h => by omega
  have hy : ∀ k : Nat, (c.rob.getD k (FT.zero .entry)).done = true → (c.rob.getD k (FT.zero .entry)).e.r = setBy (c.rob.getD k (FT.zero .entry)) := fun k h => by unfold setBy; rw [if_pos h]
  have hn : ∀ k : Nat, (c.rob.getD k (FT.zero .entry)).done = false → setsI (c.rob.getD k (FT.zero .entry)).x = setBy (c.rob.getD k (FT.zero .entry)) := fun k h => by unfold setBy; rw [if_neg (by rw [h]; decide)]
  conv => whnf
  repeat' (first | (refine sel_i (fun h => ?_) (fun h => ?_) <;> conv => whnf) | (refine chk_c ?_ ?_ <;> conv => whnf) | (refine And.intro ?_ rfl) | (refine And.intro ?_ ?_ <;> conv => whnf))
  all_goals (try simp only [etaKey, etaWord, etaInst, etaEff, etaEntry, w3, Bool.not_eq_true', Bool.not_eq_false', decide_eq_true_eq, decide_eq_false_iff_not, ge_iff_le, gt_iff_lt] at *)
  all_goals first
    | (refine ⟨?_⟩; omega)
    | (rw [hs, hz (by omega)]; done)
    | (rw [hs, w4 (by omega), srcGo_yes (by rw [← hy _ (by assumption)]; exact eq_of_beq (by assumption)), Int.toNat_of_nonneg (by omega)]; done)
    | (rw [hs, w4 (by omega), srcGo_yes (by rw [← hn _ (by assumption)]; exact eq_of_beq (by assumption)), Int.toNat_of_nonneg (by omega)]; done)
    | (refine hR (t - 1) ⟨by omega, by omega, ?_⟩ (by omega); rw [hx, w4 (by omega), srcGo_no (by rw [← hy _ (by assumption)]; exact ne_of_beq_false (by assumption)), show t - 1 + 1 = t by omega])
    | (refine hR (t - 1) ⟨by omega, by omega, ?_⟩ (by omega); rw [hx, w4 (by omega), srcGo_no (by rw [← hn _ (by assumption)]; exact ne_of_beq_false (by assumption)), show t - 1 + 1 = t by omega])
    | trace_state
theorem ok_spec_Source : FunOk Tryz.prog c_spec_Source := funOk (E := [c_spec_l1Min, c_spec_Sets]) (envOk_cons ok_spec_l1Min (envOk_cons ok_spec_Sets (envOk_nil))) mixd Tryz.func201 (pf := pf_spec_Source) (by kernel_rfl) fun ts K h => by
  obtain ⟨t0, t1, t2, e0, h⟩ := as3_out h
  subst e0
  obtain ⟨c, e1, hq⟩ := arG_out rd_core h
  clear h
  subst e1
  have h := hq
  clear hq
  obtain ⟨i, e1, hq⟩ := arC_out (rd_int .i64) h
  clear h
  subst e1
  have h := hq
  clear hq
  obtain ⟨q, e1, hq⟩ := arC_out (rd_int .i64) h
  clear h
  subst e1
  have h := hq
  clear hq
  obtain ⟨hpre, h⟩ := chk_o h
  exact ⟨_, _, h, Nat.le_of_ble_eq_true (show Nat.ble 3 Tryz.f201.ntmps = true by kernel_rfl), _, run_spec_Source c i q hpre⟩

theorem valueC_no {c : Core} {i r : Int} (h : source c.rob i r < 0) : valueC c i r = (c.s.regs.getD r.toNat (FT.zero .word), true) := if_pos h
theorem valueC_d {c : Core} {i r : Int} (h : ¬ source c.rob i r < 0) (h2 : (c.rob.getD (source c.rob i r).toNat (FT.zero .entry)).done = true) : valueC c i r = ((c.rob.getD (source c.rob i r).toNat (FT.zero .entry)).e.val, true) := by
  unfold valueC; rw [if_neg h, if_pos h2]
theorem valueC_n {c : Core} {i r : Int} (h : ¬ source c.rob i r < 0) (h2 : (c.rob.getD (source c.rob i r).toNat (FT.zero .entry)).done = false) : valueC c i r = (zW, false) := by
  unfold valueC; rw [if_neg h, if_neg (by rw [h2]; decide)]
def valueT (p : Word × Bool) : Tree := .tup [.g (p.1.tc []), .c (.bool p.2)]
def valueR (c : Core) (i r : Int) : Word × Bool := if inR r 0 7 && coreOk c then valueC c i r else (zW, false)

def pf_spec_l12Value : PF := ⟨[.c 6 true 6, .t 7], .seq (.reg [.s (.box 3 (.t 0)), .s (.alloc 6 [.int .i64 0, .ff, .int .i64 0, .int .i64 0, .int .i64 0, .int .i64 0]), .s (.mv 7 (.k (.v (.c .ff))))]) (.seq (.reg [.s (.load 9 true 19 (.t 3)), .s (.mv 10 (.t 1)), .s (.mv 11 (.t 2)), .s (.call (some 12) 201 [(.t 9), (.t 10), (.t 11)]), .s (.mv 8 (.t 12))]) (.seq (.seq (.reg [.s (.mv 13 (.t 8)), .s (.bin 14 .lss (.t 13) (.k (.v (.c (.int .i64 0)))))]) (.cond (.t 14) (.seq (.reg [.s (.fa 15 (.t 3) 0), .s (.fa 16 (.t 15) 0), .s (.load 17 false 1 (.t 16)), .s (.mv 18 (.t 2)), .s (.ia 19 .word (.t 17) (.t 18)), .s (.load 20 true 6 (.t 19)), .s (.store 6 (.t 6) (.t 20)), .s (.mv 7 (.k (.v (.c .tt))))]) (.ret)) (.skip))) (.seq (.seq (.reg [.s (.fa 21 (.t 3) 10), .s (.load 22 false 1 (.t 21)), .s (.mv 23 (.t 8)), .s (.ia 24 .entry (.t 22) (.t 23)), .s (.fa 25 (.t 24) 11), .s (.load 26 false 1 (.t 25)), .s (.bnot 27 (.t 26))]) (.cond (.t 27) (.seq (.reg [.s (.build 28 [.int .i64 0, .ff, .int .i64 0, .int .i64 0, .int .i64 0, .int .i64 0] []), .s (.store 6 (.t 6) (.t 28)), .s (.mv 7 (.k (.v (.c .ff))))]) (.ret)) (.skip))) (.seq (.reg [.s (.fa 29 (.t 3) 10), .s (.load 30 false 1 (.t 29)), .s (.mv 31 (.t 8)), .s (.ia 32 .entry (.t 30) (.t 31)), .s (.fa 33 (.t 32) 12), .s (.fa 34 (.t 33) 2), .s (.load 35 true 6 (.t 34)), .s (.store 6 (.t 6) (.t 35)), .s (.mv 7 (.k (.v (.c .tt))))]) (.ret)))))⟩
def c_spec_l12Value : Fun := ⟨171, [], fun ts K => as3 ts fun t0 t1 t2 => arG pCoreT t0 fun c => arC (pI .i64) t1 fun i => arC (pI .i64) t2 fun q => chk (LCore c 2147483647 ∧ c.s.regs.length = 8 ∧ 0 ≤ q ∧ q ≤ 7) (K (valueT (valueC c i q)) [])⟩
theorem run_spec_l12Value (c : Core) (i : Int) (q : Int) (hpre : LCore c 2147483647 ∧ c.s.regs.length = 8 ∧ 0 ≤ q ∧ q ≤ 7) : runK [c_spec_Source] (0) [] pf_spec_l12Value [tG (c.tc false []), tI .i64 i, tI .i64 q] fun r o => r = valueT (valueC c i q) ∧ o = [] := by
  obtain ⟨l1, l2, l3, l4⟩ := hpre
  have hin := source_in c.rob i q
  have v1 := @valueC_no c i q
  have v2 := @valueC_d c i q
  have v3 := @valueC_n c i q
  conv => whnf
  repeat' (first | (refine sel_i (fun h => ?_) (fun h => ?_) <;> conv => whnf) | (refine chk_c ?_ ?_ <;> conv => whnf) | (refine And.intro ?_ rfl) | (refine And.intro ?_ ?_ <;> conv => whnf))
  all_goals (try simp only [etaKey, etaWord, etaMemory, etaState, etaCore, Bool.not_eq_true', Bool.not_eq_false', decide_eq_true_eq, decide_eq_false_iff_not] at *)
  all_goals first
    | (refine ⟨?_⟩; first | assumption | omega)
    | (rw [v1 (by assumption)]; rfl)
    | (rw [v2 (by assumption) (by assumption)]; rfl)
    | (rw [v3 (by assumption) (by assumption)]; rfl)
    | trace_state
theorem ok_spec_l12Value : FunOk Tryz.prog c_spec_l12Value := funOk (E := [c_spec_Source]) (envOk_cons ok_spec_Source (envOk_nil)) mixd Tryz.func171 (pf := pf_spec_l12Value) (by kernel_rfl) fun ts K h => by
  obtain ⟨t0, t1, t2, e0, h⟩ := as3_out h
  subst e0
  obtain ⟨c, e1, hq⟩ := arG_out rd_core h
  clear h
  subst e1
  have h := hq
  clear hq
  obtain ⟨i, e1, hq⟩ := arC_out (rd_int .i64) h
  clear h
  subst e1
  have h := hq
  clear hq
  obtain ⟨q, e1, hq⟩ := arC_out (rd_int .i64) h
  clear h
  subst e1
  have h := hq
  clear hq
  obtain ⟨hpre, h⟩ := chk_o h
  exact ⟨_, _, h, Nat.le_of_ble_eq_true (show Nat.ble 3 Tryz.f171.ntmps = true by kernel_rfl), _, run_spec_l12Value c i q hpre⟩

theorem valueR_no {c : Core} {i r : Int} (h : inR r 0 7 = false) : valueR c i r = (zW, false) := by unfold valueR; rw [h]; rfl
theorem valueR_bad {c : Core} {i r : Int} (h : coreOk c = false) : valueR c i r = (zW, false) := by unfold valueR; rw [h, Bool.and_false]; rfl
theorem valueR_ok {c : Core} {i r : Int} (h : inR r 0 7 = true) (h2 : coreOk c = true) : valueR c i r = valueC c i r := by unfold valueR; rw [h, h2]; rfl

def pf_impl_Value : PF := ⟨[.c 6 true 6, .t 7], .seq (.reg [.s (.box 3 (.t 0)), .s (.alloc 6 [.int .i64 0, .ff, .int .i64 0, .int .i64 0, .int .i64 0, .int .i64 0]), .s (.mv 7 (.k (.v (.c .ff))))]) (.seq (.seq (.reg [.s (.mv 9 (.t 2)), .s (.call (some 10) 36 [(.t 9), (.k (.v (.c (.int .i64 0)))), (.k (.v (.c (.int .i64 7))))]), .s (.bnot 11 (.t 10)), .s (.mv 12 (.t 11)), .g 12 false (some 13) (.load 13 true 19 (.t 3)), .g 12 false (some 14) (.call (some 14) 70 [(.t 13)]), .g 12 false (some 15) (.bnot 15 (.t 14)), .s (.pick 16 (.t 12) (.k (.v (.c .tt))) (.t 15))]) (.cond (.t 16) (.seq (.reg [.s (.build 17 [.int .i64 0, .ff, .int .i64 0, .int .i64 0, .int .i64 0, .int .i64 0] []), .s (.store 6 (.t 6) (.t 17)), .s (.mv 7 (.k (.v (.c .ff))))]) (.ret)) (.skip))) (.seq (.reg [.s (.load 18 true 19 (.t 3)), .s (.mv 19 (.t 1)), .s (.mv 20 (.t 2)), .s (.call (some 21) 198 [(.t 18), (.t 19), (.t 20)]), .s (.mv 8 (.t 21))]) (.seq (.blk 0 (.seq (.reg [.s (.mv 23 (.t 8)), .s (.bin 24 .lss (.t 23) (.k (.v (.c (.int .i64 0))))), .s (.mv 22 (.t 24))]) (.cond (.t 22) (.seq (.reg [.s (.fa 25 (.t 3) 0), .s (.fa 26 (.t 25) 0), .s (.load 27 false 1 (.t 26)), .s (.mv 28 (.t 2)), .s (.ia 29 .word (.t 27) (.t 28)), .s (.load 30 true 6 (.t 29)), .s (.store 6 (.t 6) (.t 30)), .s (.mv 7 (.k (.v (.c .tt))))]) (.ret)) (.seq (.reg [.s (.fa 32 (.t 3) 10), .s (.load 33 false 1 (.t 32)), .s (.mv 34 (.t 8)), .s (.ia 35 .entry (.t 33) (.t 34)), .s (.fa 36 (.t 35) 11), .s (.load 37 false 1 (.t 36)), .s (.bnot 38 (.t 37)), .s (.mv 31 (.t 38))]) (.cond (.t 31) (.seq (.reg [.s (.build 39 [.int .i64 0, .ff, .int .i64 0, .int .i64 0, .int .i64 0, .int .i64 0] []), .s (.store 6 (.t 6) (.t 39)), .s (.mv 7 (.k (.v (.c .ff))))]) (.ret)) (.skip)))))) (.seq (.reg [.s (.fa 40 (.t 3) 10), .s (.load 41 false 1 (.t 40)), .s (.mv 42 (.t 8)), .s (.ia 43 .entry (.t 41) (.t 42)), .s (.fa 44 (.t 43) 12), .s (.fa 45 (.t 44) 2), .s (.load 46 true 6 (.t 45)), .s (.store 6 (.t 6) (.t 46)), .s (.mv 7 (.k (.v (.c .tt))))]) (.ret)))))⟩
def c_impl_Value : Fun := ⟨166, [], fun ts K => as3 ts fun t0 t1 t2 => arG pCoreT t0 fun c => arC (pI .i64) t1 fun i => arC (pI .i64) t2 fun q => chk (LCore c 2147483647) (K (valueT (valueR c i q)) [])⟩
theorem run_impl_Value (c : Core) (i : Int) (q : Int) (hpre : LCore c 2147483647) : runK [c_impl_in, c_impl_CoreOk, c_impl_Source] (0) [] pf_impl_Value [tG (c.tc false []), tI .i64 i, tI .i64 q] fun r o => r = valueT (valueR c i q) ∧ o = [] := by
  have hin := source_in c.rob i q
  have v1 := @valueC_no c i q
  have v2 := @valueC_d c i q
  have v3 := @valueC_n c i q
  conv => whnf
  repeat' (first | (refine sel_i (fun h => ?_) (fun h => ?_) <;> conv => whnf) | (refine chk_c ?_ ?_ <;> conv => whnf) | (refine And.intro ?_ rfl) | (refine And.intro ?_ ?_ <;> conv => whnf))
  all_goals (try simp only [etaKey, etaWord, etaMemory, etaState, etaCore, Bool.not_eq_true', Bool.not_eq_false', decide_eq_true_eq, decide_eq_false_iff_not] at *)
  all_goals first
    | (refine ⟨?_⟩; assumption)
    | (refine ⟨?_⟩; have hc := coreOk_len (by assumption); have hr := inR_t.1 (show inR q 0 7 = true by assumption); have := hc.1.1; omega)
    | (rw [valueR_no (by assumption)]; rfl)
    | (rw [valueR_bad (by assumption)]; rfl)
    | (rw [valueR_ok (by assumption) (by assumption), v1 (by assumption)]; rfl)
    | (rw [valueR_ok (by assumption) (by assumption), v2 (by assumption) (by assumption)]; rfl)
    | (rw [valueR_ok (by assumption) (by assumption), v3 (by assumption) (by assumption)]; rfl)
    | trace_state
theorem ok_impl_Value : FunOk Tryz.prog c_impl_Value := funOk (E := [c_impl_in, c_impl_CoreOk, c_impl_Source]) (envOk_cons ok_impl_in (envOk_cons ok_impl_CoreOk (envOk_cons ok_impl_Source (envOk_nil)))) mixd Tryz.func166 (pf := pf_impl_Value) (by kernel_rfl) fun ts K h => by
  obtain ⟨t0, t1, t2, e0, h⟩ := as3_out h
  subst e0
  obtain ⟨c, e1, hq⟩ := arG_out rd_core h
  clear h
  subst e1
  have h := hq
  clear hq
  obtain ⟨i, e1, hq⟩ := arC_out (rd_int .i64) h
  clear h
  subst e1
  have h := hq
  clear hq
  obtain ⟨q, e1, hq⟩ := arC_out (rd_int .i64) h
  clear h
  subst e1
  have h := hq
  clear hq
  obtain ⟨hpre, h⟩ := chk_o h
  exact ⟨_, _, h, Nat.le_of_ble_eq_true (show Nat.ble 3 Tryz.f166.ntmps = true by kernel_rfl), _, run_impl_Value c i q hpre⟩
end Go.Pi
