/- Contracts of functions, each out of its run by PI. No conditions. -/
import Derived.Test.YtepkbkojgbcahaaCA
namespace Go.Pi
open Go.Proofs
set_option linter.unusedVariables false
set_option linter.unusedSimpArgs false
set_option maxRecDepth 100000
attribute [local irreducible] iterN
/-- Numbers in the walk's own spelling. -/
abbrev w64 (n : Int) : Int := IntKind.i64.wrap n
def inR (n lo hi : Int) : Bool := decide (lo ≤ n) && decide (n ≤ hi)

def pf_impl_in : PF := ⟨[.t 6], .seq (.reg [.s (.mv 6 (.k (.v (.c .ff))))]) (.seq (.reg [.s (.mv 7 (.t 0)), .s (.mv 8 (.t 1)), .s (.bin 9 .geq (.t 7) (.t 8)), .s (.mv 10 (.t 9)), .g 10 true (some 11) (.mv 11 (.t 0)), .g 10 true (some 12) (.mv 12 (.t 2)), .g 10 true (some 13) (.bin 13 .leq (.t 11) (.t 12)), .s (.pick 14 (.t 10) (.t 13) (.k (.v (.c .ff)))), .s (.mv 6 (.t 14))]) (.ret))⟩
def c_impl_in : Fun := ⟨103, [], fun ts K => as3 ts fun t0 t1 t2 => arC (pI .i64) t0 fun n => arC (pI .i64) t1 fun lo => arC (pI .i64) t2 fun hi => K (tB (inR n lo hi)) []⟩
theorem run_impl_in (n : Int) (lo : Int) (hi : Int) : runK [] (0) [] pf_impl_in [tI .i64 n, tI .i64 lo, tI .i64 hi] fun r o => r = tB (inR n lo hi) ∧ o = [] := by
  conv => whnf
  refine sel_i (fun h => ?_) (fun h => ?_) <;> conv => whnf
  all_goals (refine ⟨?_, rfl⟩; simp at h; simp [inR] <;> omega)
theorem ok_impl_in : FunOk Try.prog c_impl_in := funOk (E := []) (envOk_nil) mixd Try.func103 (pf := pf_impl_in) (by kernel_rfl) fun ts K h => by
  obtain ⟨t0, t1, t2, e0, h⟩ := as3_out h
  subst e0
  obtain ⟨n, e1, hq⟩ := arC_out (rd_int .i64) h
  clear h
  subst e1
  have h := hq
  clear hq
  obtain ⟨lo, e1, hq⟩ := arC_out (rd_int .i64) h
  clear h
  subst e1
  have h := hq
  clear hq
  obtain ⟨hi, e1, hq⟩ := arC_out (rd_int .i64) h
  clear h
  subst e1
  have h := hq
  clear hq
  exact ⟨_, _, h, Nat.le_of_ble_eq_true (show Nat.ble 3 Try.f103.ntmps = true by kernel_rfl), _, run_impl_in n lo hi⟩

def pf_spec_l1In : PF := ⟨[.t 6], .seq (.reg [.s (.mv 6 (.k (.v (.c .ff))))]) (.seq (.reg [.s (.mv 7 (.t 0)), .s (.mv 8 (.t 1)), .s (.bin 9 .geq (.t 7) (.t 8)), .s (.mv 10 (.t 9)), .g 10 true (some 11) (.mv 11 (.t 0)), .g 10 true (some 12) (.mv 12 (.t 2)), .g 10 true (some 13) (.bin 13 .leq (.t 11) (.t 12)), .s (.pick 14 (.t 10) (.t 13) (.k (.v (.c .ff)))), .s (.mv 6 (.t 14))]) (.ret))⟩
def c_spec_l1In : Fun := ⟨101, [], fun ts K => as3 ts fun t0 t1 t2 => arC (pI .i64) t0 fun n => arC (pI .i64) t1 fun lo => arC (pI .i64) t2 fun hi => K (tB (inR n lo hi)) []⟩
theorem run_spec_l1In (n : Int) (lo : Int) (hi : Int) : runK [] (0) [] pf_spec_l1In [tI .i64 n, tI .i64 lo, tI .i64 hi] fun r o => r = tB (inR n lo hi) ∧ o = [] := by
  conv => whnf
  refine sel_i (fun h => ?_) (fun h => ?_) <;> conv => whnf
  all_goals (refine ⟨?_, rfl⟩; simp at h; simp [inR] <;> omega)
theorem ok_spec_l1In : FunOk Try.prog c_spec_l1In := funOk (E := []) (envOk_nil) mixd Try.func101 (pf := pf_spec_l1In) (by kernel_rfl) fun ts K h => by
  obtain ⟨t0, t1, t2, e0, h⟩ := as3_out h
  subst e0
  obtain ⟨n, e1, hq⟩ := arC_out (rd_int .i64) h
  clear h
  subst e1
  have h := hq
  clear hq
  obtain ⟨lo, e1, hq⟩ := arC_out (rd_int .i64) h
  clear h
  subst e1
  have h := hq
  clear hq
  obtain ⟨hi, e1, hq⟩ := arC_out (rd_int .i64) h
  clear h
  subst e1
  have h := hq
  clear hq
  exact ⟨_, _, h, Nat.le_of_ble_eq_true (show Nat.ble 3 Try.f101.ntmps = true by kernel_rfl), _, run_spec_l1In n lo hi⟩

def room (at_ n : Int) : Bool := inR n 1 20 && inR at_ 0 (w64 (24 - n))

def markCode (a n : Int) : List Inst := if room a n then [⟨1, 1, 0, 0, n⟩, ⟨6, 2, 0, 3, a⟩, ⟨5, 3, 2, 1, 0⟩, ⟨11, 0, 0, 3, a⟩, ⟨15, 0, 0, 0, 0⟩] else []

theorem markCode_le (a n : Int) : (markCode a n).length ≤ 5 := by unfold markCode; split <;> simp
theorem set_mid {α : Type} {m a : List α} {i : Nat} {x : α} (h : m.length = a.length) (hi : i < a.length) (hx : m[i]? = some x) : (m.take i ++ a.drop i).set i x = m.take (i + 1) ++ a.drop (i + 1) := by
  rw [List.set_append_right _ _ (by simp; omega)]
  have hm : min i m.length = i := by omega
  simp only [List.length_take, hm, Nat.sub_self]
  rw [List.drop_eq_getElem_cons hi, List.set_cons_zero, List.take_add_one, hx]
  simp
theorem get_mid {α : Type} {m a : List α} {i : Nat} (h : m.length = a.length) (hi : i < a.length) : (m.take i ++ a.drop i)[i]? = a[i]? := by
  rw [List.getElem?_append_right (by simp; omega)]
  have hm : min i m.length = i := by omega
  simp [hm]

def elIns (c : Int) : Inst := ⟨c, c + 1, c + 1 + 1, c + 1 + 1 + 1, c + 1 + 1 + 1 + 1⟩
def mkInsS (n : Nat) (k : Int) : List Inst := (List.range n).map (fun j : Nat => elIns (k + 5 * j))
theorem mkInsS_length (n : Nat) (k : Int) : (mkInsS n k).length = n := by simp [mkInsS]

def copyCode (a b n : Int) : List Inst := (List.range n.toNat).flatMap (fun j : Nat => [⟨10, 1, 0, 0, w64 (a + j)⟩, ⟨11, 0, 0, 1, w64 (b + j)⟩])
def copyAll (a b n : Int) : List Inst := if room a n && room b n then copyCode a b n ++ [⟨15, 0, 0, 0, 0⟩] else []
def wipeCode (a n : Int) : List Inst := ⟨1, 1, 0, 0, 0⟩ :: (List.range n.toNat).map (fun j : Nat => ⟨11, 0, 0, 1, w64 (a + j)⟩)
def wipeAll (a n : Int) : List Inst := if room a n then wipeCode a n ++ [⟨15, 0, 0, 0, 0⟩] else []
theorem room_n {a n : Int} (h : room a n = true) : 1 ≤ n ∧ n ≤ 20 := by
  simp [room, inR] at h; exact ⟨h.1.1, h.1.2⟩
theorem copyCode_len (a b : Int) (m : Nat) : ((List.range m).flatMap (fun j : Nat => ([⟨10, 1, 0, 0, w64 (a + j)⟩, ⟨11, 0, 0, 1, w64 (b + j)⟩] : List Inst))).length = 2 * m := by
  induction m with
  | zero => rfl
  | succ m ih => rw [List.range_succ, List.flatMap_append, List.length_append, ih]; simp; omega
theorem copyAll_le (a b n : Int) : (copyAll a b n).length ≤ 41 := by
  unfold copyAll
  split
  · rename_i h
    have := room_n (a := a) (n := n) (by simp at h; exact h.1)
    have hl := copyCode_len a b n.toNat
    simp only [copyCode, List.length_append, hl, List.length_cons, List.length_nil]; omega
  · simp
theorem wipeAll_le (a n : Int) : (wipeAll a n).length ≤ 22 := by
  unfold wipeAll
  split
  · rename_i h
    have := room_n h
    simp [wipeCode]; omega
  · simp
end Go.Pi
