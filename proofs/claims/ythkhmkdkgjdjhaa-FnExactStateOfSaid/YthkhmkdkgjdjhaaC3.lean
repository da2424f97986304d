/- Contracts of functions, each out of its run by PI. No conditions. -/
import Derived.Test.YthkhmkdkgjdjhaaC2
namespace Go.Pi
open Go.Proofs
set_option linter.unusedVariables false
set_option linter.unusedSimpArgs false
set_option maxRecDepth 100000
attribute [local irreducible] iterN
def lb_laws_toByteS_0 : PC := .seq (.seq (.reg [.s (.mv 8 (.t 4)), .s (.mv 9 (.t 0)), .s (.len 10 false (.t 9)), .s (.bin 11 .lss (.t 8) (.t 10))]) (.cond (.t 11) (.skip) (.exit 0))) (.seq (.blk 1 (.reg [.s (.mv 14 (.t 3)), .s (.mv 15 (.t 4)), .s (.mv 16 (.t 0)), .s (.mv 17 (.t 4)), .s (.ia 18 (.int .u8) (.t 16) (.t 17)), .s (.load 19 false 1 (.t 18)), .s (.ia 20 (.int .u8) (.t 14) (.t 15)), .s (.store 1 (.t 20) (.t 19))])) (.reg [.s (.mv 12 (.t 4)), .s (.bin 13 .add (.t 12) (.k (.v (.c (.int .i64 1))))), .s (.mv 4 (.t 13))]))
def pf_laws_toByteS : PF := ⟨[.t 2], .seq (.reg [.s (.mv 2 (.k (.v (.c (.nils (.int .u8))))))]) (.seq (.reg [.s (.mv 5 (.t 0)), .s (.len 6 false (.t 5)), .s (.mkS 7 (.int .u8) (.t 6)), .s (.mv 3 (.t 7))]) (.seq (.seq (.reg [.s (.mv 4 (.k (.v (.c (.int .i64 0)))))]) (.blk 0 (.loop [0, 3, 4] lb_laws_toByteS_0))) (.seq (.reg [.s (.mv 21 (.t 3)), .s (.mv 2 (.t 21))]) (.ret))))⟩
def c_laws_toByteS : Fun := ⟨26, [], fun ts K => as1 ts fun t0 => arC (pL (.int .u8)) t0 fun a => chk (a.length ≤ 2147483647) (K (tL true (.int .u8) a) [])⟩
theorem run_laws_toByteS (a : List (FT.Ty (.int .u8))) (hpre : a.length ≤ 2147483647) : runK [] (a.length + 1) [] pf_laws_toByteS [tL false (.int .u8) a] fun r o => r = tL true (.int .u8) a ∧ o = [] := by
  conv => whnf
  refine chk_i ⟨by omega, by omega⟩ ?_
  conv => whnf
  refine loop (α := Nat × List (FT.Ty (.int .u8))) (fun p => ⟨[(0, .v (.c (.sl false (.int .u8) 0))), (3, .v (.c (.sl true (.int .u8) 1))), (4, .v (.c (.int .i64 (p.1 : Int))))], [(1, some (.flat true (.int .u8) none p.2)), (0, some (.flat false (.int .u8) none a))], nums.tail.tail, [], false, []⟩)
      (fun p => p.1 ≤ a.length ∧ p.2 = a.take p.1 ++ (List.replicate a.length (FT.zero (.int .u8))).drop p.1) (fun p => a.length - p.1) (fun p R hI hR => ?_) (0, List.replicate a.length (FT.zero (.int .u8))) _ ⟨by simp, by simp⟩ (by simp)
  obtain ⟨i, xs⟩ := p
  obtain ⟨hi, hx⟩ := hI
  dsimp only at hi hx
  have hlen : xs.length = a.length := by rw [hx]; simp; omega
  dsimp only
  conv => whnf
  refine sel_i (fun h2 => ?_) (fun h2 => ?_)
  · have hlt : i < a.length := by simp at h2; omega
    have hge : a[i]? = some (a.getD i (FT.zero (.int .u8))) := by simp [List.getD_eq_getElem?_getD, hlt]
    conv => whnf
    repeat' (refine chk_c ?_ ?_ <;> conv => whnf)
    all_goals first
      | (refine ⟨?_⟩; omega)
      | (refine ⟨?_⟩; simp; done)
      | (refine ⟨?_⟩; simp; omega)
      | skip
    simp (disch := omega) only [wrap_id, Int.toNat_natCast]
    exact hR (i + 1, xs.set i (a.getD i (FT.zero (.int .u8)))) ⟨by omega, by rw [hx]; exact set_mid (by simp) (by simpa using hlt) hge⟩ (by simp; omega)
  · have hge : i = a.length := by simp at h2; omega
    subst hge
    conv => whnf
    refine ⟨?_, rfl⟩
    rw [hx, List.take_of_length_le (by omega), List.drop_eq_nil_of_le (by simp), List.append_nil]
theorem ok_laws_toByteS : FunOk Try.prog c_laws_toByteS := funOk (E := []) (envOk_nil) mixd Try.func26 (pf := pf_laws_toByteS) (by kernel_rfl) fun ts K h => by
  obtain ⟨t0, e0, h⟩ := as1_out h
  subst e0
  obtain ⟨a, e1, hq⟩ := arC_out (rd_l (.int .u8)) h
  clear h
  subst e1
  have h := hq
  clear hq
  obtain ⟨hpre, h⟩ := chk_o h
  exact ⟨_, _, h, Nat.le_of_ble_eq_true (show Nat.ble 1 Try.f26.ntmps = true by kernel_rfl), _, run_laws_toByteS a hpre⟩

def elByte (c : Int) : Int := IntKind.u8.wrap (c)
def mkByteS (n : Nat) (k : Int) : List Int := (List.range n).map (fun j : Nat => elByte (k + 1 * j))
theorem mkByteS_length (n : Nat) (k : Int) : (mkByteS n k).length = n := by simp [mkByteS]

def lb_laws_eqByteS_0 : PC := .seq (.seq (.reg [.s (.mv 11 (.t 5)), .s (.mv 12 (.t 0)), .s (.len 13 false (.t 12)), .s (.bin 14 .lss (.t 11) (.t 13))]) (.cond (.t 14) (.skip) (.exit 0))) (.seq (.blk 1 (.seq (.rgd [.s (.mv 17 (.t 0)), .s (.mv 18 (.t 5)), .s (.ia 19 (.int .u8) (.t 17) (.t 18)), .s (.load 20 false 1 (.t 19)), .s (.mv 21 (.t 1)), .s (.mv 22 (.t 5)), .s (.ia 23 (.int .u8) (.t 21) (.t 22)), .s (.load 24 false 1 (.t 23)), .s (.bin 25 .neq (.t 20) (.t 24))] (.tk 0 (.tk 1 (.tk 2 (.tk 3 (.tk 4 (.tk 5 (.tk 6 (.tk 7 (.tk 8 (.done none))))))))))) (.cond (.t 25) (.seq (.reg [.s (.mv 4 (.k (.v (.c .ff))))]) (.ret)) (.skip)))) (.reg [.s (.mv 15 (.t 5)), .s (.bin 16 .add (.t 15) (.k (.v (.c (.int .i64 1))))), .s (.mv 5 (.t 16))]))
def pf_laws_eqByteS : PF := ⟨[.t 4], .seq (.reg [.s (.mv 4 (.k (.v (.c .ff))))]) (.seq (.seq (.reg [.s (.mv 6 (.t 0)), .s (.len 7 false (.t 6)), .s (.mv 8 (.t 1)), .s (.len 9 false (.t 8)), .s (.bin 10 .neq (.t 7) (.t 9))]) (.cond (.t 10) (.seq (.reg [.s (.mv 4 (.k (.v (.c .ff))))]) (.ret)) (.skip))) (.seq (.seq (.reg [.s (.mv 5 (.k (.v (.c (.int .i64 0)))))]) (.blk 0 (.loop [0, 1, 5] lb_laws_eqByteS_0))) (.seq (.reg [.s (.mv 4 (.k (.v (.c .tt))))]) (.ret))))⟩
def c_laws_eqByteS : Fun := ⟨16, [], fun ts K => as2 ts fun t0 t1 => arC (pL (.int .u8)) t0 fun a => arC (pL (.int .u8)) t1 fun b => chk (a.length ≤ 2147483647) (K (tB (decide (a = b))) [])⟩
theorem run_laws_eqByteS (a : List (FT.Ty (.int .u8))) (b : List (FT.Ty (.int .u8))) (hpre : a.length ≤ 2147483647) : runK [] (a.length + 1) [] pf_laws_eqByteS [tL false (.int .u8) a, tL false (.int .u8) b] fun r o => r = tB (decide (a = b)) ∧ o = [] := by
  conv => whnf
  refine sel_i (fun h => ?_) (fun h => ?_)
  · conv => whnf
    refine ⟨?_, rfl⟩
    simp at h
    simp
    intro e; subst e; simp at h
  · conv => whnf
    refine loop (α := Nat) (fun i => ⟨[(0, .v (.c (.sl false (.int .u8) 0))), (1, .v (.c (.sl false (.int .u8) 1))), (5, .v (.c (.int .i64 (i : Int))))], [(1, some (.flat false (.int .u8) none b)), (0, some (.flat false (.int .u8) none a))], nums.tail.tail, [], false, []⟩)
      (fun i => i ≤ a.length ∧ a.take i = b.take i) (fun i => a.length - i) (fun i R hI hR => ?_) 0 _ ⟨by simp, by simp⟩ (by omega)
    conv => whnf
    repeat' (first | (refine sel_i (fun h2 => ?_) (fun h2 => ?_) <;> conv => whnf) | (refine chk_c ?_ ?_ <;> conv => whnf))
    all_goals (have hl : a.length = b.length := by simp at h; omega)
    · exact ⟨by simp at h2; omega⟩
    · exact ⟨by simp at h2; omega⟩
    · exact ⟨by simp at h2; omega⟩
    · exact ⟨by simp at h2; omega⟩
    · refine ⟨?_, rfl⟩
      have hne : a ≠ b := fun e => by subst e; simp at h2
      simp [hne]
    · rename_i h3
      have hlt : i < a.length := by simpa using h3
      rw [wrap_id (n := (i : Int) + 1) (by omega) (by omega)]
      exact hR (i + 1) ⟨by omega, take_step (z := FT.zero (.int .u8)) hI.2 hlt (by omega) (by simpa using h2)⟩ (by omega)
    · refine ⟨?_, rfl⟩
      have hge : a.length ≤ i := by simpa using h2
      have : a = b := take_all hI.2 hge (by omega)
      simp [this]
theorem ok_laws_eqByteS : FunOk Try.prog c_laws_eqByteS := funOk (E := []) (envOk_nil) mixd Try.func16 (pf := pf_laws_eqByteS) (by kernel_rfl) fun ts K h => by
  obtain ⟨t0, t1, e0, h⟩ := as2_out h
  subst e0
  obtain ⟨a, e1, hq⟩ := arC_out (rd_l (.int .u8)) h
  clear h
  subst e1
  have h := hq
  clear hq
  obtain ⟨b, e1, hq⟩ := arC_out (rd_l (.int .u8)) h
  clear h
  subst e1
  have h := hq
  clear hq
  obtain ⟨hpre, h⟩ := chk_o h
  exact ⟨_, _, h, Nat.le_of_ble_eq_true (show Nat.ble 2 Try.f16.ntmps = true by kernel_rfl), _, run_laws_eqByteS a b hpre⟩

def lb_laws_markByteS_0 : PC := .seq (.seq (.reg [.s (.mv 6 (.t 5)), .s (.mv 7 (.t 0)), .s (.len 8 false (.t 7)), .s (.bin 9 .lss (.t 6) (.t 8))]) (.cond (.t 9) (.skip) (.exit 0))) (.seq (.blk 1 (.seq (.reg [.s (.mv 12 (.t 0)), .s (.mv 13 (.t 5)), .s (.mv 14 (.t 1)), .s (.conv 15 .u8 (.t 14)), .s (.ia 16 (.int .u8) (.t 12) (.t 13)), .s (.store 1 (.t 16) (.t 15))]) (.reg [.s (.mv 17 (.t 1)), .s (.bin 18 .add (.t 17) (.k (.v (.c (.int .i64 1))))), .s (.mv 1 (.t 18))]))) (.reg [.s (.mv 10 (.t 5)), .s (.bin 11 .add (.t 10) (.k (.v (.c (.int .i64 1))))), .s (.mv 5 (.t 11))]))
def pf_laws_markByteS : PF := ⟨[.t 4], .seq (.reg [.s (.mv 4 (.k (.v (.c (.int .i64 0)))))]) (.seq (.seq (.reg [.s (.mv 5 (.k (.v (.c (.int .i64 0)))))]) (.blk 0 (.loop [0, 1, 5] lb_laws_markByteS_0))) (.seq (.reg [.s (.mv 19 (.t 1)), .s (.mv 4 (.t 19))]) (.ret)))⟩
def c_laws_markByteS : Fun := ⟨17, [true, false], fun ts K => as2 ts fun t0 t1 => arC (pO (.int .u8)) t0 fun a => arC (pI .i64) t1 fun k => chk (0 ≤ k ∧ k ≤ 1125899906842624 ∧ a.length ≤ 2147483647) (K (tN (k + 1 * a.length)) ([tL true (.int .u8) (mkByteS a.length k)]))⟩
theorem run_laws_markByteS (a : List (FT.Ty (.int .u8))) (k : Int) (hpre : 0 ≤ k ∧ k ≤ 1125899906842624 ∧ a.length ≤ 2147483647) : runK [] (a.length + 1) [true, false] pf_laws_markByteS [tL true (.int .u8) a, tI .i64 k] fun r o => r = tN (k + 1 * a.length) ∧ o = [tL true (.int .u8) (mkByteS a.length k)] := by
  have hml : (mkByteS a.length k).length = a.length := by simp [mkByteS]
  conv => whnf
  refine loop (α := Nat × Int × List Int) (fun p => ⟨[(0, .v (.c (.sl false (.int .u8) 0))), (1, .v (.c (.int .i64 p.2.1))), (5, .v (.c (.int .i64 (p.1 : Int))))], [(0, some (.flat true (.int .u8) none p.2.2))], nums.tail, [.v (.c (.sl false (.int .u8) 0))], false, []⟩)
      (fun p => p.1 ≤ a.length ∧ p.2.1 = k + 1 * p.1 ∧ p.2.2 = (mkByteS a.length k).take p.1 ++ a.drop p.1) (fun p => a.length - p.1) (fun p R hI hR => ?_) (0, k, a) _ ⟨by simp, by simp, by simp⟩ (by simp)
  obtain ⟨i, c, xs⟩ := p
  obtain ⟨hi, hc, hx⟩ := hI
  dsimp only at hi hc hx
  have hlen : xs.length = a.length := by rw [hx]; simp [hml]; omega
  dsimp only
  conv => whnf
  refine sel_i (fun h2 => ?_) (fun h2 => ?_)
  · have hlt : i < a.length := by simp at h2; omega
    have hget : ∀ x : Int, (xs.set i x).getD i (FT.zero (.int .u8)) = x := fun x => by simp [List.getD_eq_getElem?_getD, hlen, hlt]
    have hmk : (mkByteS a.length k)[i]? = some (elByte c) := by simp [mkByteS, hlt, hc]
    conv => whnf
    repeat' (refine chk_c ?_ ?_ <;> conv => whnf)
    all_goals first
      | (refine ⟨?_⟩; omega)
      | (refine ⟨?_⟩; simp; done)
      | (refine ⟨?_⟩; simp; omega)
      | skip
    simp (disch := omega) only [wrap_id, Int.toNat_natCast, hget, List.set_set]
    exact hR (i + 1, c + 1, xs.set i (elByte c)) ⟨by omega, by simp; omega, by rw [hx]; exact set_mid hml hlt hmk⟩ (by simp; omega)
  · have hge : i = a.length := by simp at h2; omega
    subst hge
    conv => whnf
    refine ⟨by rw [hc], ?_⟩
    rw [hx, List.take_of_length_le (by omega), List.drop_eq_nil_of_le (by omega), List.append_nil]
theorem ok_laws_markByteS : FunOk Try.prog c_laws_markByteS := funOk (E := []) (envOk_nil) mixd Try.func17 (pf := pf_laws_markByteS) (by kernel_rfl) fun ts K h => by
  obtain ⟨t0, t1, e0, h⟩ := as2_out h
  subst e0
  obtain ⟨a, e1, hq⟩ := arC_out (rd_o (.int .u8)) h
  clear h
  subst e1
  have h := hq
  clear hq
  obtain ⟨k, e1, hq⟩ := arC_out (rd_int .i64) h
  clear h
  subst e1
  have h := hq
  clear hq
  obtain ⟨hpre, h⟩ := chk_o h
  exact ⟨_, _, h, Nat.le_of_ble_eq_true (show Nat.ble 2 Try.f17.ntmps = true by kernel_rfl), _, run_laws_markByteS a k hpre⟩

def lb_laws_heldByteS_0 : PC := .seq (.seq (.reg [.s (.mv 6 (.t 5)), .s (.mv 7 (.t 0)), .s (.len 8 false (.t 7)), .s (.bin 9 .lss (.t 6) (.t 8))]) (.cond (.t 9) (.skip) (.exit 0))) (.seq (.blk 1 (.seq (.seq (.reg [.s (.mv 12 (.t 0)), .s (.mv 13 (.t 5)), .s (.ia 14 (.int .u8) (.t 12) (.t 13)), .s (.load 15 false 1 (.t 14)), .s (.mv 16 (.t 1)), .s (.conv 17 .u8 (.t 16)), .s (.bin 18 .neq (.t 15) (.t 17))]) (.cond (.t 18) (.seq (.reg [.s (.mv 4 (.k (.v (.c (.int .i64 (-1))))))]) (.ret)) (.skip))) (.reg [.s (.mv 19 (.t 1)), .s (.bin 20 .add (.t 19) (.k (.v (.c (.int .i64 1))))), .s (.mv 1 (.t 20))]))) (.reg [.s (.mv 10 (.t 5)), .s (.bin 11 .add (.t 10) (.k (.v (.c (.int .i64 1))))), .s (.mv 5 (.t 11))]))
def pf_laws_heldByteS : PF := ⟨[.t 4], .seq (.reg [.s (.mv 4 (.k (.v (.c (.int .i64 0)))))]) (.seq (.seq (.reg [.s (.mv 5 (.k (.v (.c (.int .i64 0)))))]) (.blk 0 (.loop [0, 1, 5] lb_laws_heldByteS_0))) (.seq (.reg [.s (.mv 21 (.t 1)), .s (.mv 4 (.t 21))]) (.ret)))⟩
def c_laws_heldByteS : Fun := ⟨18, [], fun ts K => as2 ts fun t0 t1 => arC (pL (.int .u8)) t0 fun a => arC (pI .i64) t1 fun k => chk (0 ≤ k ∧ k ≤ 1125899906842624 ∧ a.length ≤ 2147483647) (K (tN (hres (a = mkByteS a.length k) (k + 1 * a.length))) [])⟩
theorem run_laws_heldByteS (a : List (FT.Ty (.int .u8))) (k : Int) (hpre : 0 ≤ k ∧ k ≤ 1125899906842624 ∧ a.length ≤ 2147483647) : runK [] (a.length + 1) [] pf_laws_heldByteS [tL false (.int .u8) a, tI .i64 k] fun r o => r = tN (hres (a = mkByteS a.length k) (k + 1 * a.length)) ∧ o = [] := by
  have hml : (mkByteS a.length k).length = a.length := by simp [mkByteS]
  conv => whnf
  refine loop (α := Nat × Int) (fun p => ⟨[(0, .v (.c (.sl false (.int .u8) 0))), (1, .v (.c (.int .i64 p.2))), (5, .v (.c (.int .i64 (p.1 : Int))))], [(0, some (.flat false (.int .u8) none a))], nums.tail, [], false, []⟩)
      (fun p => p.1 ≤ a.length ∧ p.2 = k + 1 * p.1 ∧ a.take p.1 = (mkByteS a.length k).take p.1) (fun p => a.length - p.1) (fun p R hI hR => ?_) (0, k) _ ⟨by simp, by simp, by simp⟩ (by simp)
  obtain ⟨i, c⟩ := p
  obtain ⟨hi, hc, hx⟩ := hI
  dsimp only at hi hc hx
  dsimp only
  conv => whnf
  refine sel_i (fun h2 => ?_) (fun h2 => ?_)
  · have hlt : i < a.length := by simp at h2; omega
    have hmk : (mkByteS a.length k).getD i (FT.zero (.int .u8)) = elByte c := by simp [mkByteS, List.getD_eq_getElem?_getD, hlt, hc]
    have hne : a.getD i (FT.zero (.int .u8)) ≠ elByte c → a ≠ mkByteS a.length k := fun h e => h (by rw [← hmk, ← e])
    conv => whnf
    repeat' (first | (refine sel_i (fun h2 => ?_) (fun h2 => ?_) <;> conv => whnf) | (refine chk_c ?_ ?_ <;> conv => whnf))
    all_goals first
      | (refine ⟨?_⟩; omega)
      | (refine ⟨?_⟩; simp; done)
      | (refine ⟨?_⟩; simp; omega)
      | (refine ⟨?_, rfl⟩
         rw [hres_no (hne (fun e => by
           simp (disch := omega) only [wrap_id, Int.toNat_natCast, e] at h2
           simp [elByte] at h2))])
      | skip
    rename_i e0
    simp (disch := omega) only [wrap_id, Int.toNat_natCast] at h2 ⊢
    have he : a.getD i (FT.zero (.int .u8)) = elByte c := by
      generalize a.getD i (FT.zero (.int .u8)) = v at h2
      simp at h2
      simp [elByte, *]
    exact hR (i + 1, c + 1) ⟨by omega, by simp; omega, take_step hx hlt (by omega) (he.trans hmk.symm)⟩ (by simp; omega)
  · have hge : i = a.length := by simp at h2; omega
    subst hge
    conv => whnf
    refine ⟨?_, rfl⟩
    rw [List.take_of_length_le (by omega), List.take_of_length_le (by omega)] at hx
    rw [hres_yes hx, hc]
theorem ok_laws_heldByteS : FunOk Try.prog c_laws_heldByteS := funOk (E := []) (envOk_nil) mixd Try.func18 (pf := pf_laws_heldByteS) (by kernel_rfl) fun ts K h => by
  obtain ⟨t0, t1, e0, h⟩ := as2_out h
  subst e0
  obtain ⟨a, e1, hq⟩ := arC_out (rd_l (.int .u8)) h
  clear h
  subst e1
  have h := hq
  clear hq
  obtain ⟨k, e1, hq⟩ := arC_out (rd_int .i64) h
  clear h
  subst e1
  have h := hq
  clear hq
  obtain ⟨hpre, h⟩ := chk_o h
  exact ⟨_, _, h, Nat.le_of_ble_eq_true (show Nat.ble 2 Try.f18.ntmps = true by kernel_rfl), _, run_laws_heldByteS a k hpre⟩

def orI (a b : Int) : Int := IntKind.i64.wrap (BitVec.ofInt IntKind.i64.bits a ||| BitVec.ofInt IntKind.i64.bits b).toNat
theorem orI_eq (a b : Int) : IntKind.i64.wrap (BitVec.ofInt IntKind.i64.bits a ||| BitVec.ofInt IntKind.i64.bits b).toNat = orI a b := rfl
def U8s (b : List Int) : Prop := ∀ x ∈ b, 0 ≤ x ∧ x ≤ 255
theorem wfU8 {x : Int} (h : wfI .u8 x) : 0 ≤ x ∧ x ≤ 255 := by
  have h : (decide (IntKind.u8.min ≤ x) && decide (x ≤ IntKind.u8.max)) = true := h
  simp at h
  have e1 : IntKind.u8.min = 0 := rfl
  have e2 : IntKind.u8.max = 255 := rfl
  omega
theorem U8s.at {b : List Int} (h : U8s b) (i : Nat) : 0 ≤ b.getD i 0 ∧ b.getD i 0 ≤ 255 := by
  rw [List.getD_eq_getElem?_getD]
  cases e : b[i]? with
  | none => simp
  | some x => exact h x (List.mem_of_getElem? e)
theorem orI_add {x y : Int} (hx : 0 ≤ x ∧ x ≤ 255) (hy : 0 ≤ y ∧ y ≤ 255) : orI (x * 256) y = x * 256 + y := by
  obtain ⟨m, rfl⟩ := Int.eq_ofNat_of_zero_le hx.1
  obtain ⟨n, rfl⟩ := Int.eq_ofNat_of_zero_le hy.1
  have e : (m * 256 : Nat) ||| n = m * 256 + n := by
    have := Nat.two_pow_add_eq_or_of_lt (i := 8) (b := n) (by omega) m
    rw [Nat.mul_comm]; exact this.symm
  unfold orI
  rw [show ((m : Int) * 256) = ((m * 256 : Nat) : Int) by omega, BitVec.ofInt_natCast, BitVec.ofInt_natCast, BitVec.toNat_or, BitVec.toNat_ofNat, BitVec.toNat_ofNat]
  rw [Nat.mod_eq_of_lt (a := m * 256) (by show _ < 2 ^ 64; omega), Nat.mod_eq_of_lt (a := n) (by show _ < 2 ^ 64; omega), e]
  rw [wrap_id (by omega) (by omega)]; omega
theorem andI_255 {n : Int} (h : 0 ≤ n ∧ n ≤ 65535) : andI n 255 = n % 256 := by
  obtain ⟨m, rfl⟩ := Int.eq_ofNat_of_zero_le h.1
  have e : m &&& 255 = m % 256 := Nat.and_two_pow_sub_one_eq_mod m 8
  unfold andI
  rw [show (255 : Int) = ((255 : Nat) : Int) by rfl, BitVec.ofInt_natCast, BitVec.ofInt_natCast, BitVec.toNat_and, BitVec.toNat_ofNat, BitVec.toNat_ofNat]
  rw [Nat.mod_eq_of_lt (a := m) (by show _ < 2 ^ 64; omega), Nat.mod_eq_of_lt (a := 255) (by decide), e]
  rw [wrap_id (by omega) (by omega)]; omega
theorem u8_id {n : Int} (h : 0 ≤ n ∧ n ≤ 255) : IntKind.u8.wrap n = n := by
  show n % 256 = n
  omega
theorem hi8 {n : Int} (h : 0 ≤ n ∧ n ≤ 65535) : IntKind.u8.wrap (n.fdiv (2 ^ min (Int.toNat 8) IntKind.i64.bits)) = n / 256 := by
  rw [show (2 ^ min (Int.toNat 8) IntKind.i64.bits : Int) = 256 by decide, Int.fdiv_eq_ediv_of_nonneg _ (by decide), u8_id (by omega)]
theorem lo8 {n : Int} (h : 0 ≤ n ∧ n ≤ 65535) : IntKind.u8.wrap (andI n 255) = n % 256 := by
  rw [andI_255 h, u8_id (by omega)]
theorem two8 {x y : Int} (hx : 0 ≤ x ∧ x ≤ 255) (hy : 0 ≤ y ∧ y ≤ 255) : orI (IntKind.i64.wrap (IntKind.i64.wrap x * 2 ^ min (Int.toNat 8) IntKind.i64.bits)) (IntKind.i64.wrap y) = x * 256 + y := by
  rw [show (2 ^ min (Int.toNat 8) IntKind.i64.bits : Int) = 256 by decide, wrap_id (n := x) (by omega) (by omega), wrap_id (n := y) (by omega) (by omega), wrap_id (by omega) (by omega), orI_add hx hy]
def wordBytes (w : Word) : List Int :=
  if wordOk w then (if w.is then [w.n / 256, w.n % 256, 1, w.key.base / 256, w.key.base % 256, w.key.top / 256, w.key.top % 256, w.key.perms, w.key.sealed] else [w.n / 256, w.n % 256, 0]) else []
theorem wordOk_n {w : Word} (h : wordOk w = true) : 0 ≤ w.n ∧ w.n ≤ 65535 := by
  simp only [wordOk, Bool.and_eq_true] at h; simpa [inR] using h.1
theorem wordOk_key {w : Word} (h : wordOk w = true) (h2 : w.is = true) : 0 ≤ w.key.base ∧ w.key.base ≤ w.key.top ∧ w.key.top ≤ 4096 ∧ 0 ≤ w.key.perms ∧ w.key.perms ≤ 63 ∧ 0 ≤ w.key.sealed ∧ w.key.sealed ≤ 7 := by
  simp only [wordOk, h2, if_true, Bool.and_eq_true, keyOk, exact_] at h
  have := bounds_n h.2.1.1.1.1
  have h3 := h.2.1.2
  have h4 := h.2.2
  simp [inR] at h3 h4
  omega
theorem zu8 : FT.zero (.int .u8) = (0 : Int) := rfl
theorem win_at {b : List Int} {o n i : Nat} (h : i < n) : (win b o n).getD i 0 = b.getD (o + i) 0 := by
  simp [win, List.getD_eq_getElem?_getD, List.getElem?_take, h]
theorem win_len {α : Type} {b : List α} {o n : Nat} (h : o + n ≤ b.length) : (win b o n).length = n := by
  simp [win]; omega
theorem U8s.win {b : List Int} (h : U8s b) (o n : Nat) : U8s (win b o n) := fun x hx => h x (List.mem_of_mem_drop (List.mem_of_mem_take hx))
theorem tn (n : Nat) : Int.toNat (OfNat.ofNat n) = n := rfl
theorem tn2 : Int.toNat 2 = 2 := rfl
theorem tn3 : Int.toNat 3 = 3 := rfl
theorem tn5 : Int.toNat 5 = 5 := rfl
theorem tn7 : Int.toNat 7 = 7 := rfl
theorem tn8 : Int.toNat 8 = 8 := rfl

def pf_spec_WordBytes : PF := ⟨[.t 2], .seq (.reg [.s (.box 1 (.t 0)), .s (.mv 2 (.k (.v (.c (.nils (.int .u8))))))]) (.seq (.seq (.reg [.s (.load 5 true 6 (.t 1)), .s (.call (some 6) 64 [(.t 5)]), .s (.bnot 7 (.t 6))]) (.cond (.t 7) (.seq (.reg [.s (.bs 8 (.int .u8) []), .s (.mv 2 (.t 8))]) (.ret)) (.skip))) (.seq (.reg [.s (.fa 9 (.t 1) 0), .s (.load 10 false 1 (.t 9)), .s (.bin 11 .shr (.t 10) (.k (.v (.c (.int .u64 8))))), .s (.conv 12 .u8 (.t 11)), .s (.fa 13 (.t 1) 0), .s (.load 14 false 1 (.t 13)), .s (.bin 15 .and (.t 14) (.k (.v (.c (.int .i64 255))))), .s (.conv 16 .u8 (.t 15)), .s (.bs 17 (.int .u8) [(.t 12), (.t 16)]), .s (.mv 3 (.t 17))]) (.seq (.seq (.reg [.s (.fa 18 (.t 1) 1), .s (.load 19 false 1 (.t 18)), .s (.bnot 20 (.t 19))]) (.cond (.t 20) (.seq (.reg [.s (.mv 21 (.t 3)), .s (.bs 22 (.int .u8) [(.k (.v (.c (.int .u8 0))))]), .s (.app 23 (.int .u8) (.t 21) (.t 22)), .s (.mv 2 (.t 23))]) (.ret)) (.skip))) (.seq (.reg [.s (.fa 24 (.t 1) 2), .s (.load 25 true 4 (.t 24)), .s (.alloc 4 [.int .i64 0, .int .i64 0, .int .i64 0, .int .i64 0]), .s (.store 4 (.t 4) (.t 25))]) (.seq (.reg [.s (.mv 26 (.t 3)), .s (.fa 27 (.t 4) 0), .s (.load 28 false 1 (.t 27)), .s (.bin 29 .shr (.t 28) (.k (.v (.c (.int .u64 8))))), .s (.conv 30 .u8 (.t 29)), .s (.fa 31 (.t 4) 0), .s (.load 32 false 1 (.t 31)), .s (.bin 33 .and (.t 32) (.k (.v (.c (.int .i64 255))))), .s (.conv 34 .u8 (.t 33)), .s (.fa 35 (.t 4) 1), .s (.load 36 false 1 (.t 35)), .s (.bin 37 .shr (.t 36) (.k (.v (.c (.int .u64 8))))), .s (.conv 38 .u8 (.t 37)), .s (.fa 39 (.t 4) 1), .s (.load 40 false 1 (.t 39)), .s (.bin 41 .and (.t 40) (.k (.v (.c (.int .i64 255))))), .s (.conv 42 .u8 (.t 41)), .s (.fa 43 (.t 4) 2), .s (.load 44 false 1 (.t 43)), .s (.conv 45 .u8 (.t 44)), .s (.fa 46 (.t 4) 3), .s (.load 47 false 1 (.t 46)), .s (.conv 48 .u8 (.t 47)), .s (.bs 49 (.int .u8) [(.k (.v (.c (.int .u8 1)))), (.t 30), (.t 34), (.t 38), (.t 42), (.t 45), (.t 48)]), .s (.app 50 (.int .u8) (.t 26) (.t 49)), .s (.mv 2 (.t 50))]) (.ret))))))⟩
def c_spec_WordBytes : Fun := ⟨13, [], fun ts K => as1 ts fun t0 => arG pWordT t0 fun w => K (tL true (.int .u8) (wordBytes w)) []⟩
theorem run_spec_WordBytes (w : Word) : runK [c_spec_WordOk] (0) [] pf_spec_WordBytes [tG (w.tc [])] fun r o => r = tL true (.int .u8) (wordBytes w) ∧ o = [] := by
  conv => whnf
  repeat' (first | (refine sel_i (fun h => ?_) (fun h => ?_) <;> conv => whnf) | (refine chk_c ?_ ?_ <;> conv => whnf) | (refine And.intro ?_ rfl) | (refine And.intro ?_ ?_ <;> conv => whnf))
  all_goals (try simp only [etaKey, etaWord, Bool.not_eq_true', Bool.not_eq_false', andI_eq] at *)
  all_goals first
    | (refine ⟨?_⟩; decide)
    | (refine ⟨?_⟩; show 3 ≤ 2147483647; decide)
    | (refine ⟨?_⟩; show 9 ≤ 2147483647; decide)
    | (simp only [wordBytes, *]; rfl)
    | (rename_i h1
       have h2 := h
       have hn := wordOk_n h1
       rw [hi8 hn, lo8 hn]
       simp only [wordBytes, h1, h2, if_true, Bool.false_eq_true, if_false]; rfl)
    | (rename_i h1
       have h2 := h
       have hn := wordOk_n h1
       have hk := wordOk_key h1 h2
       rw [hi8 hn, lo8 hn, hi8 (by omega), lo8 (by omega), hi8 (by omega), lo8 (by omega), u8_id (by omega), u8_id (by omega)]
       simp only [wordBytes, h1, h2, if_true]; rfl)
    | trace_state
theorem ok_spec_WordBytes : FunOk Try.prog c_spec_WordBytes := funOk (E := [c_spec_WordOk]) (envOk_cons ok_spec_WordOk (envOk_nil)) mixd Try.func13 (pf := pf_spec_WordBytes) (by kernel_rfl) fun ts K h => by
  obtain ⟨t0, e0, h⟩ := as1_out h
  subst e0
  obtain ⟨w, e1, hq⟩ := arG_out rd_word h
  clear h
  subst e1
  have h := hq
  clear hq
  exact ⟨_, _, h, Nat.le_of_ble_eq_true (show Nat.ble 1 Try.f13.ntmps = true by kernel_rfl), _, run_spec_WordBytes w⟩

def pf_impl_twoOf : PF := ⟨[.t 2], .seq (.reg [.s (.mv 2 (.k (.v (.c (.int .i64 0)))))]) (.seq (.rgd [.s (.mv 3 (.t 0)), .s (.ia 4 (.int .u8) (.t 3) (.k (.v (.c (.int .i64 0))))), .s (.load 5 false 1 (.t 4)), .s (.conv 6 .i64 (.t 5)), .s (.bin 7 .shl (.t 6) (.k (.v (.c (.int .u64 8))))), .s (.mv 8 (.t 0)), .s (.ia 9 (.int .u8) (.t 8) (.k (.v (.c (.int .i64 1))))), .s (.load 10 false 1 (.t 9)), .s (.conv 11 .i64 (.t 10)), .s (.bin 12 .or (.t 7) (.t 11)), .s (.mv 2 (.t 12))] (.tk 0 (.tk 1 (.tk 2 (.tk 3 (.tk 4 (.tk 5 (.tk 6 (.tk 7 (.tk 8 (.tk 9 (.tk 10 (.done none))))))))))))) (.ret))⟩
def c_impl_twoOf : Fun := ⟨128, [], fun ts K => as1 ts fun t0 => arC (pL (.int .u8)) t0 fun b => chk (2 ≤ b.length ∧ U8s b) (K (tN (b.getD 0 0 * 256 + b.getD 1 0)) [])⟩
theorem run_impl_twoOf (b : List (FT.Ty (.int .u8))) (hpre : 2 ≤ b.length ∧ U8s b) : runK [] (0) [] pf_impl_twoOf [tL false (.int .u8) b] fun r o => r = tN (b.getD 0 0 * 256 + b.getD 1 0) ∧ o = [] := by
  obtain ⟨l1, l2⟩ := hpre
  conv => whnf
  repeat' (first | (refine sel_i (fun h => ?_) (fun h => ?_) <;> conv => whnf) | (refine chk_c ?_ ?_ <;> conv => whnf) | (refine And.intro ?_ rfl) | (refine And.intro ?_ ?_ <;> conv => whnf))
  all_goals first
    | (refine ⟨?_⟩; decide)
    | (refine ⟨?_⟩; show (0 : Int) ≤ 0 ∧ 0 < (b.length : Int); omega)
    | (refine ⟨?_⟩; show (0 : Int) ≤ 1 ∧ 1 < (b.length : Int); omega)
    | (refine ⟨?_⟩; show 0 < b.length; omega)
    | (refine ⟨?_⟩; show 1 < b.length; omega)
    | (simp only [orI_eq, zu8]; rw [two8 (l2.at _) (l2.at _)]; rfl)
    | trace_state
theorem ok_impl_twoOf : FunOk Try.prog c_impl_twoOf := funOk (E := []) (envOk_nil) mixd Try.func128 (pf := pf_impl_twoOf) (by kernel_rfl) fun ts K h => by
  obtain ⟨t0, e0, h⟩ := as1_out h
  subst e0
  obtain ⟨b, e1, hq⟩ := arC_out (rd_l (.int .u8)) h
  clear h
  subst e1
  have h := hq
  clear hq
  obtain ⟨hpre, h⟩ := chk_o h
  exact ⟨_, _, h, Nat.le_of_ble_eq_true (show Nat.ble 1 Try.f128.ntmps = true by kernel_rfl), _, run_impl_twoOf b hpre⟩

def wordAt (b : List Int) (i : Nat) : Word := ⟨b.getD i 0 * 256 + b.getD (i + 1) 0, true, ⟨b.getD (i + 3) 0 * 256 + b.getD (i + 4) 0, b.getD (i + 5) 0 * 256 + b.getD (i + 6) 0, b.getD (i + 7) 0, b.getD (i + 8) 0⟩⟩
def wordOf (b : List Int) (a : Int) : Option (Word × Int) :=
  if inR a 0 (b.length - 3) then
    (if b.getD (a.toNat + 2) 0 = 0 then some (⟨b.getD a.toNat 0 * 256 + b.getD (a.toNat + 1) 0, false, ⟨0, 0, 0, 0⟩⟩, a + 3)
     else if b.getD (a.toNat + 2) 0 = 1 ∧ a + 9 ≤ b.length ∧ wordOk (wordAt b a.toNat) = true then some (wordAt b a.toNat, a + 9) else none)
  else none
def wordOfT (o : Option (Word × Int)) : Tree := .tup [.g ((o.getD (⟨0, false, ⟨0, 0, 0, 0⟩⟩, 0)).1.tc []), .c (.int .i64 (o.getD (⟨0, false, ⟨0, 0, 0, 0⟩⟩, 0)).2), .c (.bool o.isSome)]
theorem wordOf_out {b : List Int} {a : Int} (h : inR a 0 (b.length - 3) = false) : wordOf b a = none := by simp [wordOf, h]
theorem wordOf_plain {b : List Int} {a : Int} (h : inR a 0 (b.length - 3) = true) (h2 : b.getD (a.toNat + 2) 0 = 0) : wordOf b a = some (⟨b.getD a.toNat 0 * 256 + b.getD (a.toNat + 1) 0, false, ⟨0, 0, 0, 0⟩⟩, a + 3) := by simp only [wordOf, h, h2, if_true]
theorem wordOf_key {b : List Int} {a : Int} (h : inR a 0 (b.length - 3) = true) (h2 : b.getD (a.toNat + 2) 0 = 1) (h3 : a + 9 ≤ b.length) (h4 : wordOk (wordAt b a.toNat) = true) : wordOf b a = some (wordAt b a.toNat, a + 9) := by
  simp only [wordOf, h, h2, h3, h4, if_true]; rfl
theorem wordOf_no {b : List Int} {a : Int} (h2 : b.getD (a.toNat + 2) 0 ≠ 0) (h3 : ¬ (b.getD (a.toNat + 2) 0 = 1 ∧ a + 9 ≤ b.length ∧ wordOk (wordAt b a.toNat) = true)) : wordOf b a = none := by
  simp only [wordOf, h2, h3, if_false]; simp
theorem strI_inj {xs ys : List Int} (hx : U8s xs) (hy : U8s ys) (h : strI xs = strI ys) : xs = ys := by
  have h1 : xs.map (fun n => UInt8.ofNat n.toNat) = ys.map (fun n => UInt8.ofNat n.toNat) := by
    have := congrArg (fun s => s.data.toList) h
    simpa [strI] using this
  clear h
  induction xs generalizing ys with
  | nil => cases ys with
    | nil => rfl
    | cons y ys => simp at h1
  | cons x xs ih => cases ys with
    | nil => simp at h1
    | cons y ys =>
      simp only [List.map_cons, List.cons.injEq] at h1
      have e := ih (fun z hz => hx z (by simp [hz])) (fun z hz => hy z (by simp [hz])) h1.2
      have a1 := hx x (by simp)
      have a2 := hy y (by simp)
      have h2 := congrArg UInt8.toNat h1.1
      simp only [UInt8.toNat_ofNat'] at h2
      rw [e, show x = y by omega]
theorem beqS (a b : ByteArray) : (a == b) = decide (a = b) := by
  obtain ⟨a⟩ := a
  obtain ⟨b⟩ := b
  rw [Bool.eq_iff_iff]
  simp only [decide_eq_true_eq, ByteArray.mk.injEq]
  show (a == b) = true ↔ _
  exact beq_iff_eq
theorem strI_eq {xs ys : List Int} (hx : U8s xs) (hy : U8s ys) : (strI xs == strI ys) = decide (xs = ys) := by
  rw [beqS, Bool.eq_iff_iff]; simp only [decide_eq_true_eq]
  exact ⟨strI_inj hx hy, fun h => by rw [h]⟩
theorem wordBytes_u8 (w : Word) : U8s (wordBytes w) := by
  intro x hx
  unfold wordBytes at hx
  split at hx
  · rename_i h
    have hn := wordOk_n h
    split at hx
    · rename_i h2
      have hk := wordOk_key h h2
      simp at hx
      omega
    · simp at hx
      omega
  · cases hx
theorem win3 {b : List Int} {a : Nat} (h : a + 3 ≤ b.length) : win b a 3 = [b.getD a 0, b.getD (a + 1) 0, b.getD (a + 2) 0] := by
  apply List.ext_getElem
  · rw [win_len h]; rfl
  · intro i h1 h2
    have hi : i < 3 := by simpa using h2
    have e := win_at (b := b) (o := a) hi
    rw [List.getD_eq_getElem?_getD, List.getElem?_eq_getElem h1, Option.getD_some] at e
    rw [e]
    match i, hi with
    | 0, _ => rfl
    | 1, _ => rfl
    | 2, _ => rfl
theorem win9 {b : List Int} {a : Nat} (h : a + 9 ≤ b.length) : win b a 9 = [b.getD a 0, b.getD (a + 1) 0, b.getD (a + 2) 0, b.getD (a + 3) 0, b.getD (a + 4) 0, b.getD (a + 5) 0, b.getD (a + 6) 0, b.getD (a + 7) 0, b.getD (a + 8) 0] := by
  apply List.ext_getElem
  · rw [win_len h]; rfl
  · intro i h1 h2
    have hi : i < 9 := by simpa using h2
    have e := win_at (b := b) (o := a) hi
    rw [List.getD_eq_getElem?_getD, List.getElem?_eq_getElem h1, Option.getD_some] at e
    rw [e]
    match i, hi with
    | 0, _ => rfl
    | 1, _ => rfl
    | 2, _ => rfl
    | 3, _ => rfl
    | 4, _ => rfl
    | 5, _ => rfl
    | 6, _ => rfl
    | 7, _ => rfl
    | 8, _ => rfl
theorem wordOk_plain {b : List Int} (h : U8s b) (i j : Nat) : wordOk ⟨b.getD i 0 * 256 + b.getD j 0, false, ⟨0, 0, 0, 0⟩⟩ = true := by
  have := h.at i; have := h.at j
  generalize b.getD i 0 = x at *
  generalize b.getD j 0 = y at *
  simp [wordOk, inR]; omega
theorem wordBytes_plain {b : List Int} (h : U8s b) (i j : Nat) : wordBytes ⟨b.getD i 0 * 256 + b.getD j 0, false, ⟨0, 0, 0, 0⟩⟩ = [b.getD i 0, b.getD j 0, 0] := by
  have := h.at i; have := h.at j
  simp only [wordBytes, wordOk_plain h, if_true, Bool.false_eq_true, if_false]
  rw [show (b.getD i 0 * 256 + b.getD j 0) / 256 = b.getD i 0 by omega, show (b.getD i 0 * 256 + b.getD j 0) % 256 = b.getD j 0 by omega]
theorem wordBytes_at {b : List Int} (h : U8s b) {a : Nat} (hw : wordOk (wordAt b a) = true) : wordBytes (wordAt b a) = [b.getD a 0, b.getD (a + 1) 0, 1, b.getD (a + 3) 0, b.getD (a + 4) 0, b.getD (a + 5) 0, b.getD (a + 6) 0, b.getD (a + 7) 0, b.getD (a + 8) 0] := by
  have := h.at a; have := h.at (a + 1); have := h.at (a + 3); have := h.at (a + 4); have := h.at (a + 5); have := h.at (a + 6)
  unfold wordBytes
  rw [if_pos hw]
  simp only [wordAt, if_true]
  rw [show (b.getD a 0 * 256 + b.getD (a + 1) 0) / 256 = b.getD a 0 by omega, show (b.getD a 0 * 256 + b.getD (a + 1) 0) % 256 = b.getD (a + 1) 0 by omega,
    show (b.getD (a + 3) 0 * 256 + b.getD (a + 4) 0) / 256 = b.getD (a + 3) 0 by omega, show (b.getD (a + 3) 0 * 256 + b.getD (a + 4) 0) % 256 = b.getD (a + 4) 0 by omega,
    show (b.getD (a + 5) 0 * 256 + b.getD (a + 6) 0) / 256 = b.getD (a + 5) 0 by omega, show (b.getD (a + 5) 0 * 256 + b.getD (a + 6) 0) % 256 = b.getD (a + 6) 0 by omega]

def pf_impl_WordOf : PF := ⟨[.c 4 true 6, .t 5, .t 6], .seq (.reg [.s (.alloc 4 [.int .i64 0, .ff, .int .i64 0, .int .i64 0, .int .i64 0, .int .i64 0]), .s (.mv 5 (.k (.v (.c (.int .i64 0))))), .s (.mv 6 (.k (.v (.c .ff))))]) (.seq (.seq (.reg [.s (.mv 9 (.t 1)), .s (.mv 10 (.t 0)), .s (.len 11 false (.t 10)), .s (.bin 12 .sub (.t 11) (.k (.v (.c (.int .i64 3))))), .s (.call (some 13) 103 [(.t 9), (.k (.v (.c (.int .i64 0)))), (.t 12)]), .s (.bnot 14 (.t 13))]) (.cond (.t 14) (.seq (.reg [.s (.build 15 [.int .i64 0, .ff, .int .i64 0, .int .i64 0, .int .i64 0, .int .i64 0] []), .s (.store 6 (.t 4) (.t 15)), .s (.mv 5 (.k (.v (.c (.int .i64 0))))), .s (.mv 6 (.k (.v (.c .ff))))]) (.ret)) (.skip))) (.seq (.reg [.s (.mv 16 (.t 0)), .s (.mv 17 (.t 1)), .s (.slc 18 (.int .u8) (.t 16) (some (.t 17)) none), .s (.mv 7 (.t 18))]) (.seq (.reg [.s (.mv 19 (.t 7)), .s (.call (some 20) 128 [(.t 19)]), .s (.build 21 [.int .i64 0, .ff, .int .i64 0, .int .i64 0, .int .i64 0, .int .i64 0] [(0, 1, (.t 20))]), .s (.alloc 8 [.int .i64 0, .ff, .int .i64 0, .int .i64 0, .int .i64 0, .int .i64 0]), .s (.store 6 (.t 8) (.t 21))]) (.seq (.blk 0 (.seq (.reg [.s (.mv 23 (.t 7)), .s (.ia 24 (.int .u8) (.t 23) (.k (.v (.c (.int .i64 2))))), .s (.load 25 false 1 (.t 24)), .s (.bin 26 .eql (.t 25) (.k (.v (.c (.int .u8 0))))), .s (.mv 22 (.t 26))]) (.cond (.t 22) (.seq (.reg [.s (.load 27 true 6 (.t 8)), .s (.mv 28 (.t 1)), .s (.bin 29 .add (.t 28) (.k (.v (.c (.int .i64 3))))), .s (.store 6 (.t 4) (.t 27)), .s (.mv 5 (.t 29)), .s (.mv 6 (.k (.v (.c .tt))))]) (.ret)) (.seq (.reg [.s (.mv 31 (.t 7)), .s (.ia 32 (.int .u8) (.t 31) (.k (.v (.c (.int .i64 2))))), .s (.load 33 false 1 (.t 32)), .s (.bin 34 .neq (.t 33) (.k (.v (.c (.int .u8 1))))), .s (.mv 35 (.t 34)), .g 35 false (some 36) (.mv 36 (.t 7)), .g 35 false (some 37) (.len 37 false (.t 36)), .g 35 false (some 38) (.bin 38 .lss (.t 37) (.k (.v (.c (.int .i64 9))))), .s (.pick 39 (.t 35) (.k (.v (.c .tt))) (.t 38)), .s (.mv 30 (.t 39))]) (.cond (.t 30) (.seq (.reg [.s (.build 40 [.int .i64 0, .ff, .int .i64 0, .int .i64 0, .int .i64 0, .int .i64 0] []), .s (.store 6 (.t 4) (.t 40)), .s (.mv 5 (.k (.v (.c (.int .i64 0))))), .s (.mv 6 (.k (.v (.c .ff))))]) (.ret)) (.skip)))))) (.seq (.reg [.s (.fa 41 (.t 8) 1), .s (.store 1 (.t 41) (.k (.v (.c .tt))))]) (.seq (.rgd [.s (.mv 42 (.t 7)), .s (.slc 43 (.int .u8) (.t 42) (some (.k (.v (.c (.int .i64 3))))) none), .s (.call (some 44) 128 [(.t 43)]), .s (.mv 45 (.t 7)), .s (.slc 46 (.int .u8) (.t 45) (some (.k (.v (.c (.int .i64 5))))) none), .s (.call (some 47) 128 [(.t 46)]), .s (.mv 48 (.t 7)), .s (.ia 49 (.int .u8) (.t 48) (.k (.v (.c (.int .i64 7))))), .s (.load 50 false 1 (.t 49)), .s (.conv 51 .i64 (.t 50)), .s (.mv 52 (.t 7)), .s (.ia 53 (.int .u8) (.t 52) (.k (.v (.c (.int .i64 8))))), .s (.load 54 false 1 (.t 53)), .s (.conv 55 .i64 (.t 54)), .s (.build 56 [.int .i64 0, .int .i64 0, .int .i64 0, .int .i64 0] [(0, 1, (.t 44)), (1, 1, (.t 47)), (2, 1, (.t 51)), (3, 1, (.t 55))]), .s (.fa 57 (.t 8) 2), .s (.store 4 (.t 57) (.t 56))] (.tk 0 (.tk 3 (.tk 6 (.tk 7 (.tk 8 (.tk 9 (.tk 10 (.tk 11 (.tk 12 (.tk 13 (.alt 1 false (.alt 2 false (.one 4 false (.one 5 false (.tk 14 (.tk 15 (.one 16 true (.done (some [1, 4, 8]))))))) (.alt 4 false (.one 2 false (.one 5 false (.tk 14 (.tk 15 (.one 16 true (.done (some [1, 4, 8]))))))) (.nil))) (.alt 4 false (.one 1 false (.one 2 false (.one 5 false (.tk 14 (.tk 15 (.one 16 true (.done (some [1, 4, 8])))))))) (.nil)))))))))))))) (.seq (.seq (.reg [.s (.load 58 true 6 (.t 8)), .s (.call (some 59) 66 [(.t 58)]), .s (.bnot 60 (.t 59))]) (.cond (.t 60) (.seq (.reg [.s (.build 61 [.int .i64 0, .ff, .int .i64 0, .int .i64 0, .int .i64 0, .int .i64 0] []), .s (.store 6 (.t 4) (.t 61)), .s (.mv 5 (.k (.v (.c (.int .i64 0))))), .s (.mv 6 (.k (.v (.c .ff))))]) (.ret)) (.skip))) (.seq (.reg [.s (.load 62 true 6 (.t 8)), .s (.mv 63 (.t 1)), .s (.bin 64 .add (.t 63) (.k (.v (.c (.int .i64 9))))), .s (.store 6 (.t 4) (.t 62)), .s (.mv 5 (.t 64)), .s (.mv 6 (.k (.v (.c .tt))))]) (.ret)))))))))⟩
def c_impl_WordOf : Fun := ⟨81, [], fun ts K => as2 ts fun t0 t1 => arC (pL (.int .u8)) t0 fun b => arC (pI .i64) t1 fun at_ => chk (b.length ≤ 1048576 ∧ U8s b ∧ wfI .i64 at_) (K (wordOfT (wordOf b at_)) [])⟩
theorem run_impl_WordOf (b : List (FT.Ty (.int .u8))) (at_ : Int) (hpre : b.length ≤ 1048576 ∧ U8s b ∧ wfI .i64 at_) : runK [c_impl_WordOk, c_impl_in, c_impl_twoOf] (0) [] pf_impl_WordOf [tL false (.int .u8) b, tI .i64 at_] fun r o => r = wordOfT (wordOf b at_) ∧ o = [] := by
  obtain ⟨l1, l2, l3⟩ := hpre
  conv => whnf
  rw [wrap_id (n := (b.length : Int) - 3) (by omega) (by omega)]
  refine sel_i (fun h => ?_) (fun h => ?_)
  · conv => whnf
    rw [wordOf_out (by simpa using h)]
    exact ⟨rfl, rfl⟩
  have hr : inR at_ 0 (b.length - 3) = true := by simpa using h
  clear h
  have hb : 0 ≤ at_ ∧ at_ ≤ b.length - 3 := by simpa [inR] using hr
  clear l3
  obtain ⟨a, rfl⟩ := Int.eq_ofNat_of_zero_le hb.1
  have e1 : ((b.length : Int) - (a : Int)).toNat = b.length - a := by omega
  conv => whnf
  repeat' (first | (refine sel_i (fun h => ?_) (fun h => ?_) <;> conv => whnf) | (refine chk_c ?_ ?_ <;> conv => whnf) | (refine And.intro ?_ rfl) | (refine And.intro ?_ ?_ <;> conv => whnf))
  all_goals simp only [e1, zu8, tn2, tn3, tn5, tn7, tn8, Nat.zero_add, Int.toNat_natCast, etaKey, etaWord, beqI, decide_eq_true_eq, decide_eq_false_iff_not] at *
  all_goals first
    | (refine ⟨?_⟩; omega)
    | (refine ⟨?_⟩; exact ⟨by rw [win_len (by omega)]; omega, l2.win _ _⟩)
    | (rw [win_at (by omega), win_at (by omega), wrap_id (n := (a : Int) + 3) (by omega) (by omega), wordOf_plain hr (by assumption)]; rfl)
    | (rename_i g1
       rw [wordOf_no (b := b) (a := (a : Int)) g1 (fun q => by have := q.1; simp only [Int.toNat_natCast] at this; rw [this] at h; cases h)]; rfl)
    | (rename_i g1 g2; rw [wordOf_no (b := b) (a := (a : Int)) g1 (fun q => by omega)]; rfl)
    | skip
  all_goals
    (rename_i g1 g2 g3
     have g2 : b.getD (a + 2) 0 = 1 := by simpa using g2
     rw [wrap_id (n := b.getD (a + 7) 0) (by have := l2.at (a + 7); omega) (by have := l2.at (a + 7); omega), wrap_id (n := b.getD (a + 8) 0) (by have := l2.at (a + 8); omega) (by have := l2.at (a + 8); omega)] at h
     simp (disch := omega) only [win_at] at h)
  · have h' : (!wordOk (wordAt b a)) = true := h
    rw [wordOf_no (b := b) (a := (a : Int)) g1 (fun q => by have := q.2.2; simp only [Int.toNat_natCast] at this; rw [this] at h'; cases h')]; rfl
  · have h' : (!wordOk (wordAt b a)) = false := h
    rw [wrap_id (n := b.getD (a + 7) 0) (by have := l2.at (a + 7); omega) (by have := l2.at (a + 7); omega), wrap_id (n := b.getD (a + 8) 0) (by have := l2.at (a + 8); omega) (by have := l2.at (a + 8); omega), wrap_id (n := (a : Int) + 9) (by omega) (by omega)]
    simp (disch := omega) only [win_at]
    rw [wordOf_key hr g2 (by omega) (by simpa using h')]; rfl
theorem ok_impl_WordOf : FunOk Try.prog c_impl_WordOf := funOk (E := [c_impl_WordOk, c_impl_in, c_impl_twoOf]) (envOk_cons ok_impl_WordOk (envOk_cons ok_impl_in (envOk_cons ok_impl_twoOf (envOk_nil)))) mixd Try.func81 (pf := pf_impl_WordOf) (by kernel_rfl) fun ts K h => by
  obtain ⟨t0, t1, e0, h⟩ := as2_out h
  subst e0
  obtain ⟨b, e1, hq⟩ := arC_out (rd_l (.int .u8)) h
  clear h
  subst e1
  have h := hq
  clear hq
  obtain ⟨at_, e1, hq⟩ := arC_out (rd_int .i64) h
  clear h
  subst e1
  have h := hq
  clear hq
  obtain ⟨hpre, h⟩ := chk_o h
  exact ⟨_, _, h, Nat.le_of_ble_eq_true (show Nat.ble 2 Try.f81.ntmps = true by kernel_rfl), _, run_impl_WordOf b at_ hpre⟩

def pf_spec_WordOf : PF := ⟨[.c 4 true 6, .t 5, .t 6], .seq (.reg [.s (.alloc 4 [.int .i64 0, .ff, .int .i64 0, .int .i64 0, .int .i64 0, .int .i64 0]), .s (.mv 5 (.k (.v (.c (.int .i64 0))))), .s (.mv 6 (.k (.v (.c .ff))))]) (.seq (.seq (.reg [.s (.mv 9 (.t 1)), .s (.bin 10 .lss (.t 9) (.k (.v (.c (.int .i64 0))))), .s (.mv 11 (.t 10)), .g 11 false (some 12) (.mv 12 (.t 1)), .g 11 false (some 13) (.mv 13 (.t 0)), .g 11 false (some 14) (.len 14 false (.t 13)), .g 11 false (some 15) (.bin 15 .sub (.t 14) (.k (.v (.c (.int .i64 3))))), .g 11 false (some 16) (.bin 16 .gtr (.t 12) (.t 15)), .s (.pick 17 (.t 11) (.k (.v (.c .tt))) (.t 16))]) (.cond (.t 17) (.seq (.reg [.s (.build 18 [.int .i64 0, .ff, .int .i64 0, .int .i64 0, .int .i64 0, .int .i64 0] []), .s (.store 6 (.t 4) (.t 18)), .s (.mv 5 (.k (.v (.c (.int .i64 0))))), .s (.mv 6 (.k (.v (.c .ff))))]) (.ret)) (.skip))) (.seq (.rgd [.s (.mv 19 (.t 0)), .s (.mv 20 (.t 1)), .s (.ia 21 (.int .u8) (.t 19) (.t 20)), .s (.load 22 false 1 (.t 21)), .s (.conv 23 .i64 (.t 22)), .s (.bin 24 .shl (.t 23) (.k (.v (.c (.int .u64 8))))), .s (.mv 25 (.t 0)), .s (.mv 26 (.t 1)), .s (.bin 27 .add (.t 26) (.k (.v (.c (.int .i64 1))))), .s (.ia 28 (.int .u8) (.t 25) (.t 27)), .s (.load 29 false 1 (.t 28)), .s (.conv 30 .i64 (.t 29)), .s (.bin 31 .or (.t 24) (.t 30)), .s (.build 32 [.int .i64 0, .ff, .int .i64 0, .int .i64 0, .int .i64 0, .int .i64 0] [(0, 1, (.t 31))]), .s (.alloc 7 [.int .i64 0, .ff, .int .i64 0, .int .i64 0, .int .i64 0, .int .i64 0]), .s (.store 6 (.t 7) (.t 32))] (.tk 0 (.tk 1 (.tk 2 (.tk 3 (.tk 4 (.tk 5 (.tk 6 (.tk 7 (.tk 8 (.tk 9 (.tk 10 (.tk 11 (.tk 12 (.tk 13 (.one 14 false (.one 15 true (.done none)))))))))))))))))) (.seq (.reg [.s (.mv 33 (.t 1)), .s (.bin 34 .add (.t 33) (.k (.v (.c (.int .i64 3))))), .s (.mv 8 (.t 34))]) (.seq (.seq (.reg [.s (.mv 35 (.t 0)), .s (.mv 36 (.t 1)), .s (.bin 37 .add (.t 36) (.k (.v (.c (.int .i64 2))))), .s (.ia 38 (.int .u8) (.t 35) (.t 37)), .s (.load 39 false 1 (.t 38)), .s (.bin 40 .neq (.t 39) (.k (.v (.c (.int .u8 0)))))]) (.cond (.t 40) (.seq (.seq (.reg [.s (.mv 41 (.t 1)), .s (.mv 42 (.t 0)), .s (.len 43 false (.t 42)), .s (.bin 44 .sub (.t 43) (.k (.v (.c (.int .i64 9))))), .s (.bin 45 .gtr (.t 41) (.t 44))]) (.cond (.t 45) (.seq (.reg [.s (.build 46 [.int .i64 0, .ff, .int .i64 0, .int .i64 0, .int .i64 0, .int .i64 0] []), .s (.store 6 (.t 4) (.t 46)), .s (.mv 5 (.k (.v (.c (.int .i64 0))))), .s (.mv 6 (.k (.v (.c .ff))))]) (.ret)) (.skip))) (.seq (.reg [.s (.fa 47 (.t 7) 1), .s (.store 1 (.t 47) (.k (.v (.c .tt))))]) (.seq (.rgd [.s (.mv 48 (.t 0)), .s (.mv 49 (.t 1)), .s (.bin 50 .add (.t 49) (.k (.v (.c (.int .i64 3))))), .s (.ia 51 (.int .u8) (.t 48) (.t 50)), .s (.load 52 false 1 (.t 51)), .s (.conv 53 .i64 (.t 52)), .s (.bin 54 .shl (.t 53) (.k (.v (.c (.int .u64 8))))), .s (.mv 55 (.t 0)), .s (.mv 56 (.t 1)), .s (.bin 57 .add (.t 56) (.k (.v (.c (.int .i64 4))))), .s (.ia 58 (.int .u8) (.t 55) (.t 57)), .s (.load 59 false 1 (.t 58)), .s (.conv 60 .i64 (.t 59)), .s (.bin 61 .or (.t 54) (.t 60)), .s (.mv 62 (.t 0)), .s (.mv 63 (.t 1)), .s (.bin 64 .add (.t 63) (.k (.v (.c (.int .i64 5))))), .s (.ia 65 (.int .u8) (.t 62) (.t 64)), .s (.load 66 false 1 (.t 65)), .s (.conv 67 .i64 (.t 66)), .s (.bin 68 .shl (.t 67) (.k (.v (.c (.int .u64 8))))), .s (.mv 69 (.t 0)), .s (.mv 70 (.t 1)), .s (.bin 71 .add (.t 70) (.k (.v (.c (.int .i64 6))))), .s (.ia 72 (.int .u8) (.t 69) (.t 71)), .s (.load 73 false 1 (.t 72)), .s (.conv 74 .i64 (.t 73)), .s (.bin 75 .or (.t 68) (.t 74)), .s (.mv 76 (.t 0)), .s (.mv 77 (.t 1)), .s (.bin 78 .add (.t 77) (.k (.v (.c (.int .i64 7))))), .s (.ia 79 (.int .u8) (.t 76) (.t 78)), .s (.load 80 false 1 (.t 79)), .s (.conv 81 .i64 (.t 80)), .s (.mv 82 (.t 0)), .s (.mv 83 (.t 1)), .s (.bin 84 .add (.t 83) (.k (.v (.c (.int .i64 8))))), .s (.ia 85 (.int .u8) (.t 82) (.t 84)), .s (.load 86 false 1 (.t 85)), .s (.conv 87 .i64 (.t 86)), .s (.build 88 [.int .i64 0, .int .i64 0, .int .i64 0, .int .i64 0] [(0, 1, (.t 61)), (1, 1, (.t 75)), (2, 1, (.t 81)), (3, 1, (.t 87))]), .s (.fa 89 (.t 7) 2), .s (.store 4 (.t 89) (.t 88))] (.tk 0 (.tk 1 (.tk 2 (.tk 3 (.tk 4 (.tk 5 (.tk 6 (.tk 7 (.tk 8 (.tk 9 (.tk 10 (.tk 11 (.tk 12 (.tk 13 (.tk 14 (.tk 15 (.tk 16 (.tk 17 (.tk 18 (.tk 19 (.tk 20 (.tk 21 (.tk 22 (.tk 23 (.tk 24 (.tk 25 (.tk 26 (.tk 27 (.tk 28 (.tk 29 (.tk 30 (.tk 31 (.tk 32 (.tk 33 (.tk 34 (.tk 35 (.tk 36 (.tk 37 (.tk 38 (.tk 39 (.tk 40 (.tk 41 (.one 42 true (.done none))))))))))))))))))))))))))))))))))))))))))))) (.reg [.s (.mv 90 (.t 1)), .s (.bin 91 .add (.t 90) (.k (.v (.c (.int .i64 9))))), .s (.mv 8 (.t 91))])))) (.skip))) (.seq (.seq (.rgd [.s (.load 92 true 6 (.t 7)), .s (.call (some 93) 64 [(.t 92)]), .s (.bnot 94 (.t 93)), .s (.mv 95 (.t 94)), .g 95 false (some 96) (.load 96 true 6 (.t 7)), .g 95 false (some 97) (.call (some 97) 13 [(.t 96)]), .g 95 false (some 98) (.b2s 98 (.t 97)), .g 95 false (some 99) (.mv 99 (.t 0)), .g 95 false (some 100) (.mv 100 (.t 1)), .g 95 false (some 101) (.mv 101 (.t 8)), .g 95 false (some 102) (.slc 102 (.int .u8) (.t 99) (some (.t 100)) (some (.t 101))), .g 95 false (some 103) (.b2s 103 (.t 102)), .g 95 false (some 104) (.eqs 104 false [.s] true (.t 98) (.t 103)), .s (.pick 105 (.t 95) (.k (.v (.c .tt))) (.t 104))] (.tk 0 (.one 1 true (.tk 2 (.tk 3 (.tk 4 (.tk 7 (.tk 8 (.tk 9 (.alt 5 false (.alt 6 false (.one 10 false (.one 11 false (.tk 12 (.tk 13 (.done (some [4, 7, 8, 105])))))) (.alt 10 false (.alt 6 false (.one 11 false (.tk 12 (.tk 13 (.done (some [4, 7, 8, 105]))))) (.alt 11 false (.one 6 true (.tk 12 (.tk 13 (.done (some [4, 7, 8, 105]))))) (.nil))) (.nil))) (.alt 10 false (.alt 5 false (.alt 6 false (.one 11 false (.tk 12 (.tk 13 (.done (some [4, 7, 8, 105]))))) (.alt 11 false (.one 6 true (.tk 12 (.tk 13 (.done (some [4, 7, 8, 105]))))) (.nil))) (.alt 11 false (.one 5 true (.one 6 true (.tk 12 (.tk 13 (.done (some [4, 7, 8, 105])))))) (.nil))) (.nil)))))))))))) (.cond (.t 105) (.seq (.reg [.s (.build 106 [.int .i64 0, .ff, .int .i64 0, .int .i64 0, .int .i64 0, .int .i64 0] []), .s (.store 6 (.t 4) (.t 106)), .s (.mv 5 (.k (.v (.c (.int .i64 0))))), .s (.mv 6 (.k (.v (.c .ff))))]) (.ret)) (.skip))) (.seq (.reg [.s (.load 107 true 6 (.t 7)), .s (.mv 108 (.t 8)), .s (.store 6 (.t 4) (.t 107)), .s (.mv 5 (.t 108)), .s (.mv 6 (.k (.v (.c .tt))))]) (.ret)))))))⟩
def c_spec_WordOf : Fun := ⟨80, [], fun ts K => as2 ts fun t0 t1 => arC (pL (.int .u8)) t0 fun b => arC (pI .i64) t1 fun at_ => chk (b.length ≤ 1048576 ∧ U8s b ∧ wfI .i64 at_) (K (wordOfT (wordOf b at_)) [])⟩
theorem run_spec_WordOf (b : List (FT.Ty (.int .u8))) (at_ : Int) (hpre : b.length ≤ 1048576 ∧ U8s b ∧ wfI .i64 at_) : runK [c_spec_WordBytes, c_spec_WordOk] (0) [] pf_spec_WordOf [tL false (.int .u8) b, tI .i64 at_] fun r o => r = wordOfT (wordOf b at_) ∧ o = [] := by
  obtain ⟨l1, l2, l3⟩ := hpre
  conv => whnf
  refine sel_i (fun h => ?_) (fun h => ?_)
  · conv => whnf
    rw [wordOf_out (by simp [inR]; simp at h; omega)]
    exact ⟨rfl, rfl⟩
  simp only [decide_eq_false_iff_not, Int.not_lt] at h
  obtain ⟨a, rfl⟩ := Int.eq_ofNat_of_zero_le h
  conv => whnf
  rw [wrap_id (n := (b.length : Int) - 3) (by omega) (by omega)]
  refine sel_i (fun h2 => ?_) (fun h2 => ?_)
  · conv => whnf
    rw [wordOf_out (by simp [inR]; simp at h2; omega)]
    exact ⟨rfl, rfl⟩
  have hb : (a : Int) ≤ b.length - 3 := by simpa using h2
  have hr : inR (a : Int) 0 (b.length - 3) = true := by simp [inR]; omega
  clear h h2
  have w9 : IntKind.i64.wrap ((b.length : Int) - 9) = (b.length : Int) - 9 := wrap_id (by omega) (by omega)
  have w7 : IntKind.i64.wrap (b.getD (a + 7) 0) = b.getD (a + 7) 0 := wrap_id (by have := l2.at (a + 7); omega) (by have := l2.at (a + 7); omega)
  have w8 : IntKind.i64.wrap (b.getD (a + 8) 0) = b.getD (a + 8) 0 := wrap_id (by have := l2.at (a + 8); omega) (by have := l2.at (a + 8); omega)
  have c9 : (strI (wordBytes (wordAt b a)) == strI (win b a 9)) = decide (wordBytes (wordAt b a) = win b a 9) := by rw [strI_eq (wordBytes_u8 _) (l2.win _ _)]
  have c3 : (strI (wordBytes ⟨b.getD a 0 * 256 + b.getD (a + 1) 0, false, ⟨0, 0, 0, 0⟩⟩) == strI (win b a 3)) = decide (wordBytes ⟨b.getD a 0 * 256 + b.getD (a + 1) 0, false, ⟨0, 0, 0, 0⟩⟩ = win b a 3) := by rw [strI_eq (wordBytes_u8 _) (l2.win _ _)]
  have ew : (⟨b.getD a 0 * 256 + b.getD (a + 1) 0, true, ⟨b.getD (a + 3) 0 * 256 + b.getD (a + 4) 0, b.getD (a + 5) 0 * 256 + b.getD (a + 6) 0, b.getD (a + 7) 0, b.getD (a + 8) 0⟩⟩ : Word) = wordAt b a := rfl
  conv => whnf
  repeat' (first | (refine sel_i (fun h => ?_) (fun h => ?_) <;> conv => whnf) | (refine chk_c ?_ ?_ <;> conv => whnf) | (refine And.intro ?_ rfl) | (refine And.intro ?_ ?_ <;> conv => whnf))
  all_goals (try simp only [w9, zu8, Int.toNat_natCast, orI_eq, etaKey, etaWord, wrap_id (n := (a : Int) + 1) (by omega) (by omega), wrap_id (n := (a : Int) + 2) (by omega) (by omega), wrap_id (n := (a : Int) + 3) (by omega) (by omega), wrap_id (n := (a : Int) + 4) (by omega) (by omega), wrap_id (n := (a : Int) + 5) (by omega) (by omega), wrap_id (n := (a : Int) + 6) (by omega) (by omega), wrap_id (n := (a : Int) + 7) (by omega) (by omega), wrap_id (n := (a : Int) + 8) (by omega) (by omega), wrap_id (n := (a : Int) + 9) (by omega) (by omega)] at *)
  all_goals (try simp only [show ((a : Int) + 1).toNat = a + 1 by omega, show ((a : Int) + 2).toNat = a + 2 by omega, show ((a : Int) + 3).toNat = a + 3 by omega, show ((a : Int) + 4).toNat = a + 4 by omega, show ((a : Int) + 5).toNat = a + 5 by omega, show ((a : Int) + 6).toNat = a + 6 by omega, show ((a : Int) + 7).toNat = a + 7 by omega, show ((a : Int) + 8).toNat = a + 8 by omega] at *)
  all_goals (try simp only [two8 (l2.at _) (l2.at _)] at *)
  all_goals (try simp only [w7, w8, Nat.zero_add, show ((a : Int) + 9 - a).toNat = 9 by omega, show ((a : Int) + 3 - a).toNat = 3 by omega] at *)
  all_goals (try simp only [ew] at *)
  all_goals (try simp only [c9, c3, decide_eq_true_eq, decide_eq_false_iff_not, bne_iff_ne, bne_eq_false_iff_eq, Bool.not_eq_true', Bool.not_eq_false'] at *)
  all_goals try (refine ⟨?_⟩; first | omega | decide)
  · rw [wordOf_no (b := b) (a := (a : Int)) h (fun q => by omega)]; rfl
  · rename_i g1 g2
    rw [wordOf_no (b := b) (a := (a : Int)) g2 (fun q => by have := q.2.2; simp only [Int.toNat_natCast] at this; rw [this] at h; cases h)]; rfl
  · rename_i g1 g2 g3
    rw [wordOf_no (b := b) (a := (a : Int)) g2 (fun q => h (by rw [wordBytes_at l2 g3, win9 (by omega), show b.getD (a + 2) 0 = 1 from q.1]))]; rfl
  · rename_i g1 g2 g3
    rw [wordBytes_at l2 g3, win9 (by omega)] at h
    have g4 : b.getD (a + 2) 0 = 1 := by
      simp only [List.cons.injEq] at h
      exact h.2.2.1.symm
    rw [wordOf_key hr g4 (by omega) g3]; rfl
  · rename_i g1
    rw [wordOk_plain l2] at h; cases h
  · rename_i g1 g2
    exact absurd (by rw [wordBytes_plain l2, win3 (by omega), g1]) h
  · rename_i g1 g2
    rw [wordOf_plain hr g1]; rfl
theorem ok_spec_WordOf : FunOk Try.prog c_spec_WordOf := funOk (E := [c_spec_WordBytes, c_spec_WordOk]) (envOk_cons ok_spec_WordBytes (envOk_cons ok_spec_WordOk (envOk_nil))) mixd Try.func80 (pf := pf_spec_WordOf) (by kernel_rfl) fun ts K h => by
  obtain ⟨t0, t1, e0, h⟩ := as2_out h
  subst e0
  obtain ⟨b, e1, hq⟩ := arC_out (rd_l (.int .u8)) h
  clear h
  subst e1
  have h := hq
  clear hq
  obtain ⟨at_, e1, hq⟩ := arC_out (rd_int .i64) h
  clear h
  subst e1
  have h := hq
  clear hq
  obtain ⟨hpre, h⟩ := chk_o h
  exact ⟨_, _, h, Nat.le_of_ble_eq_true (show Nat.ble 2 Try.f80.ntmps = true by kernel_rfl), _, run_spec_WordOf b at_ hpre⟩


def filt (f : Nat → Bool) (n : Nat) : List Int := ((List.range n).filter f).map (fun c : Nat => (c : Int))
theorem filt_yes {f : Nat → Bool} {n : Nat} (h : f n = true) : filt f (n + 1) = filt f n ++ [(n : Int)] := by simp [filt, List.range_succ, List.filter_append, h]
theorem filt_no {f : Nat → Bool} {n : Nat} (h : f n = false) : filt f (n + 1) = filt f n := by simp [filt, List.range_succ, List.filter_append, h]
theorem filt_len (f : Nat → Bool) (n : Nat) : (filt f n).length ≤ n := by
  have := List.length_filter_le f (List.range n)
  simp [filt] at this ⊢; exact this
theorem filt_congr {f g : Nat → Bool} {n : Nat} (h : ∀ c, c < n → f c = g c) : filt f n = filt g n := by
  unfold filt
  congr 1
  apply List.filter_congr
  intro c hc
  exact h c (by simpa using hc)
def coverP (ws : List Word) (p : Int) (c : Nat) : Bool := ws.any (fun w => hasP w p && inR c w.key.base (w.key.top - 1))
def cellsBy (m : Mem) (l : List Word) (p : Int) : List Int := filt (coverP (closure m l) p) 24
theorem any_take {α : Type} (p : α → Bool) {xs : List α} {i : Nat} (z : α) (h : i < xs.length) : (xs.take (i + 1)).any p = ((xs.take i).any p || p (xs.getD i z)) := by
  have e : xs.getD i z = xs[i] := by simp [List.getD_eq_getElem?_getD, h]
  rw [List.take_add_one, List.getElem?_eq_getElem h, List.any_append, e]; simp
theorem getD_set {α : Type} (xs : List α) (i j : Nat) (v d : α) (h : j < xs.length) : (xs.set i v).getD j d = if i = j then v else xs.getD j d := by
  simp only [List.getD_eq_getElem?_getD, List.getElem?_set]
  by_cases e : i = j
  · subst e; simp [h]
  · simp [e]
theorem rep_getD {α : Type} {n c : Nat} {x d : α} (h : c < n) : (List.replicate n x).getD c d = x := by
  simp only [List.getD_eq_getElem?_getD, List.getElem?_replicate, if_pos h, Option.getD_some]


def heldW (s : Side) : List Word := s.regs ++ [s.pc]
def meetI (a b : List Int) : Bool := a.any (fun n => b.any (fun x => n == x))
def crossesB (m : Mem) (a b : List Word) : Bool := meetI (cellsBy m a 2) (cellsBy m b 1 ++ cellsBy m b 2)
def apartB (t : Two) : Bool := twoOk t && !canSeal t.mem (heldW t.a) && !canSeal t.mem (heldW t.b) && (!crossesB t.mem (heldW t.a) (heldW t.b) && !crossesB t.mem (heldW t.b) (heldW t.a))
theorem any_or {α : Type} (p q : α → Bool) (xs : List α) : xs.any (fun x => p x || q x) = (xs.any p || xs.any q) := by
  rw [Bool.eq_iff_iff]; simp only [List.any_eq_true, Bool.or_eq_true]
  constructor
  · rintro ⟨x, hx, h | h⟩
    · exact .inl ⟨x, hx, h⟩
    · exact .inr ⟨x, hx, h⟩
  · rintro (⟨x, hx, h⟩ | ⟨x, hx, h⟩)
    · exact ⟨x, hx, .inl h⟩
    · exact ⟨x, hx, .inr h⟩
theorem meetI_app (a b c : List Int) : meetI a (b ++ c) = (meetI a b || meetI a c) := by
  unfold meetI
  rw [← any_or]
  congr 1; funext n; rw [List.any_append]
theorem meetI_comm (a b : List Int) : meetI a b = meetI b a := by
  unfold meetI
  rw [Bool.eq_iff_iff]; simp only [List.any_eq_true, beq_iff_eq]
  constructor
  · rintro ⟨x, hx, y, hy, e⟩; exact ⟨y, hy, x, hx, e.symm⟩
  · rintro ⟨x, hx, y, hy, e⟩; exact ⟨y, hy, x, hx, e.symm⟩
theorem apart_bool (a b c d : Bool) : (!(a || b) && !(c || b)) = (!b && !a && !c) := by cases a <;> cases b <;> cases c <;> rfl
theorem apart_spec (m : Mem) (a b : List Word) : (!crossesB m a b && !crossesB m b a) = (!meetI (cellsBy m a 2) (cellsBy m b 2) && !meetI (cellsBy m a 2) (cellsBy m b 1) && !meetI (cellsBy m b 2) (cellsBy m a 1)) := by
  unfold crossesB
  rw [meetI_app, meetI_app, meetI_comm (cellsBy m b 2) (cellsBy m a 2), apart_bool _ _ _ true]
theorem cellsBy_le (m : Mem) (l : List Word) (p : Int) : (cellsBy m l p).length ≤ 24 := filt_len _ _
theorem twoOk_len {t : Two} (h : twoOk t = true) : t.a.regs.length = 8 ∧ t.b.regs.length = 8 := by
  simp only [twoOk, stateOk, Bool.and_eq_true, decide_eq_true_eq] at h
  exact ⟨h.1.1.1.1.1, h.2.1.1.1.1⟩

def pf_laws_toSpan : PF := ⟨[.c 2 true 2], .seq (.reg [.s (.box 1 (.t 0)), .s (.alloc 2 [.int .i64 0, .int .i64 0])]) (.seq (.reg [.s (.alloc 3 [.int .i64 0, .int .i64 0])]) (.seq (.reg [.s (.fa 4 (.t 1) 0), .s (.load 5 false 1 (.t 4)), .s (.fa 6 (.t 3) 0), .s (.store 1 (.t 6) (.t 5))]) (.seq (.reg [.s (.fa 7 (.t 1) 1), .s (.load 8 false 1 (.t 7)), .s (.fa 9 (.t 3) 1), .s (.store 1 (.t 9) (.t 8))]) (.seq (.reg [.s (.load 10 true 2 (.t 3)), .s (.store 2 (.t 2) (.t 10))]) (.ret)))))⟩
def c_laws_toSpan : Fun := ⟨133, [], fun ts K => as1 ts fun t0 => arG pSpanT t0 fun s => K (tG (s.tc [])) []⟩
theorem run_laws_toSpan (s : Span) : runK [] (0) [] pf_laws_toSpan [tG (s.tc [])] fun r o => r = tG (s.tc []) ∧ o = [] := by
  conv => whnf
  repeat' (first
    | exact rfl
    | exact trivial
    | (refine sel_i (fun h => ?_) (fun h => ?_) <;> conv => whnf)
    | (refine chk_c ?_ ?_ <;> conv => whnf)
    | (refine And.intro ?_ ?_ <;> conv => whnf))
theorem ok_laws_toSpan : FunOk Try.prog c_laws_toSpan := funOk (E := []) (envOk_nil) mixd Try.func133 (pf := pf_laws_toSpan) (by kernel_rfl) fun ts K h => by
  obtain ⟨t0, e0, h⟩ := as1_out h
  subst e0
  obtain ⟨s, e1, hq⟩ := arG_out rd_span h
  clear h
  subst e1
  have h := hq
  clear hq
  exact ⟨_, _, h, Nat.le_of_ble_eq_true (show Nat.ble 1 Try.f133.ntmps = true by kernel_rfl), _, run_laws_toSpan s⟩

def pf_laws_szSpanS : PF := ⟨[.t 4], .seq (.reg [.s (.mv 4 (.k (.v (.c (.int .i64 0)))))]) (.seq (.reg [.s (.mv 5 (.t 1)), .s (.mv 6 (.t 0)), .s (.len 7 false (.t 6)), .s (.bin 8 .sub (.t 5) (.t 7)), .s (.mv 1 (.t 8))]) (.seq (.seq (.reg [.s (.mv 9 (.t 1)), .s (.bin 10 .lss (.t 9) (.k (.v (.c (.int .i64 0)))))]) (.cond (.t 10) (.seq (.reg [.s (.mv 4 (.k (.v (.c (.int .i64 (-1))))))]) (.ret)) (.skip))) (.seq (.reg [.s (.mv 11 (.t 1)), .s (.mv 4 (.t 11))]) (.ret))))⟩
def c_laws_szSpanS : Fun := ⟨85, [], fun ts K => as2 ts fun t0 t1 => arC (pL .span) t0 fun a => arC (pI .i64) t1 fun k => chk (a.length ≤ 9223372036854775807 ∧ 0 ≤ k ∧ k ≤ 1048576) (K (tN (szr k a.length)) [])⟩
theorem run_laws_szSpanS (a : List (FT.Ty .span)) (k : Int) (hpre : a.length ≤ 9223372036854775807 ∧ 0 ≤ k ∧ k ≤ 1048576) : runK [] (0) [] pf_laws_szSpanS [tL false .span a, tI .i64 k] fun r o => r = tN (szr k a.length) ∧ o = [] := by
  conv => whnf
  rw [wrap_id (by omega) (by omega)]
  refine sel_i (fun h => ?_) (fun h => ?_) <;> conv => whnf
  · refine ⟨?_, rfl⟩; rw [szr_t (by simpa using h)]
  · refine ⟨?_, rfl⟩; rw [szr_f (by simpa using h)]
theorem ok_laws_szSpanS : FunOk Try.prog c_laws_szSpanS := funOk (E := []) (envOk_nil) mixd Try.func85 (pf := pf_laws_szSpanS) (by kernel_rfl) fun ts K h => by
  obtain ⟨t0, t1, e0, h⟩ := as2_out h
  subst e0
  obtain ⟨a, e1, hq⟩ := arC_out (rd_l .span) h
  clear h
  subst e1
  have h := hq
  clear hq
  obtain ⟨k, e1, hq⟩ := arC_out (rd_int .i64) h
  clear h
  subst e1
  have h := hq
  clear hq
  obtain ⟨hpre, h⟩ := chk_o h
  exact ⟨_, _, h, Nat.le_of_ble_eq_true (show Nat.ble 2 Try.f85.ntmps = true by kernel_rfl), _, run_laws_szSpanS a k hpre⟩

def lb_laws_toSpanS_0 : PC := .seq (.seq (.reg [.s (.mv 8 (.t 4)), .s (.mv 9 (.t 0)), .s (.len 10 false (.t 9)), .s (.bin 11 .lss (.t 8) (.t 10))]) (.cond (.t 11) (.skip) (.exit 0))) (.seq (.blk 1 (.reg [.s (.mv 14 (.t 3)), .s (.mv 15 (.t 4)), .s (.mv 16 (.t 0)), .s (.mv 17 (.t 4)), .s (.ia 18 .span (.t 16) (.t 17)), .s (.load 19 true 2 (.t 18)), .s (.call (some 20) 133 [(.t 19)]), .s (.ia 21 .span (.t 14) (.t 15)), .s (.store 2 (.t 21) (.t 20))])) (.reg [.s (.mv 12 (.t 4)), .s (.bin 13 .add (.t 12) (.k (.v (.c (.int .i64 1))))), .s (.mv 4 (.t 13))]))
def pf_laws_toSpanS : PF := ⟨[.t 2], .seq (.reg [.s (.mv 2 (.k (.v (.c (.nils .span)))))]) (.seq (.reg [.s (.mv 5 (.t 0)), .s (.len 6 false (.t 5)), .s (.mkS 7 .span (.t 6)), .s (.mv 3 (.t 7))]) (.seq (.seq (.reg [.s (.mv 4 (.k (.v (.c (.int .i64 0)))))]) (.blk 0 (.loop [0, 3, 4] lb_laws_toSpanS_0))) (.seq (.reg [.s (.mv 22 (.t 3)), .s (.mv 2 (.t 22))]) (.ret))))⟩
def c_laws_toSpanS : Fun := ⟨88, [], fun ts K => as1 ts fun t0 => arC (pL .span) t0 fun a => chk (a.length ≤ 2147483647) (K (tL true .span a) [])⟩
theorem run_laws_toSpanS (a : List (FT.Ty .span)) (hpre : a.length ≤ 2147483647) : runK [c_laws_toSpan] (a.length + 1) [] pf_laws_toSpanS [tL false .span a] fun r o => r = tL true .span a ∧ o = [] := by
  conv => whnf
  refine chk_i ⟨by omega, by omega⟩ ?_
  conv => whnf
  refine loop (α := Nat × List (FT.Ty .span)) (fun p => ⟨[(0, .v (.c (.sl false .span 0))), (3, .v (.c (.sl true .span 1))), (4, .v (.c (.int .i64 (p.1 : Int))))], [(1, some (.flat true .span none p.2)), (0, some (.flat false .span none a))], nums.tail.tail, [], false, []⟩)
      (fun p => p.1 ≤ a.length ∧ p.2 = a.take p.1 ++ (List.replicate a.length (FT.zero .span)).drop p.1) (fun p => a.length - p.1) (fun p R hI hR => ?_) (0, List.replicate a.length (FT.zero .span)) _ ⟨by simp, by simp⟩ (by simp)
  obtain ⟨i, xs⟩ := p
  obtain ⟨hi, hx⟩ := hI
  dsimp only at hi hx
  have hlen : xs.length = a.length := by rw [hx]; simp; omega
  dsimp only
  conv => whnf
  refine sel_i (fun h2 => ?_) (fun h2 => ?_)
  · have hlt : i < a.length := by simp at h2; omega
    have hge : a[i]? = some (a.getD i (FT.zero .span)) := by simp [List.getD_eq_getElem?_getD, hlt]
    conv => whnf
    repeat' (refine chk_c ?_ ?_ <;> conv => whnf)
    all_goals first
      | (refine ⟨?_⟩; omega)
      | (refine ⟨?_⟩; simp; done)
      | (refine ⟨?_⟩; simp; omega)
      | skip
    simp (disch := omega) only [wrap_id, Int.toNat_natCast]
    exact hR (i + 1, xs.set i (a.getD i (FT.zero .span))) ⟨by omega, by rw [hx]; exact set_mid (by simp) (by simpa using hlt) hge⟩ (by simp; omega)
  · have hge : i = a.length := by simp at h2; omega
    subst hge
    conv => whnf
    refine ⟨?_, rfl⟩
    rw [hx, List.take_of_length_le (by omega), List.drop_eq_nil_of_le (by simp), List.append_nil]
theorem ok_laws_toSpanS : FunOk Try.prog c_laws_toSpanS := funOk (E := [c_laws_toSpan]) (envOk_cons ok_laws_toSpan (envOk_nil)) mixd Try.func88 (pf := pf_laws_toSpanS) (by kernel_rfl) fun ts K h => by
  obtain ⟨t0, e0, h⟩ := as1_out h
  subst e0
  obtain ⟨a, e1, hq⟩ := arC_out (rd_l .span) h
  clear h
  subst e1
  have h := hq
  clear hq
  obtain ⟨hpre, h⟩ := chk_o h
  exact ⟨_, _, h, Nat.le_of_ble_eq_true (show Nat.ble 1 Try.f88.ntmps = true by kernel_rfl), _, run_laws_toSpanS a hpre⟩

def pf_slices_Clone_Span : PF := ⟨[.t 2], .seq (.reg [.s (.mv 2 (.k (.v (.c (.nils .span)))))]) (.seq (.seq (.reg [.s (.mv 3 (.t 0)), .s (.isnil 4 (.t 3))]) (.cond (.t 4) (.seq (.reg [.s (.mv 2 (.k (.v (.c (.nils .span)))))]) (.ret)) (.skip))) (.seq (.reg [.s (.bs 5 .span []), .s (.mv 6 (.t 0)), .s (.app 7 .span (.t 5) (.t 6)), .s (.mv 2 (.t 7))]) (.ret)))⟩
def c_slices_Clone_Span : Fun := ⟨139, [], fun ts K => as1 ts fun t0 => arC (pL .span) t0 fun a => chk (a.length ≤ 2147483647) (K (tL true .span a) [])⟩
theorem ok_slices_Clone_Span : FunOk Try.prog c_slices_Clone_Span := funOkN (E := []) envOk_nil mixd Try.func139 (pf := pf_slices_Clone_Span) (by kernel_rfl) rfl (Nat.le_of_ble_eq_true (show Nat.ble 1 Try.f139.ntmps = true by kernel_rfl)) fun ts K h => by
  obtain ⟨t0, e0, h⟩ := as1_out h
  subst e0
  obtain ⟨a, e1, h⟩ := arC_out (rd_l .span) h
  subst e1
  obtain ⟨hpre, h⟩ := chk_o h
  refine ⟨.span, a, _, rfl, h, 0, fun e => ?_, ?_⟩
  · subst e
    conv => whnf
    exact ⟨rfl, rfl⟩
  · conv => whnf
    repeat' (refine chk_c ?_ ?_ <;> conv => whnf)
    all_goals first
      | (refine ⟨?_⟩; simp; omega)
      | exact ⟨rfl, rfl⟩

def LHeap (h : Heap) (n : Nat) : Prop := LMem h.mem n ∧ h.live.length ≤ n ∧ h.waits.length ≤ n
def szHeapI (h : Heap) (k : Int) : Int := szB (szMem h.mem k) fun k => szB (szr k h.live.length) fun k => szr k h.waits.length
theorem szHeap_n {h : Heap} {k : Int} (h0 : k ≤ 1048576) (hh : 0 ≤ szHeapI h k) : LHeap h 1048576 := by
  obtain ⟨h1, h2, _⟩ := szB_pos hh
  obtain ⟨h3, h4, _⟩ := szB_pos h2
  have h5 := szMem_n h0 h1; have h6 := szr_n h3; have h7 := szr_n h4
  exact ⟨h5.1, by omega, by omega⟩
theorem LHeap.mono {t : Heap} {n m : Nat} (h : LHeap t n) (k : n ≤ m) : LHeap t m := ⟨⟨Nat.le_trans h.1.1 k, Nat.le_trans h.1.2 k⟩, Nat.le_trans h.2.1 k, Nat.le_trans h.2.2 k⟩
theorem lHeap_of {t : Heap} (h : WHeap t) : LHeap t 9223372036854775807 := ⟨⟨h.1.1.2, h.1.2.2⟩, h.2.1.2, h.2.2.2⟩

def pf_laws_szHeap : PF := ⟨[.t 4], .seq (.reg [.s (.box 2 (.t 0)), .s (.mv 4 (.k (.v (.c (.int .i64 0)))))]) (.seq (.reg [.s (.fa 5 (.t 2) 0), .s (.load 6 true 2 (.t 5)), .s (.mv 7 (.t 1)), .s (.call (some 8) 70 [(.t 6), (.t 7)]), .s (.mv 1 (.t 8))]) (.seq (.seq (.reg [.s (.mv 9 (.t 1)), .s (.bin 10 .lss (.t 9) (.k (.v (.c (.int .i64 0)))))]) (.cond (.t 10) (.seq (.reg [.s (.mv 4 (.k (.v (.c (.int .i64 (-1))))))]) (.ret)) (.skip))) (.seq (.reg [.s (.fa 11 (.t 2) 2), .s (.load 12 false 1 (.t 11)), .s (.mv 13 (.t 1)), .s (.call (some 14) 85 [(.t 12), (.t 13)]), .s (.mv 1 (.t 14))]) (.seq (.seq (.reg [.s (.mv 15 (.t 1)), .s (.bin 16 .lss (.t 15) (.k (.v (.c (.int .i64 0)))))]) (.cond (.t 16) (.seq (.reg [.s (.mv 4 (.k (.v (.c (.int .i64 (-1))))))]) (.ret)) (.skip))) (.seq (.reg [.s (.fa 17 (.t 2) 3), .s (.load 18 false 1 (.t 17)), .s (.mv 19 (.t 1)), .s (.call (some 20) 85 [(.t 18), (.t 19)]), .s (.mv 1 (.t 20))]) (.seq (.seq (.reg [.s (.mv 21 (.t 1)), .s (.bin 22 .lss (.t 21) (.k (.v (.c (.int .i64 0)))))]) (.cond (.t 22) (.seq (.reg [.s (.mv 4 (.k (.v (.c (.int .i64 (-1))))))]) (.ret)) (.skip))) (.seq (.reg [.s (.mv 23 (.t 1)), .s (.mv 4 (.t 23))]) (.ret))))))))⟩
def c_laws_szHeap : Fun := ⟨29, [], fun ts K => as2 ts fun t0 t1 => arG pHeapT t0 fun t => arC (pI .i64) t1 fun k => chk (LHeap t 9223372036854775807 ∧ 0 ≤ k ∧ k ≤ 1048576) (K (tN (szHeapI t k)) [])⟩
theorem run_laws_szHeap (t : Heap) (k : Int) (hpre : LHeap t 9223372036854775807 ∧ 0 ≤ k ∧ k ≤ 1048576) : runK [c_laws_szMemory, c_laws_szSpanS] (0) [] pf_laws_szHeap [tG (t.tc false []), tI .i64 k] fun r o => r = tN (szHeapI t k) ∧ o = [] := by
  obtain ⟨⟨l1, l2, l3⟩, hk, hk2⟩ := hpre
  have h0 := szMem_le (m := t.mem) hk
  conv => whnf
  refine chk_i ⟨l1, hk, hk2⟩ ?_
  conv => whnf
  refine sel_i (fun h => ?_) (fun h => ?_)
  · have h : szMem t.mem k < 0 := by simpa using h
    conv => whnf
    refine ⟨?_, rfl⟩; simp [szHeapI, szB, h]
  · have h : 0 ≤ szMem t.mem k := by simpa using h
    have h1 := szr_le (n := t.live.length) h
    conv => whnf
    refine chk_i ⟨l2, h, show szMem t.mem k ≤ _ by omega⟩ ?_
    conv => whnf
    refine sel_i (fun h2 => ?_) (fun h2 => ?_)
    · have h2 : szr (szMem t.mem k) t.live.length < 0 := by simpa using h2
      conv => whnf
      refine ⟨?_, rfl⟩; simp [szHeapI, szB, h2, show ¬ szMem t.mem k < 0 by omega]
    · have h2 : 0 ≤ szr (szMem t.mem k) t.live.length := by simpa using h2
      conv => whnf
      refine chk_i ⟨l3, h2, show szr (szMem t.mem k) t.live.length ≤ _ by omega⟩ ?_
      conv => whnf
      have h3 := szr_ge (k := szr (szMem t.mem k) t.live.length) (n := t.waits.length)
      refine sel_i (fun h4 => ?_) (fun h4 => ?_) <;> conv => whnf
      · have h4 : szr (szr (szMem t.mem k) t.live.length) t.waits.length < 0 := by simpa using h4
        refine ⟨?_, rfl⟩; simp [szHeapI, szB, show ¬ szMem t.mem k < 0 by omega, show ¬ szr (szMem t.mem k) t.live.length < 0 by omega]; omega
      · refine ⟨?_, rfl⟩; simp [szHeapI, szB, show ¬ szMem t.mem k < 0 by omega, show ¬ szr (szMem t.mem k) t.live.length < 0 by omega]
theorem ok_laws_szHeap : FunOk Try.prog c_laws_szHeap := funOk (E := [c_laws_szMemory, c_laws_szSpanS]) (envOk_cons ok_laws_szMemory (envOk_cons ok_laws_szSpanS (envOk_nil))) mixd Try.func29 (pf := pf_laws_szHeap) (by kernel_rfl) fun ts K h => by
  obtain ⟨t0, t1, e0, h⟩ := as2_out h
  subst e0
  obtain ⟨t, e1, hq⟩ := arG_out rd_heap h
  clear h
  subst e1
  have h := hq
  clear hq
  obtain ⟨k, e1, hq⟩ := arC_out (rd_int .i64) h
  clear h
  subst e1
  have h := hq
  clear hq
  obtain ⟨hpre, h⟩ := chk_o h
  exact ⟨_, _, h, Nat.le_of_ble_eq_true (show Nat.ble 2 Try.f29.ntmps = true by kernel_rfl), _, run_laws_szHeap t k hpre⟩

def pf_laws_toHeap : PF := ⟨[.c 2 true 4], .seq (.reg [.s (.box 1 (.t 0)), .s (.alloc 2 [.nils .word, .nils .bool, .nils .span, .nils .span])]) (.seq (.reg [.s (.alloc 3 [.nils .word, .nils .bool, .nils .span, .nils .span])]) (.seq (.reg [.s (.fa 4 (.t 1) 0), .s (.load 5 true 2 (.t 4)), .s (.call (some 6) 73 [(.t 5)]), .s (.fa 7 (.t 3) 0), .s (.store 2 (.t 7) (.t 6))]) (.seq (.reg [.s (.fa 8 (.t 1) 2), .s (.load 9 false 1 (.t 8)), .s (.call (some 10) 88 [(.t 9)]), .s (.fa 11 (.t 3) 2), .s (.store 1 (.t 11) (.t 10))]) (.seq (.reg [.s (.fa 12 (.t 1) 3), .s (.load 13 false 1 (.t 12)), .s (.call (some 14) 88 [(.t 13)]), .s (.fa 15 (.t 3) 3), .s (.store 1 (.t 15) (.t 14))]) (.seq (.reg [.s (.load 16 true 4 (.t 3)), .s (.store 4 (.t 2) (.t 16))]) (.ret))))))⟩
def c_laws_toHeap : Fun := ⟨31, [], fun ts K => as1 ts fun t0 => arG pHeapT t0 fun t => chk (LHeap t 2147483647) (K (tG (t.tc true [])) [])⟩
theorem run_laws_toHeap (t : Heap) (hpre : LHeap t 2147483647) : runK [c_laws_toMemory, c_laws_toSpanS] (0) [] pf_laws_toHeap [tG (t.tc false [])] fun r o => r = tG (t.tc true []) ∧ o = [] := by
  obtain ⟨⟨l1, l4⟩, l2, l3⟩ := hpre
  conv => whnf
  repeat' (first | (refine chk_c ?_ ?_ <;> conv => whnf) | (refine And.intro ?_ ?_ <;> conv => whnf))
  all_goals first
    | (refine ⟨?_⟩; omega)
    | (refine ⟨?_⟩; simp; done)
    | (refine ⟨?_⟩; simp [LMem, LTwo] at *; omega)
    | rfl
    | exact True.intro
    | exact ⟨rfl, rfl⟩
theorem ok_laws_toHeap : FunOk Try.prog c_laws_toHeap := funOk (E := [c_laws_toMemory, c_laws_toSpanS]) (envOk_cons ok_laws_toMemory (envOk_cons ok_laws_toSpanS (envOk_nil))) mixd Try.func31 (pf := pf_laws_toHeap) (by kernel_rfl) fun ts K h => by
  obtain ⟨t0, e0, h⟩ := as1_out h
  subst e0
  obtain ⟨t, e1, hq⟩ := arG_out rd_heap h
  clear h
  subst e1
  have h := hq
  clear hq
  obtain ⟨hpre, h⟩ := chk_o h
  exact ⟨_, _, h, Nat.le_of_ble_eq_true (show Nat.ble 1 Try.f31.ntmps = true by kernel_rfl), _, run_laws_toHeap t hpre⟩

def inS (s : Span) (c : Nat) : Bool := inR c s.at_ (s.at_ + s.len - 1)
def spanOk (s : Span) : Bool := inR s.at_ 0 23 && inR s.len 1 (24 - s.at_)
def spanChk (l : List Span) (i : Nat) : Bool := spanOk (l.getD i (FT.zero .span)) && (i == 0 || decide ((l.getD (i - 1) (FT.zero .span)).at_ < (l.getD i (FT.zero .span)).at_))
def okTo (l : List Span) (i : Nat) : Bool := (List.range i).all (spanChk l)
def spansOk (l : List Span) : Bool := okTo l l.length
theorem okTo_yes {l : List Span} {i : Nat} (h : okTo l i = true) (h2 : spanChk l i = true) : okTo l (i + 1) = true := by simp only [okTo, List.range_succ, List.all_append, List.all_cons, List.all_nil, h2, Bool.and_true]; exact h
theorem okTo_no {l : List Span} {i n : Nat} (h : i < n) (h2 : spanChk l i = false) : okTo l n = false := by
  unfold okTo
  rw [Bool.eq_false_iff]
  intro hh
  have := List.all_eq_true.1 hh i (by simpa using h)
  rw [h2] at this; cases this

theorem inR_t {n lo hi : Int} : inR n lo hi = true ↔ lo ≤ n ∧ n ≤ hi := by simp [inR]
theorem inR_f {n lo hi : Int} : inR n lo hi = false ↔ (n < lo ∨ hi < n) := by
  rw [Bool.eq_false_iff, ne_eq, inR_t]; omega
theorem spanChk_iff (l : List Span) (i : Nat) : spanChk l i = true ↔ (((0 ≤ (l.getD i (FT.zero .span)).at_ ∧ (l.getD i (FT.zero .span)).at_ ≤ 23) ∧ 1 ≤ (l.getD i (FT.zero .span)).len ∧ (l.getD i (FT.zero .span)).len ≤ 24 - (l.getD i (FT.zero .span)).at_) ∧ (i = 0 ∨ (l.getD (i - 1) (FT.zero .span)).at_ < (l.getD i (FT.zero .span)).at_)) := by
  simp only [spanChk, spanOk, Bool.and_eq_true, inR_t, Bool.or_eq_true, beq_iff_eq, decide_eq_true_eq]
theorem spanChk_f (l : List Span) (i : Nat) : spanChk l i = false ↔ ¬ (((0 ≤ (l.getD i (FT.zero .span)).at_ ∧ (l.getD i (FT.zero .span)).at_ ≤ 23) ∧ 1 ≤ (l.getD i (FT.zero .span)).len ∧ (l.getD i (FT.zero .span)).len ≤ 24 - (l.getD i (FT.zero .span)).at_) ∧ (i = 0 ∨ (l.getD (i - 1) (FT.zero .span)).at_ < (l.getD i (FT.zero .span)).at_)) := by
  rw [← spanChk_iff]; simp
theorem spanChk_val (l : List Span) (i : Nat) : spanChk l i = (inR (l.getD i (FT.zero .span)).at_ 0 23 && inR (l.getD i (FT.zero .span)).len 1 (24 - (l.getD i (FT.zero .span)).at_) && (i == 0 || decide ((l.getD (i - 1) (FT.zero .span)).at_ < (l.getD i (FT.zero .span)).at_))) := rfl
def inRaw (s : Span) (c : Int) : Bool := inR c s.at_ (IntKind.i64.wrap (IntKind.i64.wrap (s.at_ + s.len) - 1))
def inL (l : List Span) (c : Int) : Bool := l.any (fun s => inRaw s c)
def ownRun (s : Span) : Nat → Nat → List Int → List Int
  | 0, _, u => u
  | n + 1, c, u => if decide (IntKind.i64.wrap ((c : Int) - s.at_) < s.len) then ownRun s n (c + 1) (u.set c (IntKind.i64.wrap (u.getD c 0 + 1))) else u
def ownOne (u : List Int) (s : Span) : List Int := ownRun s (24 - max s.at_ 0).toNat (max s.at_ 0).toNat u
def owners (l : List Span) : List Int := l.foldl ownOne (List.replicate 24 0)
theorem ownRun_len (s : Span) : ∀ (n c : Nat) (u : List Int), (ownRun s n c u).length = u.length
  | 0, _, _ => rfl
  | n + 1, c, u => by
    unfold ownRun
    split
    · rw [ownRun_len s n (c + 1)]; simp
    · rfl
def markRun : Nat → Nat → List Bool → Bool × List Bool
  | 0, _, u => (true, u)
  | n + 1, c, u => if u.getD c false then (false, u) else markRun n (c + 1) (u.set c true)
def markedGo (l : List Span) : Nat → Nat → List Bool → Bool × List Bool
  | 0, _, u => (true, u)
  | n + 1, i, u => if spanChk l i then (if (markRun (l.getD i (FT.zero .span)).len.toNat (l.getD i (FT.zero .span)).at_.toNat u).1 then markedGo l n (i + 1) (markRun (l.getD i (FT.zero .span)).len.toNat (l.getD i (FT.zero .span)).at_.toNat u).2 else markRun (l.getD i (FT.zero .span)).len.toNat (l.getD i (FT.zero .span)).at_.toNat u) else (false, u)
def markedF (u : List Bool) (l : List Span) : Bool × List Bool := markedGo l l.length 0 u
theorem markRun_len : ∀ (n c : Nat) (u : List Bool), (markRun n c u).2.length = u.length
  | 0, _, _ => rfl
  | n + 1, c, u => by
    unfold markRun
    split
    · rfl
    · rw [markRun_len n (c + 1)]; simp

def pf_spec_l1Max : PF := ⟨[.t 4], .seq (.reg [.s (.mv 4 (.k (.v (.c (.int .i64 0)))))]) (.seq (.seq (.reg [.s (.mv 5 (.t 0)), .s (.mv 6 (.t 1)), .s (.bin 7 .gtr (.t 5) (.t 6))]) (.cond (.t 7) (.seq (.reg [.s (.mv 8 (.t 0)), .s (.mv 4 (.t 8))]) (.ret)) (.skip))) (.seq (.reg [.s (.mv 9 (.t 1)), .s (.mv 4 (.t 9))]) (.ret)))⟩
def c_spec_l1Max : Fun := ⟨130, [], fun ts K => as2 ts fun t0 t1 => arC (pI .i64) t0 fun a => arC (pI .i64) t1 fun b => K (tN (max a b)) []⟩
theorem run_spec_l1Max (a : Int) (b : Int) : runK [] (0) [] pf_spec_l1Max [tI .i64 a, tI .i64 b] fun r o => r = tN (max a b) ∧ o = [] := by
  conv => whnf
  repeat' (first | (refine sel_i (fun h => ?_) (fun h => ?_) <;> conv => whnf) | (refine chk_c ?_ ?_ <;> conv => whnf) | (refine And.intro ?_ rfl) | (refine And.intro ?_ ?_ <;> conv => whnf))
  all_goals (simp at h; congr 3; omega)
theorem ok_spec_l1Max : FunOk Try.prog c_spec_l1Max := funOk (E := []) (envOk_nil) mixd Try.func130 (pf := pf_spec_l1Max) (by kernel_rfl) fun ts K h => by
  obtain ⟨t0, t1, e0, h⟩ := as2_out h
  subst e0
  obtain ⟨a, e1, hq⟩ := arC_out (rd_int .i64) h
  clear h
  subst e1
  have h := hq
  clear hq
  obtain ⟨b, e1, hq⟩ := arC_out (rd_int .i64) h
  clear h
  subst e1
  have h := hq
  clear hq
  exact ⟨_, _, h, Nat.le_of_ble_eq_true (show Nat.ble 2 Try.f130.ntmps = true by kernel_rfl), _, run_spec_l1Max a b⟩

def lb_spec_l23Spans_0 : PC := .seq (.seq (.reg [.s (.mv 4 (.t 3)), .s (.mv 5 (.t 0)), .s (.len 6 false (.t 5)), .s (.bin 7 .lss (.t 4) (.t 6))]) (.cond (.t 7) (.skip) (.exit 0))) (.seq (.blk 1 (.seq (.rgd [.s (.mv 10 (.t 0)), .s (.mv 11 (.t 3)), .s (.ia 12 .span (.t 10) (.t 11)), .s (.fa 13 (.t 12) 0), .s (.load 14 false 1 (.t 13)), .s (.call (some 15) 101 [(.t 14), (.k (.v (.c (.int .i64 0)))), (.k (.v (.c (.int .i64 23))))]), .s (.bnot 16 (.t 15)), .s (.mv 17 (.t 16)), .g 17 false (some 18) (.mv 18 (.t 0)), .g 17 false (some 19) (.mv 19 (.t 3)), .g 17 false (some 20) (.ia 20 .span (.t 18) (.t 19)), .g 17 false (some 21) (.fa 21 (.t 20) 1), .g 17 false (some 22) (.load 22 false 1 (.t 21)), .g 17 false (some 23) (.mv 23 (.t 0)), .g 17 false (some 24) (.mv 24 (.t 3)), .g 17 false (some 25) (.ia 25 .span (.t 23) (.t 24)), .g 17 false (some 26) (.fa 26 (.t 25) 0), .g 17 false (some 27) (.load 27 false 1 (.t 26)), .g 17 false (some 28) (.bin 28 .sub (.k (.v (.c (.int .i64 24)))) (.t 27)), .g 17 false (some 29) (.call (some 29) 101 [(.t 22), (.k (.v (.c (.int .i64 1)))), (.t 28)]), .g 17 false (some 30) (.bnot 30 (.t 29)), .s (.pick 31 (.t 17) (.k (.v (.c .tt))) (.t 30)), .s (.mv 32 (.t 31)), .g 32 false (some 33) (.mv 33 (.t 3)), .g 32 false (some 34) (.bin 34 .gtr (.t 33) (.k (.v (.c (.int .i64 0))))), .g 32 false (some 35) (.mv 35 (.t 34)), .g 35 true (some 36) (.mv 36 (.t 0)), .g 35 true (some 37) (.mv 37 (.t 3)), .g 35 true (some 38) (.bin 38 .sub (.t 37) (.k (.v (.c (.int .i64 1))))), .g 35 true (some 39) (.ia 39 .span (.t 36) (.t 38)), .g 35 true (some 40) (.fa 40 (.t 39) 0), .g 35 true (some 41) (.load 41 false 1 (.t 40)), .g 35 true (some 42) (.mv 42 (.t 0)), .g 35 true (some 43) (.mv 43 (.t 3)), .g 35 true (some 44) (.ia 44 .span (.t 42) (.t 43)), .g 35 true (some 45) (.fa 45 (.t 44) 0), .g 35 true (some 46) (.load 46 false 1 (.t 45)), .g 35 true (some 47) (.bin 47 .geq (.t 41) (.t 46)), .g 32 false (some 48) (.pick 48 (.t 35) (.t 47) (.k (.v (.c .ff)))), .s (.pick 49 (.t 32) (.k (.v (.c .tt))) (.t 48))] (.tk 0 (.tk 1 (.tk 2 (.tk 3 (.tk 4 (.one 5 true (.tk 6 (.tk 7 (.tk 8 (.tk 9 (.tk 10 (.tk 11 (.tk 12 (.tk 13 (.tk 14 (.tk 15 (.tk 16 (.tk 17 (.tk 18 (.one 19 true (.tk 20 (.tk 21 (.tk 22 (.tk 23 (.tk 24 (.tk 25 (.tk 26 (.tk 27 (.tk 28 (.tk 29 (.tk 30 (.tk 31 (.tk 32 (.tk 33 (.tk 34 (.tk 35 (.tk 36 (.tk 37 (.tk 38 (.tk 39 (.done none)))))))))))))))))))))))))))))))))))))))))) (.cond (.t 49) (.seq (.reg [.s (.mv 2 (.k (.v (.c .ff))))]) (.ret)) (.skip)))) (.reg [.s (.mv 8 (.t 3)), .s (.bin 9 .add (.t 8) (.k (.v (.c (.int .i64 1))))), .s (.mv 3 (.t 9))]))
def pf_spec_l23Spans : PF := ⟨[.t 2], .seq (.reg [.s (.mv 2 (.k (.v (.c .ff))))]) (.seq (.seq (.reg [.s (.mv 3 (.k (.v (.c (.int .i64 0)))))]) (.blk 0 (.loop [0, 3] lb_spec_l23Spans_0))) (.seq (.reg [.s (.mv 2 (.k (.v (.c .tt))))]) (.ret)))⟩
def c_spec_l23Spans : Fun := ⟨131, [], fun ts K => as1 ts fun t0 => arC (pL .span) t0 fun l => chk (l.length ≤ 2147483647) (K (tB (spansOk l)) [])⟩
theorem run_spec_l23Spans (l : List (FT.Ty .span)) (hpre : l.length ≤ 2147483647) : runK [c_spec_l1In] (l.length + 1) [] pf_spec_l23Spans [tL false .span l] fun r o => r = tB (spansOk l) ∧ o = [] := by
  conv => whnf
  refine loop (α := Nat) (fun i => ⟨[(0, .v (.c (.sl false .span 0))), (3, .v (.c (.int .i64 (i : Int))))], [(0, some (.flat false .span none l))], nums.tail, [], false, []⟩)
      (fun i => i ≤ l.length ∧ okTo l i = true) (fun i => l.length - i) (fun i R hI hR => ?_) 0 _ ⟨by simp, rfl⟩ (by omega)
  obtain ⟨hi, hx⟩ := hI
  conv => whnf
  refine sel_i (fun h => ?_) (fun h => ?_)
  · have hlt : i < l.length := by simpa using h
    clear h
    have hv := spanChk_iff l i
    have hf := spanChk_f l i
    have hp : ((i : Int) - 1).toNat = i - 1 := by omega
    conv => whnf
    repeat' (first | (refine sel_i (fun h => ?_) (fun h => ?_) <;> conv => whnf) | (refine chk_c ?_ ?_ <;> conv => whnf) | (refine And.intro ?_ rfl) | (refine And.intro ?_ ?_ <;> conv => whnf))
    all_goals (try simp only [Int.toNat_natCast, Bool.not_eq_true', Bool.not_eq_false', inR_t, inR_f, decide_eq_true_eq, decide_eq_false_iff_not] at *)
    all_goals (try simp (disch := omega) only [wrap_id] at *)
    all_goals (try simp only [hp] at *)
    all_goals first
      | (refine ⟨?_⟩; omega)
      | (rw [show spansOk l = false from okTo_no hlt (hf.2 (by omega))]; done)
      | exact hR (i + 1) ⟨hlt, okTo_yes hx (hv.2 (by omega))⟩ (by omega)
      | trace_state
  · have e : i = l.length := by simp at h; omega
    subst e
    conv => whnf
    rw [show spansOk l = true from hx]
    exact ⟨rfl, rfl⟩
theorem ok_spec_l23Spans : FunOk Try.prog c_spec_l23Spans := funOk (E := [c_spec_l1In]) (envOk_cons ok_spec_l1In (envOk_nil)) mixd Try.func131 (pf := pf_spec_l23Spans) (by kernel_rfl) fun ts K h => by
  obtain ⟨t0, e0, h⟩ := as1_out h
  subst e0
  obtain ⟨l, e1, hq⟩ := arC_out (rd_l .span) h
  clear h
  subst e1
  have h := hq
  clear hq
  obtain ⟨hpre, h⟩ := chk_o h
  exact ⟨_, _, h, Nat.le_of_ble_eq_true (show Nat.ble 1 Try.f131.ntmps = true by kernel_rfl), _, run_spec_l23Spans l hpre⟩

def lb_spec_l23In_0 : PC := .seq (.seq (.reg [.s (.mv 6 (.t 5)), .s (.mv 7 (.t 0)), .s (.len 8 false (.t 7)), .s (.bin 9 .lss (.t 6) (.t 8))]) (.cond (.t 9) (.skip) (.exit 0))) (.seq (.blk 1 (.seq (.rgd [.s (.mv 12 (.t 1)), .s (.mv 13 (.t 0)), .s (.mv 14 (.t 5)), .s (.ia 15 .span (.t 13) (.t 14)), .s (.fa 16 (.t 15) 0), .s (.load 17 false 1 (.t 16)), .s (.mv 18 (.t 0)), .s (.mv 19 (.t 5)), .s (.ia 20 .span (.t 18) (.t 19)), .s (.fa 21 (.t 20) 0), .s (.load 22 false 1 (.t 21)), .s (.mv 23 (.t 0)), .s (.mv 24 (.t 5)), .s (.ia 25 .span (.t 23) (.t 24)), .s (.fa 26 (.t 25) 1), .s (.load 27 false 1 (.t 26)), .s (.bin 28 .add (.t 22) (.t 27)), .s (.bin 29 .sub (.t 28) (.k (.v (.c (.int .i64 1))))), .s (.call (some 30) 101 [(.t 12), (.t 17), (.t 29)])] (.tk 0 (.tk 1 (.tk 2 (.tk 3 (.tk 4 (.tk 5 (.tk 6 (.tk 7 (.tk 8 (.tk 9 (.tk 10 (.tk 11 (.tk 12 (.tk 13 (.tk 14 (.tk 15 (.tk 16 (.tk 17 (.one 18 true (.done none))))))))))))))))))))) (.cond (.t 30) (.seq (.reg [.s (.mv 4 (.k (.v (.c .tt))))]) (.ret)) (.skip)))) (.reg [.s (.mv 10 (.t 5)), .s (.bin 11 .add (.t 10) (.k (.v (.c (.int .i64 1))))), .s (.mv 5 (.t 11))]))
def pf_spec_l23In : PF := ⟨[.t 4], .seq (.reg [.s (.mv 4 (.k (.v (.c .ff))))]) (.seq (.seq (.reg [.s (.mv 5 (.k (.v (.c (.int .i64 0)))))]) (.blk 0 (.loop [0, 1, 5] lb_spec_l23In_0))) (.seq (.reg [.s (.mv 4 (.k (.v (.c .ff))))]) (.ret)))⟩
def c_spec_l23In : Fun := ⟨132, [], fun ts K => as2 ts fun t0 t1 => arC (pL .span) t0 fun l => arC (pI .i64) t1 fun c => chk (l.length ≤ 2147483647) (K (tB (inL l c)) [])⟩
theorem run_spec_l23In (l : List (FT.Ty .span)) (c : Int) (hpre : l.length ≤ 2147483647) : runK [c_spec_l1In] (l.length + 1) [] pf_spec_l23In [tL false .span l, tI .i64 c] fun r o => r = tB (inL l c) ∧ o = [] := by
  conv => whnf
  refine loop (α := Nat) (fun i => ⟨[(0, .v (.c (.sl false .span 0))), (1, .v (.c (.int .i64 c))), (5, .v (.c (.int .i64 (i : Int))))], [(0, some (.flat false .span none l))], nums.tail, [], false, []⟩)
      (fun i => i ≤ l.length ∧ (l.drop i).any (fun s => inRaw s c) = inL l c) (fun i => l.length - i) (fun i R hI hR => ?_) 0 _ ⟨by simp, by simp [inL]⟩ (by omega)
  obtain ⟨hi, hx⟩ := hI
  conv => whnf
  repeat' (first | (refine sel_i (fun h => ?_) (fun h => ?_) <;> conv => whnf) | (refine chk_c ?_ ?_ <;> conv => whnf) | (refine And.intro ?_ rfl) | (refine And.intro ?_ ?_ <;> conv => whnf))
  all_goals (try simp only [Int.toNat_natCast, decide_eq_true_eq, decide_eq_false_iff_not] at *)
  all_goals first
    | (refine ⟨?_⟩; omega)
    | (rw [show inL l c = true from any_yes (z := FT.zero .span) (by omega) (by assumption) hx]; done)
    | (rw [show inL l c = false from any_end (by omega) hx]; done)
    | (rw [wrap_id (n := (i : Int) + 1) (by omega) (by omega)]; exact hR (i + 1) ⟨by omega, any_no (z := FT.zero .span) (by omega) (by assumption) hx⟩ (by omega))
    | trace_state
theorem ok_spec_l23In : FunOk Try.prog c_spec_l23In := funOk (E := [c_spec_l1In]) (envOk_cons ok_spec_l1In (envOk_nil)) mixd Try.func132 (pf := pf_spec_l23In) (by kernel_rfl) fun ts K h => by
  obtain ⟨t0, t1, e0, h⟩ := as2_out h
  subst e0
  obtain ⟨l, e1, hq⟩ := arC_out (rd_l .span) h
  clear h
  subst e1
  have h := hq
  clear hq
  obtain ⟨c, e1, hq⟩ := arC_out (rd_int .i64) h
  clear h
  subst e1
  have h := hq
  clear hq
  obtain ⟨hpre, h⟩ := chk_o h
  exact ⟨_, _, h, Nat.le_of_ble_eq_true (show Nat.ble 2 Try.f132.ntmps = true by kernel_rfl), _, run_spec_l23In l c hpre⟩

def lb_spec_l23Owners_0 : PC := .seq (.seq (.rgd [.s (.mv 27 (.t 6)), .s (.bin 28 .lss (.t 27) (.k (.v (.c (.int .i64 24))))), .s (.mv 29 (.t 28)), .g 29 true (some 30) (.mv 30 (.t 6)), .g 29 true (some 31) (.mv 31 (.t 4)), .g 29 true (some 32) (.mv 32 (.t 5)), .g 29 true (some 33) (.ia 33 .span (.t 31) (.t 32)), .g 29 true (some 34) (.fa 34 (.t 33) 0), .g 29 true (some 35) (.load 35 false 1 (.t 34)), .g 29 true (some 36) (.bin 36 .sub (.t 30) (.t 35)), .g 29 true (some 37) (.mv 37 (.t 4)), .g 29 true (some 38) (.mv 38 (.t 5)), .g 29 true (some 39) (.ia 39 .span (.t 37) (.t 38)), .g 29 true (some 40) (.fa 40 (.t 39) 1), .g 29 true (some 41) (.load 41 false 1 (.t 40)), .g 29 true (some 42) (.bin 42 .lss (.t 36) (.t 41)), .s (.pick 43 (.t 29) (.t 42) (.k (.v (.c .ff))))] (.tk 0 (.tk 1 (.tk 2 (.tk 3 (.tk 4 (.tk 5 (.tk 6 (.tk 7 (.tk 8 (.tk 9 (.tk 10 (.tk 11 (.tk 12 (.tk 13 (.tk 14 (.tk 15 (.tk 16 (.done none))))))))))))))))))) (.cond (.t 43) (.skip) (.exit 2))) (.seq (.blk 3 (.reg [.s (.mv 46 (.t 3)), .s (.mv 47 (.t 6)), .s (.mv 48 (.t 3)), .s (.mv 49 (.t 6)), .s (.ia 50 (.int .i64) (.t 48) (.t 49)), .s (.load 51 false 1 (.t 50)), .s (.bin 52 .add (.t 51) (.k (.v (.c (.int .i64 1))))), .s (.ia 53 (.int .i64) (.t 46) (.t 47)), .s (.store 1 (.t 53) (.t 52))])) (.reg [.s (.mv 44 (.t 6)), .s (.bin 45 .add (.t 44) (.k (.v (.c (.int .i64 1))))), .s (.mv 6 (.t 45))]))
def lb_spec_l23Owners_1 : PC := .seq (.seq (.reg [.s (.mv 15 (.t 5)), .s (.mv 16 (.t 4)), .s (.len 17 false (.t 16)), .s (.bin 18 .lss (.t 15) (.t 17))]) (.cond (.t 18) (.skip) (.exit 0))) (.seq (.blk 1 (.seq (.reg [.s (.mv 21 (.t 4)), .s (.mv 22 (.t 5)), .s (.ia 23 .span (.t 21) (.t 22)), .s (.fa 24 (.t 23) 0), .s (.load 25 false 1 (.t 24)), .s (.call (some 26) 130 [(.t 25), (.k (.v (.c (.int .i64 0))))]), .s (.mv 6 (.t 26))]) (.blk 2 (.loop [3, 4, 5, 6] lb_spec_l23Owners_0)))) (.reg [.s (.mv 19 (.t 5)), .s (.bin 20 .add (.t 19) (.k (.v (.c (.int .i64 1))))), .s (.mv 5 (.t 20))]))
def pf_spec_l23Owners : PF := ⟨[.t 2], .seq (.reg [.s (.box 1 (.t 0)), .s (.mv 2 (.k (.v (.c (.nils (.int .i64))))))]) (.seq (.reg [.s (.mkS 7 (.int .i64) (.k (.v (.c (.int .i64 24))))), .s (.mv 3 (.t 7))]) (.seq (.rgd [.s (.bs 8 .span []), .s (.fa 9 (.t 1) 2), .s (.load 10 false 1 (.t 9)), .s (.app 11 .span (.t 8) (.t 10)), .s (.fa 12 (.t 1) 3), .s (.load 13 false 1 (.t 12)), .s (.app 14 .span (.t 11) (.t 13)), .s (.mv 4 (.t 14))] (.tk 1 (.tk 2 (.tk 4 (.tk 5 (.one 0 false (.one 3 false (.one 6 true (.tk 7 (.done none)))))))))) (.seq (.seq (.reg [.s (.mv 5 (.k (.v (.c (.int .i64 0)))))]) (.blk 0 (.loop [3, 4, 5] lb_spec_l23Owners_1))) (.seq (.reg [.s (.mv 54 (.t 3)), .s (.mv 2 (.t 54))]) (.ret)))))⟩
def c_spec_l23Owners : Fun := ⟨86, [], fun ts K => as1 ts fun t0 => arG pHeapT t0 fun t => chk (LHeap t 1048576) (K (tL true (.int .i64) (owners (t.live ++ t.waits))) [])⟩
theorem run_spec_l23Owners (t : Heap) (hpre : LHeap t 1048576) : runK [c_spec_l1Max] (t.live.length + t.waits.length + 30) [] pf_spec_l23Owners [tG (t.tc false [])] fun r o => r = tL true (.int .i64) (owners (t.live ++ t.waits)) ∧ o = [] := by
  obtain ⟨⟨l1, l4⟩, l2, l3⟩ := hpre
  conv => whnf
  refine chk_i (by omega) ?_
  conv => whnf
  refine chk_i (by simp; omega) ?_
  conv => whnf
  refine chk_i (by simp; omega) ?_
  conv => whnf
  obtain ⟨all, hall⟩ : ∃ a : List Span, a = t.live ++ t.waits := ⟨_, rfl⟩
  have hlen : all.length = t.live.length + t.waits.length := by rw [hall, List.length_append]
  rw [← hall]
  refine loop (α := Nat × List Int) (fun q => ⟨[(3, .v (.c (.sl true (.int .i64) 0))), (4, .v (.c (.sl true .span 1))), (5, .v (.c (.int .i64 (q.1 : Int))))], [(1, some (.flat true .span none (([] ++ t.live) ++ t.waits))), (0, some (.flat true (.int .i64) none q.2))], nums.tail.tail, [], false, []⟩)
      (fun q => q.1 ≤ all.length ∧ q.2.length = 24 ∧ q.2 = (all.take q.1).foldl ownOne (List.replicate 24 0)) (fun q => all.length - q.1) (fun q R hI hR => ?_) (0, List.replicate 24 0) _ ⟨by simp, by simp, by simp⟩ (by dsimp only; omega)
  obtain ⟨i, u⟩ := q
  obtain ⟨hi, hl, hx⟩ := hI
  dsimp only at hi hl hx
  dsimp only
  conv => whnf
  refine sel_i (fun h => ?_) (fun h => ?_)
  · have hlt : i < all.length := by simp at h; omega
    clear h
    have hs : (all.take (i + 1)).foldl ownOne (List.replicate 24 0) = ownOne u (all.getD i (FT.zero .span)) := by rw [foldl_take _ _ (FT.zero .span) hlt, hx]
    have ha : ([] ++ t.live ++ t.waits) = all := by rw [hall]; rfl
    conv => whnf
    repeat' (first | (refine sel_i (fun h => ?_) (fun h => ?_) <;> conv => whnf) | (refine chk_c ?_ ?_ <;> conv => whnf) | (refine And.intro ?_ rfl) | (refine And.intro ?_ ?_ <;> conv => whnf))
    all_goals (try simp only [ha, Int.toNat_natCast] at *)
    all_goals generalize hsd : all.getD i (FT.zero .span) = s at *
    all_goals try (refine ⟨?_⟩; omega)
    refine loop (α := Int × List Int) (fun q => ⟨[(3, .v (.c (.sl true (.int .i64) 0))), (4, .v (.c (.sl true .span 1))), (5, .v (.c (.int .i64 (i : Int)))), (6, .v (.c (.int .i64 q.1)))], [(1, some (.flat true .span none all)), (0, some (.flat true (.int .i64) none q.2))], nums.tail.tail, [], false, []⟩)
        (fun q => max s.at_ 0 ≤ q.1 ∧ q.2.length = 24 ∧ ownRun s (24 - q.1).toNat q.1.toNat q.2 = ownOne u s) (fun q => (24 - q.1).toNat) (fun q R2 hI2 hR2 => ?_) (max s.at_ 0, u) _ ⟨by dsimp only; omega, hl, rfl⟩ (by dsimp only; omega)
    obtain ⟨c, v⟩ := q
    obtain ⟨gc, gl, gx⟩ := hI2
    dsimp only at gc gl gx
    dsimp only
    conv => whnf
    repeat' (first | (refine sel_i (fun h => ?_) (fun h => ?_) <;> conv => whnf) | (refine chk_c ?_ ?_ <;> conv => whnf) | (refine And.intro ?_ rfl) | (refine And.intro ?_ ?_ <;> conv => whnf))
    all_goals (try simp only [hsd, Int.toNat_natCast, decide_eq_true_eq, decide_eq_false_iff_not] at *)
    all_goals try (refine ⟨?_⟩; omega)
    · rename_i g
      rw [show (24 - c).toNat = (24 - (c + 1)).toNat + 1 by omega, ownRun, show ((c.toNat : Nat) : Int) = c by omega, decide_eq_true h, if_pos rfl] at gx
      rw [wrap_id (n := c + 1) (by omega) (by omega)]
      exact hR2 (c + 1, v.set c.toNat (IntKind.i64.wrap (v.getD c.toNat 0 + 1))) ⟨by dsimp only; omega, by simpa using gl, by dsimp only; rw [← gx]; congr 1; omega⟩ (by dsimp only; omega)
    · rename_i g
      rw [show (24 - c).toNat = (24 - (c + 1)).toNat + 1 by omega, ownRun, show ((c.toNat : Nat) : Int) = c by omega, decide_eq_false h, if_neg (by decide)] at gx
      rw [wrap_id (n := (i : Int) + 1) (by omega) (by omega)]
      exact hR (i + 1, v) ⟨hlt, gl, by dsimp only; rw [hs, ← gx]⟩ (by dsimp only; omega)
    · rw [show (24 - c).toNat = 0 by omega, ownRun] at gx
      rw [wrap_id (n := (i : Int) + 1) (by omega) (by omega)]
      exact hR (i + 1, v) ⟨hlt, gl, by dsimp only; rw [hs, ← gx]⟩ (by dsimp only; omega)
  · have e : i = all.length := by simp at h; omega
    subst e
    rw [List.take_length] at hx
    conv => whnf
    rw [hx]
    exact ⟨rfl, rfl⟩
theorem ok_spec_l23Owners : FunOk Try.prog c_spec_l23Owners := funOk (E := [c_spec_l1Max]) (envOk_cons ok_spec_l1Max (envOk_nil)) mixd Try.func86 (pf := pf_spec_l23Owners) (by kernel_rfl) fun ts K h => by
  obtain ⟨t0, e0, h⟩ := as1_out h
  subst e0
  obtain ⟨t, e1, hq⟩ := arG_out rd_heap h
  clear h
  subst e1
  have h := hq
  clear hq
  obtain ⟨hpre, h⟩ := chk_o h
  exact ⟨_, _, h, Nat.le_of_ble_eq_true (show Nat.ble 1 Try.f86.ntmps = true by kernel_rfl), _, run_spec_l23Owners t hpre⟩

def lb_impl_marked_0 : PC := .seq (.seq (.reg [.s (.mv 49 (.t 7)), .s (.fa 50 (.t 6) 0), .s (.load 51 false 1 (.t 50)), .s (.fa 52 (.t 6) 1), .s (.load 53 false 1 (.t 52)), .s (.bin 54 .add (.t 51) (.t 53)), .s (.bin 55 .lss (.t 49) (.t 54))]) (.cond (.t 55) (.skip) (.exit 2))) (.seq (.blk 3 (.seq (.seq (.reg [.s (.mv 58 (.t 0)), .s (.mv 59 (.t 7)), .s (.ia 60 .bool (.t 58) (.t 59)), .s (.load 61 false 1 (.t 60))]) (.cond (.t 61) (.seq (.reg [.s (.mv 4 (.k (.v (.c .ff))))]) (.ret)) (.skip))) (.reg [.s (.mv 62 (.t 0)), .s (.mv 63 (.t 7)), .s (.ia 64 .bool (.t 62) (.t 63)), .s (.store 1 (.t 64) (.k (.v (.c .tt))))]))) (.reg [.s (.mv 56 (.t 7)), .s (.bin 57 .add (.t 56) (.k (.v (.c (.int .i64 1))))), .s (.mv 7 (.t 57))]))
def lb_impl_marked_1 : PC := .seq (.reg [.s (.bin 11 .lss (.t 10) (.t 9))]) (.seq (.cond (.t 11) (.skip) (.exit 0)) (.seq (.blk 1 (.seq (.reg [.s (.mv 12 (.t 10)), .s (.ia 13 .span (.t 8) (.t 10)), .s (.load 14 true 2 (.t 13)), .s (.alloc 6 [.int .i64 0, .int .i64 0]), .s (.mv 5 (.t 12)), .s (.store 2 (.t 6) (.t 14))]) (.seq (.seq (.rgd [.s (.fa 15 (.t 6) 1), .s (.load 16 false 1 (.t 15)), .s (.bin 17 .lss (.t 16) (.k (.v (.c (.int .i64 1))))), .s (.mv 18 (.t 17)), .g 18 false (some 19) (.fa 19 (.t 6) 0), .g 18 false (some 20) (.load 20 false 1 (.t 19)), .g 18 false (some 21) (.call (some 21) 103 [(.t 20), (.k (.v (.c (.int .i64 0)))), (.k (.v (.c (.int .i64 23))))]), .g 18 false (some 22) (.bnot 22 (.t 21)), .s (.pick 23 (.t 18) (.k (.v (.c .tt))) (.t 22)), .s (.mv 24 (.t 23)), .g 24 false (some 25) (.fa 25 (.t 6) 1), .g 24 false (some 26) (.load 26 false 1 (.t 25)), .g 24 false (some 27) (.fa 27 (.t 6) 0), .g 24 false (some 28) (.load 28 false 1 (.t 27)), .g 24 false (some 29) (.bin 29 .sub (.k (.v (.c (.int .i64 24)))) (.t 28)), .g 24 false (some 30) (.bin 30 .gtr (.t 26) (.t 29)), .s (.pick 31 (.t 24) (.k (.v (.c .tt))) (.t 30)), .s (.mv 32 (.t 31)), .g 32 false (some 33) (.mv 33 (.t 5)), .g 32 false (some 34) (.bin 34 .gtr (.t 33) (.k (.v (.c (.int .i64 0))))), .g 32 false (some 35) (.mv 35 (.t 34)), .g 35 true (some 36) (.mv 36 (.t 1)), .g 35 true (some 37) (.mv 37 (.t 5)), .g 35 true (some 38) (.bin 38 .sub (.t 37) (.k (.v (.c (.int .i64 1))))), .g 35 true (some 39) (.ia 39 .span (.t 36) (.t 38)), .g 35 true (some 40) (.fa 40 (.t 39) 0), .g 35 true (some 41) (.load 41 false 1 (.t 40)), .g 35 true (some 42) (.fa 42 (.t 6) 0), .g 35 true (some 43) (.load 43 false 1 (.t 42)), .g 35 true (some 44) (.bin 44 .geq (.t 41) (.t 43)), .g 32 false (some 45) (.pick 45 (.t 35) (.t 44) (.k (.v (.c .ff)))), .s (.pick 46 (.t 32) (.k (.v (.c .tt))) (.t 45))] (.tk 0 (.tk 1 (.tk 2 (.tk 3 (.tk 4 (.tk 5 (.one 6 true (.tk 7 (.tk 8 (.tk 9 (.tk 10 (.tk 11 (.tk 12 (.tk 13 (.tk 14 (.tk 15 (.tk 16 (.tk 17 (.tk 18 (.tk 19 (.tk 20 (.tk 21 (.tk 22 (.tk 23 (.tk 24 (.tk 25 (.tk 26 (.tk 27 (.tk 28 (.tk 29 (.tk 30 (.tk 31 (.done none)))))))))))))))))))))))))))))))))) (.cond (.t 46) (.seq (.reg [.s (.mv 4 (.k (.v (.c .ff))))]) (.ret)) (.skip))) (.seq (.reg [.s (.fa 47 (.t 6) 0), .s (.load 48 false 1 (.t 47)), .s (.mv 7 (.t 48))]) (.blk 2 (.loop [0, 1, 6, 7, 8, 9, 10] lb_impl_marked_0)))))) (.reg [.s (.bin 65 .add (.t 10) (.k (.v (.c (.int .i64 1))))), .s (.mv 10 (.t 65))])))
def pf_impl_marked : PF := ⟨[.t 4], .seq (.reg [.s (.mv 4 (.k (.v (.c .ff))))]) (.seq (.seq (.reg [.s (.mv 8 (.t 1)), .s (.len 9 false (.t 8)), .s (.mv 10 (.k (.v (.c (.int .i64 0)))))]) (.blk 0 (.loop [0, 1, 8, 9, 10] lb_impl_marked_1))) (.seq (.reg [.s (.mv 4 (.k (.v (.c .tt))))]) (.ret)))⟩
def c_impl_marked : Fun := ⟨134, [true, false], fun ts K => as2 ts fun t0 t1 => arC (pO .bool) t0 fun u => arC (pL .span) t1 fun l => chk (l.length ≤ 1048576 ∧ u.length = 24) (K (tB (markedF u l).1) ([tL true .bool (markedF u l).2]))⟩
theorem run_impl_marked (u : List (FT.Ty .bool)) (l : List (FT.Ty .span)) (hpre : l.length ≤ 1048576 ∧ u.length = 24) : runK [c_impl_in] (l.length + 30) [true, false] pf_impl_marked [tL true .bool u, tL false .span l] fun r o => r = tB (markedF u l).1 ∧ o = [tL true .bool (markedF u l).2] := by
  obtain ⟨l1, l2⟩ := hpre
  conv => whnf
  refine loop (α := Nat × List Bool) (fun q => ⟨[(0, .v (.c (.sl false .bool 0))), (1, .v (.c (.sl false .span 1))), (8, .v (.c (.sl false .span 1))), (9, .v (.c (.int .i64 (l.length : Int)))), (10, .v (.c (.int .i64 (q.1 : Int))))],
        [(1, some (.flat false .span none l)), (0, some (.flat true .bool none q.2))], nums.tail.tail, [.v (.c (.sl false .bool 0))], false, []⟩)
      (fun q => q.1 ≤ l.length ∧ q.2.length = 24 ∧ markedGo l (l.length - q.1) q.1 q.2 = markedF u l) (fun q => l.length - q.1) (fun q R hI hR => ?_) (0, u) _ ⟨by simp, l2, rfl⟩ (by dsimp only; omega)
  obtain ⟨i, v⟩ := q
  obtain ⟨hi, hl, hx⟩ := hI
  dsimp only at hi hl hx
  dsimp only
  conv => whnf
  refine sel_i (fun h => ?_) (fun h => ?_)
  · have hlt : i < l.length := by simpa using h
    clear h
    have hv := spanChk_iff l i
    have hf := spanChk_f l i
    have hp : ((i : Int) - 1).toNat = i - 1 := by omega
    rw [show l.length - i = (l.length - (i + 1)) + 1 by omega, markedGo] at hx
    conv => whnf
    repeat' (first | (refine sel_i (fun h => ?_) (fun h => ?_) <;> conv => whnf) | (refine chk_c ?_ ?_ <;> conv => whnf) | (refine And.intro ?_ rfl) | (refine And.intro ?_ ?_ <;> conv => whnf))
    all_goals (try simp only [Int.toNat_natCast, Bool.not_eq_true', Bool.not_eq_false', inR_t, inR_f, decide_eq_true_eq, decide_eq_false_iff_not] at *)
    all_goals (try simp (disch := omega) only [wrap_id] at *)
    all_goals (try simp only [hp] at *)
    all_goals first
      | (refine ⟨?_⟩; omega)
      | (rw [hf.2 (by omega)] at hx; rw [← hx]; rfl)
      | skip
    all_goals (have hc : spanChk l i = true := hv.2 (by omega); simp only [hc, if_true] at hx)
    all_goals generalize l.getD i (FT.zero .span) = s at *
    all_goals (have w1 : IntKind.i64.wrap (s.at_ + s.len) = s.at_ + s.len := wrap_id (by omega) (by omega))
    all_goals (
      refine loop (α := Int × List Bool) (fun q => ⟨[(0, .v (.c (.sl false .bool 0))), (1, .v (.c (.sl false .span 1))), (6, .v (.c (.ptr 2 0))), (7, .v (.c (.int .i64 q.1))), (8, .v (.c (.sl false .span 1))), (9, .v (.c (.int .i64 (l.length : Int)))), (10, .v (.c (.int .i64 (i : Int))))],
            [(2, some (.box true [.int .i64 s.at_, .int .i64 s.len])), (1, some (.flat false .span none l)), (0, some (.flat true .bool none q.2))], nums.tail.tail.tail, [.v (.c (.sl false .bool 0))], false, []⟩)
          (fun q => (s.at_ ≤ q.1 ∧ q.1 ≤ s.at_ + s.len) ∧ q.2.length = 24 ∧ markRun (s.at_ + s.len - q.1).toNat q.1.toNat q.2 = markRun s.len.toNat s.at_.toNat v) (fun q => (s.at_ + s.len - q.1).toNat) (fun q R2 hI2 hR2 => ?_) (s.at_, v) _ ⟨by dsimp only; omega, hl, by dsimp only; congr 1; omega⟩ (by dsimp only; omega)
      obtain ⟨n, v2⟩ := q
      obtain ⟨gn, gl, gx⟩ := hI2
      dsimp only at gn gl gx
      dsimp only
      conv => whnf
      rw [w1]
      refine sel_i (fun h => ?_) (fun h => ?_)
      · have hn : n < s.at_ + s.len := by simpa using h
        clear h
        rw [show (s.at_ + s.len - n).toNat = (s.at_ + s.len - (n + 1)).toNat + 1 by omega, markRun] at gx
        conv => whnf
        repeat' (first | (refine sel_i (fun h => ?_) (fun h => ?_) <;> conv => whnf) | (refine chk_c ?_ ?_ <;> conv => whnf) | (refine And.intro ?_ rfl) | (refine And.intro ?_ ?_ <;> conv => whnf))
        all_goals (try (refine ⟨?_⟩; omega))
        · have g : v2.getD n.toNat false = true := h
          simp only [g, if_true] at gx
          rw [← gx] at hx
          rw [← hx]; rfl
        · have g : v2.getD n.toNat false = true := h
          simp only [g, if_true] at gx
          rw [← gx] at hx
          rw [← hx]; rfl
        · have g : v2.getD n.toNat false = false := h
          simp only [g, Bool.false_eq_true, if_false] at gx
          rw [wrap_id (n := n + 1) (by omega) (by omega)]
          exact hR2 (n + 1, v2.set n.toNat true) ⟨by dsimp only; omega, by simpa using gl, by dsimp only; rw [← gx]; congr 1; omega⟩ (by dsimp only; omega)
      · have hn : n = s.at_ + s.len := by simp at h; omega
        rw [show (s.at_ + s.len - n).toNat = 0 by omega, markRun] at gx
        rw [← gx] at hx
        simp only [if_true] at hx
        conv => whnf
        rw [wrap_id (n := (i : Int) + 1) (by omega) (by omega)]
        exact hR (i + 1, v2) ⟨hlt, gl, hx⟩ (by dsimp only; omega))
  · have e : i = l.length := by simp at h; omega
    subst e
    rw [Nat.sub_self, markedGo] at hx
    rw [← hx]
    conv => whnf
    exact ⟨rfl, rfl⟩
theorem ok_impl_marked : FunOk Try.prog c_impl_marked := funOk (E := [c_impl_in]) (envOk_cons ok_impl_in (envOk_nil)) mixd Try.func134 (pf := pf_impl_marked) (by kernel_rfl) fun ts K h => by
  obtain ⟨t0, t1, e0, h⟩ := as2_out h
  subst e0
  obtain ⟨u, e1, hq⟩ := arC_out (rd_o .bool) h
  clear h
  subst e1
  have h := hq
  clear hq
  obtain ⟨l, e1, hq⟩ := arC_out (rd_l .span) h
  clear h
  subst e1
  have h := hq
  clear hq
  obtain ⟨hpre, h⟩ := chk_o h
  exact ⟨_, _, h, Nat.le_of_ble_eq_true (show Nat.ble 2 Try.f134.ntmps = true by kernel_rfl), _, run_impl_marked u l hpre⟩
end Go.Pi
