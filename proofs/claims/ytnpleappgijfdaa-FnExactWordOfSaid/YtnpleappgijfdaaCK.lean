/- Contracts of functions, each out of its run by PI. No conditions. -/
import Derived.Test.YtnpleappgijfdaaCJ
namespace Go.Pi
open Go.Proofs
set_option linter.unusedVariables false
set_option linter.unusedSimpArgs false
set_option maxRecDepth 100000
attribute [local irreducible] iterN
def lb_laws_toByteS_0 : PC := .seq (.seq (.reg [.s (.mv 8 (.t 4)), .s (.mv 9 (.t 0)), .s (.len 10 false (.t 9)), .s (.bin 11 .lss (.t 8) (.t 10))]) (.cond (.t 11) (.skip) (.exit 0))) (.seq (.blk 1 (.reg [.s (.mv 14 (.t 3)), .s (.mv 15 (.t 4)), .s (.mv 16 (.t 0)), .s (.mv 17 (.t 4)), .s (.ia 18 (.int .u8) (.t 16) (.t 17)), .s (.load 19 false 1 (.t 18)), .s (.ia 20 (.int .u8) (.t 14) (.t 15)), .s (.store 1 (.t 20) (.t 19))])) (.reg [.s (.mv 12 (.t 4)), .s (.bin 13 .add (.t 12) (.k (.v (.c (.int .i64 1))))), .s (.mv 4 (.t 13))]))
def pf_laws_toByteS : PF := ⟨[.t 2], .seq (.reg [.s (.mv 2 (.k (.v (.c (.nils (.int .u8))))))]) (.seq (.reg [.s (.mv 5 (.t 0)), .s (.len 6 false (.t 5)), .s (.mkS 7 (.int .u8) (.t 6)), .s (.mv 3 (.t 7))]) (.seq (.seq (.reg [.s (.mv 4 (.k (.v (.c (.int .i64 0)))))]) (.blk 0 (.loop [0, 3, 4] lb_laws_toByteS_0))) (.seq (.reg [.s (.mv 21 (.t 3)), .s (.mv 2 (.t 21))]) (.ret))))⟩
def c_laws_toByteS : Fun := ⟨33, [], fun ts K => as1 ts fun t0 => arC (pL (.int .u8)) t0 fun a => chk (a.length ≤ 2147483647) (K (tL true (.int .u8) a) [])⟩
theorem run_laws_toByteS (a : List (FT.Ty (.int .u8))) (hpre : a.length ≤ 2147483647) : runK [] (a.length + 1) [] pf_laws_toByteS [tL false (.int .u8) a] fun r o => r = tL true (.int .u8) a ∧ o = [] := by
  conv => whnf
  refine chk_i ⟨by omega, by omega⟩ ?_
  conv => whnf
  refine loop (α := Nat × List (FT.Ty (.int .u8))) (fun p => ⟨[(0, .v (.c (.sl false (.int .u8) 0))), (3, .v (.c (.sl true (.int .u8) 1))), (4, .v (.c (.int .i64 (p.1 : Int))))], [(1, some (.flat true (.int .u8) none p.2)), (0, some (.flat false (.int .u8) none a))], nums.tail.tail, [], false, []⟩)
      (fun p => p.1 ≤ a.length ∧ p.2 = a.take p.1 ++ (List.replicate a.length (FT.zero (.int .u8))).drop p.1) (fun p => a.length - p.1) (fun p R hI hR => ?_) (0, List.replicate a.length (FT.zero (.int .u8))) _ ⟨by simp, by simp⟩ (by simp)
  obtain ⟨i, xs⟩ := p
  obtain ⟨hi, hx⟩ := hI
  dsimp only at hi hx
  have hlen : xs.length = a.length := by rw [hx]; simp; omega
  dsimp only
  conv => whnf
  refine sel_i (fun h2 => ?_) (fun h2 => ?_)
  · have hlt : i < a.length := by simp at h2; omega
    have hge : a[i]? = some (a.getD i (FT.zero (.int .u8))) := by simp [List.getD_eq_getElem?_getD, hlt]
    conv => whnf
    repeat' (refine chk_c ?_ ?_ <;> conv => whnf)
    all_goals first
      | (refine ⟨?_⟩; omega)
      | (refine ⟨?_⟩; simp; done)
      | (refine ⟨?_⟩; simp; omega)
      | skip
    simp (disch := omega) only [wrap_id, Int.toNat_natCast]
    exact hR (i + 1, xs.set i (a.getD i (FT.zero (.int .u8)))) ⟨by omega, by rw [hx]; exact set_mid (by simp) (by simpa using hlt) hge⟩ (by simp; omega)
  · have hge : i = a.length := by simp at h2; omega
    subst hge
    conv => whnf
    refine ⟨?_, rfl⟩
    rw [hx, List.take_of_length_le (by omega), List.drop_eq_nil_of_le (by simp), List.append_nil]
theorem ok_laws_toByteS : FunOk Try.prog c_laws_toByteS := funOk (E := []) (envOk_nil) mixd Try.func33 (pf := pf_laws_toByteS) (by kernel_rfl) fun ts K h => by
  obtain ⟨t0, e0, h⟩ := as1_out h
  subst e0
  obtain ⟨a, e1, hq⟩ := arC_out (rd_l (.int .u8)) h
  clear h
  subst e1
  have h := hq
  clear hq
  obtain ⟨hpre, h⟩ := chk_o h
  exact ⟨_, _, h, Nat.le_of_ble_eq_true (show Nat.ble 1 Try.f33.ntmps = true by kernel_rfl), _, run_laws_toByteS a hpre⟩

def elByte (c : Int) : Int := IntKind.u8.wrap (c)
def mkByteS (n : Nat) (k : Int) : List Int := (List.range n).map (fun j : Nat => elByte (k + 1 * j))
theorem mkByteS_length (n : Nat) (k : Int) : (mkByteS n k).length = n := by simp [mkByteS]

def lb_laws_eqByteS_0 : PC := .seq (.seq (.reg [.s (.mv 11 (.t 5)), .s (.mv 12 (.t 0)), .s (.len 13 false (.t 12)), .s (.bin 14 .lss (.t 11) (.t 13))]) (.cond (.t 14) (.skip) (.exit 0))) (.seq (.blk 1 (.seq (.rgd [.s (.mv 17 (.t 0)), .s (.mv 18 (.t 5)), .s (.ia 19 (.int .u8) (.t 17) (.t 18)), .s (.load 20 false 1 (.t 19)), .s (.mv 21 (.t 1)), .s (.mv 22 (.t 5)), .s (.ia 23 (.int .u8) (.t 21) (.t 22)), .s (.load 24 false 1 (.t 23)), .s (.bin 25 .neq (.t 20) (.t 24))] (.tk 0 (.tk 1 (.tk 2 (.tk 3 (.tk 4 (.tk 5 (.tk 6 (.tk 7 (.tk 8 (.done none))))))))))) (.cond (.t 25) (.seq (.reg [.s (.mv 4 (.k (.v (.c .ff))))]) (.ret)) (.skip)))) (.reg [.s (.mv 15 (.t 5)), .s (.bin 16 .add (.t 15) (.k (.v (.c (.int .i64 1))))), .s (.mv 5 (.t 16))]))
def pf_laws_eqByteS : PF := ⟨[.t 4], .seq (.reg [.s (.mv 4 (.k (.v (.c .ff))))]) (.seq (.seq (.reg [.s (.mv 6 (.t 0)), .s (.len 7 false (.t 6)), .s (.mv 8 (.t 1)), .s (.len 9 false (.t 8)), .s (.bin 10 .neq (.t 7) (.t 9))]) (.cond (.t 10) (.seq (.reg [.s (.mv 4 (.k (.v (.c .ff))))]) (.ret)) (.skip))) (.seq (.seq (.reg [.s (.mv 5 (.k (.v (.c (.int .i64 0)))))]) (.blk 0 (.loop [0, 1, 5] lb_laws_eqByteS_0))) (.seq (.reg [.s (.mv 4 (.k (.v (.c .tt))))]) (.ret))))⟩
def c_laws_eqByteS : Fun := ⟨29, [], fun ts K => as2 ts fun t0 t1 => arC (pL (.int .u8)) t0 fun a => arC (pL (.int .u8)) t1 fun b => chk (a.length ≤ 2147483647) (K (tB (decide (a = b))) [])⟩
theorem run_laws_eqByteS (a : List (FT.Ty (.int .u8))) (b : List (FT.Ty (.int .u8))) (hpre : a.length ≤ 2147483647) : runK [] (a.length + 1) [] pf_laws_eqByteS [tL false (.int .u8) a, tL false (.int .u8) b] fun r o => r = tB (decide (a = b)) ∧ o = [] := by
  conv => whnf
  refine sel_i (fun h => ?_) (fun h => ?_)
  · conv => whnf
    refine ⟨?_, rfl⟩
    simp at h
    simp
    intro e; subst e; simp at h
  · conv => whnf
    refine loop (α := Nat) (fun i => ⟨[(0, .v (.c (.sl false (.int .u8) 0))), (1, .v (.c (.sl false (.int .u8) 1))), (5, .v (.c (.int .i64 (i : Int))))], [(1, some (.flat false (.int .u8) none b)), (0, some (.flat false (.int .u8) none a))], nums.tail.tail, [], false, []⟩)
      (fun i => i ≤ a.length ∧ a.take i = b.take i) (fun i => a.length - i) (fun i R hI hR => ?_) 0 _ ⟨by simp, by simp⟩ (by omega)
    conv => whnf
    repeat' (first | (refine sel_i (fun h2 => ?_) (fun h2 => ?_) <;> conv => whnf) | (refine chk_c ?_ ?_ <;> conv => whnf))
    all_goals (have hl : a.length = b.length := by simp at h; omega)
    · exact ⟨by simp at h2; omega⟩
    · exact ⟨by simp at h2; omega⟩
    · exact ⟨by simp at h2; omega⟩
    · exact ⟨by simp at h2; omega⟩
    · refine ⟨?_, rfl⟩
      have hne : a ≠ b := fun e => by subst e; simp at h2
      simp [hne]
    · rename_i h3
      have hlt : i < a.length := by simpa using h3
      rw [wrap_id (n := (i : Int) + 1) (by omega) (by omega)]
      exact hR (i + 1) ⟨by omega, take_step (z := FT.zero (.int .u8)) hI.2 hlt (by omega) (by simpa using h2)⟩ (by omega)
    · refine ⟨?_, rfl⟩
      have hge : a.length ≤ i := by simpa using h2
      have : a = b := take_all hI.2 hge (by omega)
      simp [this]
theorem ok_laws_eqByteS : FunOk Try.prog c_laws_eqByteS := funOk (E := []) (envOk_nil) mixd Try.func29 (pf := pf_laws_eqByteS) (by kernel_rfl) fun ts K h => by
  obtain ⟨t0, t1, e0, h⟩ := as2_out h
  subst e0
  obtain ⟨a, e1, hq⟩ := arC_out (rd_l (.int .u8)) h
  clear h
  subst e1
  have h := hq
  clear hq
  obtain ⟨b, e1, hq⟩ := arC_out (rd_l (.int .u8)) h
  clear h
  subst e1
  have h := hq
  clear hq
  obtain ⟨hpre, h⟩ := chk_o h
  exact ⟨_, _, h, Nat.le_of_ble_eq_true (show Nat.ble 2 Try.f29.ntmps = true by kernel_rfl), _, run_laws_eqByteS a b hpre⟩

def lb_laws_markByteS_0 : PC := .seq (.seq (.reg [.s (.mv 6 (.t 5)), .s (.mv 7 (.t 0)), .s (.len 8 false (.t 7)), .s (.bin 9 .lss (.t 6) (.t 8))]) (.cond (.t 9) (.skip) (.exit 0))) (.seq (.blk 1 (.seq (.reg [.s (.mv 12 (.t 0)), .s (.mv 13 (.t 5)), .s (.mv 14 (.t 1)), .s (.conv 15 .u8 (.t 14)), .s (.ia 16 (.int .u8) (.t 12) (.t 13)), .s (.store 1 (.t 16) (.t 15))]) (.reg [.s (.mv 17 (.t 1)), .s (.bin 18 .add (.t 17) (.k (.v (.c (.int .i64 1))))), .s (.mv 1 (.t 18))]))) (.reg [.s (.mv 10 (.t 5)), .s (.bin 11 .add (.t 10) (.k (.v (.c (.int .i64 1))))), .s (.mv 5 (.t 11))]))
def pf_laws_markByteS : PF := ⟨[.t 4], .seq (.reg [.s (.mv 4 (.k (.v (.c (.int .i64 0)))))]) (.seq (.seq (.reg [.s (.mv 5 (.k (.v (.c (.int .i64 0)))))]) (.blk 0 (.loop [0, 1, 5] lb_laws_markByteS_0))) (.seq (.reg [.s (.mv 19 (.t 1)), .s (.mv 4 (.t 19))]) (.ret)))⟩
def c_laws_markByteS : Fun := ⟨30, [true, false], fun ts K => as2 ts fun t0 t1 => arC (pO (.int .u8)) t0 fun a => arC (pI .i64) t1 fun k => chk (0 ≤ k ∧ k ≤ 1125899906842624 ∧ a.length ≤ 2147483647) (K (tN (k + 1 * a.length)) ([tL true (.int .u8) (mkByteS a.length k)]))⟩
theorem run_laws_markByteS (a : List (FT.Ty (.int .u8))) (k : Int) (hpre : 0 ≤ k ∧ k ≤ 1125899906842624 ∧ a.length ≤ 2147483647) : runK [] (a.length + 1) [true, false] pf_laws_markByteS [tL true (.int .u8) a, tI .i64 k] fun r o => r = tN (k + 1 * a.length) ∧ o = [tL true (.int .u8) (mkByteS a.length k)] := by
  have hml : (mkByteS a.length k).length = a.length := by simp [mkByteS]
  conv => whnf
  refine loop (α := Nat × Int × List Int) (fun p => ⟨[(0, .v (.c (.sl false (.int .u8) 0))), (1, .v (.c (.int .i64 p.2.1))), (5, .v (.c (.int .i64 (p.1 : Int))))], [(0, some (.flat true (.int .u8) none p.2.2))], nums.tail, [.v (.c (.sl false (.int .u8) 0))], false, []⟩)
      (fun p => p.1 ≤ a.length ∧ p.2.1 = k + 1 * p.1 ∧ p.2.2 = (mkByteS a.length k).take p.1 ++ a.drop p.1) (fun p => a.length - p.1) (fun p R hI hR => ?_) (0, k, a) _ ⟨by simp, by simp, by simp⟩ (by simp)
  obtain ⟨i, c, xs⟩ := p
  obtain ⟨hi, hc, hx⟩ := hI
  dsimp only at hi hc hx
  have hlen : xs.length = a.length := by rw [hx]; simp [hml]; omega
  dsimp only
  conv => whnf
  refine sel_i (fun h2 => ?_) (fun h2 => ?_)
  · have hlt : i < a.length := by simp at h2; omega
    have hget : ∀ x : Int, (xs.set i x).getD i (FT.zero (.int .u8)) = x := fun x => by simp [List.getD_eq_getElem?_getD, hlen, hlt]
    have hmk : (mkByteS a.length k)[i]? = some (elByte c) := by simp [mkByteS, hlt, hc]
    conv => whnf
    repeat' (refine chk_c ?_ ?_ <;> conv => whnf)
    all_goals first
      | (refine ⟨?_⟩; omega)
      | (refine ⟨?_⟩; simp; done)
      | (refine ⟨?_⟩; simp; omega)
      | skip
    simp (disch := omega) only [wrap_id, Int.toNat_natCast, hget, List.set_set]
    exact hR (i + 1, c + 1, xs.set i (elByte c)) ⟨by omega, by simp; omega, by rw [hx]; exact set_mid hml hlt hmk⟩ (by simp; omega)
  · have hge : i = a.length := by simp at h2; omega
    subst hge
    conv => whnf
    refine ⟨by rw [hc], ?_⟩
    rw [hx, List.take_of_length_le (by omega), List.drop_eq_nil_of_le (by omega), List.append_nil]
theorem ok_laws_markByteS : FunOk Try.prog c_laws_markByteS := funOk (E := []) (envOk_nil) mixd Try.func30 (pf := pf_laws_markByteS) (by kernel_rfl) fun ts K h => by
  obtain ⟨t0, t1, e0, h⟩ := as2_out h
  subst e0
  obtain ⟨a, e1, hq⟩ := arC_out (rd_o (.int .u8)) h
  clear h
  subst e1
  have h := hq
  clear hq
  obtain ⟨k, e1, hq⟩ := arC_out (rd_int .i64) h
  clear h
  subst e1
  have h := hq
  clear hq
  obtain ⟨hpre, h⟩ := chk_o h
  exact ⟨_, _, h, Nat.le_of_ble_eq_true (show Nat.ble 2 Try.f30.ntmps = true by kernel_rfl), _, run_laws_markByteS a k hpre⟩

def lb_laws_heldByteS_0 : PC := .seq (.seq (.reg [.s (.mv 6 (.t 5)), .s (.mv 7 (.t 0)), .s (.len 8 false (.t 7)), .s (.bin 9 .lss (.t 6) (.t 8))]) (.cond (.t 9) (.skip) (.exit 0))) (.seq (.blk 1 (.seq (.seq (.reg [.s (.mv 12 (.t 0)), .s (.mv 13 (.t 5)), .s (.ia 14 (.int .u8) (.t 12) (.t 13)), .s (.load 15 false 1 (.t 14)), .s (.mv 16 (.t 1)), .s (.conv 17 .u8 (.t 16)), .s (.bin 18 .neq (.t 15) (.t 17))]) (.cond (.t 18) (.seq (.reg [.s (.mv 4 (.k (.v (.c (.int .i64 (-1))))))]) (.ret)) (.skip))) (.reg [.s (.mv 19 (.t 1)), .s (.bin 20 .add (.t 19) (.k (.v (.c (.int .i64 1))))), .s (.mv 1 (.t 20))]))) (.reg [.s (.mv 10 (.t 5)), .s (.bin 11 .add (.t 10) (.k (.v (.c (.int .i64 1))))), .s (.mv 5 (.t 11))]))
def pf_laws_heldByteS : PF := ⟨[.t 4], .seq (.reg [.s (.mv 4 (.k (.v (.c (.int .i64 0)))))]) (.seq (.seq (.reg [.s (.mv 5 (.k (.v (.c (.int .i64 0)))))]) (.blk 0 (.loop [0, 1, 5] lb_laws_heldByteS_0))) (.seq (.reg [.s (.mv 21 (.t 1)), .s (.mv 4 (.t 21))]) (.ret)))⟩
def c_laws_heldByteS : Fun := ⟨31, [], fun ts K => as2 ts fun t0 t1 => arC (pL (.int .u8)) t0 fun a => arC (pI .i64) t1 fun k => chk (0 ≤ k ∧ k ≤ 1125899906842624 ∧ a.length ≤ 2147483647) (K (tN (hres (a = mkByteS a.length k) (k + 1 * a.length))) [])⟩
theorem run_laws_heldByteS (a : List (FT.Ty (.int .u8))) (k : Int) (hpre : 0 ≤ k ∧ k ≤ 1125899906842624 ∧ a.length ≤ 2147483647) : runK [] (a.length + 1) [] pf_laws_heldByteS [tL false (.int .u8) a, tI .i64 k] fun r o => r = tN (hres (a = mkByteS a.length k) (k + 1 * a.length)) ∧ o = [] := by
  have hml : (mkByteS a.length k).length = a.length := by simp [mkByteS]
  conv => whnf
  refine loop (α := Nat × Int) (fun p => ⟨[(0, .v (.c (.sl false (.int .u8) 0))), (1, .v (.c (.int .i64 p.2))), (5, .v (.c (.int .i64 (p.1 : Int))))], [(0, some (.flat false (.int .u8) none a))], nums.tail, [], false, []⟩)
      (fun p => p.1 ≤ a.length ∧ p.2 = k + 1 * p.1 ∧ a.take p.1 = (mkByteS a.length k).take p.1) (fun p => a.length - p.1) (fun p R hI hR => ?_) (0, k) _ ⟨by simp, by simp, by simp⟩ (by simp)
  obtain ⟨i, c⟩ := p
  obtain ⟨hi, hc, hx⟩ := hI
  dsimp only at hi hc hx
  dsimp only
  conv => whnf
  refine sel_i (fun h2 => ?_) (fun h2 => ?_)
  · have hlt : i < a.length := by simp at h2; omega
    have hmk : (mkByteS a.length k).getD i (FT.zero (.int .u8)) = elByte c := by simp [mkByteS, List.getD_eq_getElem?_getD, hlt, hc]
    have hne : a.getD i (FT.zero (.int .u8)) ≠ elByte c → a ≠ mkByteS a.length k := fun h e => h (by rw [← hmk, ← e])
    conv => whnf
    repeat' (first | (refine sel_i (fun h2 => ?_) (fun h2 => ?_) <;> conv => whnf) | (refine chk_c ?_ ?_ <;> conv => whnf))
    all_goals first
      | (refine ⟨?_⟩; omega)
      | (refine ⟨?_⟩; simp; done)
      | (refine ⟨?_⟩; simp; omega)
      | (refine ⟨?_, rfl⟩
         rw [hres_no (hne (fun e => by
           simp (disch := omega) only [wrap_id, Int.toNat_natCast, e] at h2
           simp [elByte] at h2))])
      | skip
    rename_i e0
    simp (disch := omega) only [wrap_id, Int.toNat_natCast] at h2 ⊢
    have he : a.getD i (FT.zero (.int .u8)) = elByte c := by
      generalize a.getD i (FT.zero (.int .u8)) = v at h2
      simp at h2
      simp [elByte, *]
    exact hR (i + 1, c + 1) ⟨by omega, by simp; omega, take_step hx hlt (by omega) (he.trans hmk.symm)⟩ (by simp; omega)
  · have hge : i = a.length := by simp at h2; omega
    subst hge
    conv => whnf
    refine ⟨?_, rfl⟩
    rw [List.take_of_length_le (by omega), List.take_of_length_le (by omega)] at hx
    rw [hres_yes hx, hc]
theorem ok_laws_heldByteS : FunOk Try.prog c_laws_heldByteS := funOk (E := []) (envOk_nil) mixd Try.func31 (pf := pf_laws_heldByteS) (by kernel_rfl) fun ts K h => by
  obtain ⟨t0, t1, e0, h⟩ := as2_out h
  subst e0
  obtain ⟨a, e1, hq⟩ := arC_out (rd_l (.int .u8)) h
  clear h
  subst e1
  have h := hq
  clear hq
  obtain ⟨k, e1, hq⟩ := arC_out (rd_int .i64) h
  clear h
  subst e1
  have h := hq
  clear hq
  obtain ⟨hpre, h⟩ := chk_o h
  exact ⟨_, _, h, Nat.le_of_ble_eq_true (show Nat.ble 2 Try.f31.ntmps = true by kernel_rfl), _, run_laws_heldByteS a k hpre⟩

def orI (a b : Int) : Int := IntKind.i64.wrap (BitVec.ofInt IntKind.i64.bits a ||| BitVec.ofInt IntKind.i64.bits b).toNat
theorem orI_eq (a b : Int) : IntKind.i64.wrap (BitVec.ofInt IntKind.i64.bits a ||| BitVec.ofInt IntKind.i64.bits b).toNat = orI a b := rfl
def U8s (b : List Int) : Prop := ∀ x ∈ b, 0 ≤ x ∧ x ≤ 255
theorem wfU8 {x : Int} (h : wfI .u8 x) : 0 ≤ x ∧ x ≤ 255 := by
  have h : (decide (IntKind.u8.min ≤ x) && decide (x ≤ IntKind.u8.max)) = true := h
  simp at h
  have e1 : IntKind.u8.min = 0 := rfl
  have e2 : IntKind.u8.max = 255 := rfl
  omega
theorem U8s.at {b : List Int} (h : U8s b) (i : Nat) : 0 ≤ b.getD i 0 ∧ b.getD i 0 ≤ 255 := by
  rw [List.getD_eq_getElem?_getD]
  cases e : b[i]? with
  | none => simp
  | some x => exact h x (List.mem_of_getElem? e)
theorem orI_add {x y : Int} (hx : 0 ≤ x ∧ x ≤ 255) (hy : 0 ≤ y ∧ y ≤ 255) : orI (x * 256) y = x * 256 + y := by
  obtain ⟨m, rfl⟩ := Int.eq_ofNat_of_zero_le hx.1
  obtain ⟨n, rfl⟩ := Int.eq_ofNat_of_zero_le hy.1
  have e : (m * 256 : Nat) ||| n = m * 256 + n := by
    have := Nat.two_pow_add_eq_or_of_lt (i := 8) (b := n) (by omega) m
    rw [Nat.mul_comm]; exact this.symm
  unfold orI
  rw [show ((m : Int) * 256) = ((m * 256 : Nat) : Int) by omega, BitVec.ofInt_natCast, BitVec.ofInt_natCast, BitVec.toNat_or, BitVec.toNat_ofNat, BitVec.toNat_ofNat]
  rw [Nat.mod_eq_of_lt (a := m * 256) (by show _ < 2 ^ 64; omega), Nat.mod_eq_of_lt (a := n) (by show _ < 2 ^ 64; omega), e]
  rw [wrap_id (by omega) (by omega)]; omega
theorem andI_255 {n : Int} (h : 0 ≤ n ∧ n ≤ 65535) : andI n 255 = n % 256 := by
  obtain ⟨m, rfl⟩ := Int.eq_ofNat_of_zero_le h.1
  have e : m &&& 255 = m % 256 := Nat.and_two_pow_sub_one_eq_mod m 8
  unfold andI
  rw [show (255 : Int) = ((255 : Nat) : Int) by rfl, BitVec.ofInt_natCast, BitVec.ofInt_natCast, BitVec.toNat_and, BitVec.toNat_ofNat, BitVec.toNat_ofNat]
  rw [Nat.mod_eq_of_lt (a := m) (by show _ < 2 ^ 64; omega), Nat.mod_eq_of_lt (a := 255) (by decide), e]
  rw [wrap_id (by omega) (by omega)]; omega
theorem u8_id {n : Int} (h : 0 ≤ n ∧ n ≤ 255) : IntKind.u8.wrap n = n := by
  show n % 256 = n
  omega
theorem hi8 {n : Int} (h : 0 ≤ n ∧ n ≤ 65535) : IntKind.u8.wrap (n.fdiv (2 ^ min (Int.toNat 8) IntKind.i64.bits)) = n / 256 := by
  rw [show (2 ^ min (Int.toNat 8) IntKind.i64.bits : Int) = 256 by decide, Int.fdiv_eq_ediv_of_nonneg _ (by decide), u8_id (by omega)]
theorem lo8 {n : Int} (h : 0 ≤ n ∧ n ≤ 65535) : IntKind.u8.wrap (andI n 255) = n % 256 := by
  rw [andI_255 h, u8_id (by omega)]
theorem two8 {x y : Int} (hx : 0 ≤ x ∧ x ≤ 255) (hy : 0 ≤ y ∧ y ≤ 255) : orI (IntKind.i64.wrap (IntKind.i64.wrap x * 2 ^ min (Int.toNat 8) IntKind.i64.bits)) (IntKind.i64.wrap y) = x * 256 + y := by
  rw [show (2 ^ min (Int.toNat 8) IntKind.i64.bits : Int) = 256 by decide, wrap_id (n := x) (by omega) (by omega), wrap_id (n := y) (by omega) (by omega), wrap_id (by omega) (by omega), orI_add hx hy]
def wordBytes (w : Word) : List Int :=
  if wordOk w then (if w.is then [w.n / 256, w.n % 256, 1, w.key.base / 256, w.key.base % 256, w.key.top / 256, w.key.top % 256, w.key.perms, w.key.sealed] else [w.n / 256, w.n % 256, 0]) else []
theorem wordOk_n {w : Word} (h : wordOk w = true) : 0 ≤ w.n ∧ w.n ≤ 65535 := by
  simp only [wordOk, Bool.and_eq_true] at h; simpa [inR] using h.1
theorem wordOk_key {w : Word} (h : wordOk w = true) (h2 : w.is = true) : 0 ≤ w.key.base ∧ w.key.base ≤ w.key.top ∧ w.key.top ≤ 4096 ∧ 0 ≤ w.key.perms ∧ w.key.perms ≤ 63 ∧ 0 ≤ w.key.sealed ∧ w.key.sealed ≤ 7 := by
  simp only [wordOk, h2, if_true, Bool.and_eq_true, keyOk, exact_] at h
  have := bounds_n h.2.1.1.1.1
  have h3 := h.2.1.2
  have h4 := h.2.2
  simp [inR] at h3 h4
  omega
theorem zu8 : FT.zero (.int .u8) = (0 : Int) := rfl
theorem win_at {b : List Int} {o n i : Nat} (h : i < n) : (win b o n).getD i 0 = b.getD (o + i) 0 := by
  simp [win, List.getD_eq_getElem?_getD, List.getElem?_take, h]
theorem win_len {α : Type} {b : List α} {o n : Nat} (h : o + n ≤ b.length) : (win b o n).length = n := by
  simp [win]; omega
theorem U8s.win {b : List Int} (h : U8s b) (o n : Nat) : U8s (win b o n) := fun x hx => h x (List.mem_of_mem_drop (List.mem_of_mem_take hx))
theorem tn (n : Nat) : Int.toNat (OfNat.ofNat n) = n := rfl
theorem tn2 : Int.toNat 2 = 2 := rfl
theorem tn3 : Int.toNat 3 = 3 := rfl
theorem tn5 : Int.toNat 5 = 5 := rfl
theorem tn7 : Int.toNat 7 = 7 := rfl
theorem tn8 : Int.toNat 8 = 8 := rfl

def pf_spec_WordBytes : PF := ⟨[.t 2], .seq (.reg [.s (.box 1 (.t 0)), .s (.mv 2 (.k (.v (.c (.nils (.int .u8))))))]) (.seq (.seq (.reg [.s (.load 5 true 6 (.t 1)), .s (.call (some 6) 63 [(.t 5)]), .s (.bnot 7 (.t 6))]) (.cond (.t 7) (.seq (.reg [.s (.bs 8 (.int .u8) []), .s (.mv 2 (.t 8))]) (.ret)) (.skip))) (.seq (.reg [.s (.fa 9 (.t 1) 0), .s (.load 10 false 1 (.t 9)), .s (.bin 11 .shr (.t 10) (.k (.v (.c (.int .u64 8))))), .s (.conv 12 .u8 (.t 11)), .s (.fa 13 (.t 1) 0), .s (.load 14 false 1 (.t 13)), .s (.bin 15 .and (.t 14) (.k (.v (.c (.int .i64 255))))), .s (.conv 16 .u8 (.t 15)), .s (.bs 17 (.int .u8) [(.t 12), (.t 16)]), .s (.mv 3 (.t 17))]) (.seq (.seq (.reg [.s (.fa 18 (.t 1) 1), .s (.load 19 false 1 (.t 18)), .s (.bnot 20 (.t 19))]) (.cond (.t 20) (.seq (.reg [.s (.mv 21 (.t 3)), .s (.bs 22 (.int .u8) [(.k (.v (.c (.int .u8 0))))]), .s (.app 23 (.int .u8) (.t 21) (.t 22)), .s (.mv 2 (.t 23))]) (.ret)) (.skip))) (.seq (.reg [.s (.fa 24 (.t 1) 2), .s (.load 25 true 4 (.t 24)), .s (.alloc 4 [.int .i64 0, .int .i64 0, .int .i64 0, .int .i64 0]), .s (.store 4 (.t 4) (.t 25))]) (.seq (.reg [.s (.mv 26 (.t 3)), .s (.fa 27 (.t 4) 0), .s (.load 28 false 1 (.t 27)), .s (.bin 29 .shr (.t 28) (.k (.v (.c (.int .u64 8))))), .s (.conv 30 .u8 (.t 29)), .s (.fa 31 (.t 4) 0), .s (.load 32 false 1 (.t 31)), .s (.bin 33 .and (.t 32) (.k (.v (.c (.int .i64 255))))), .s (.conv 34 .u8 (.t 33)), .s (.fa 35 (.t 4) 1), .s (.load 36 false 1 (.t 35)), .s (.bin 37 .shr (.t 36) (.k (.v (.c (.int .u64 8))))), .s (.conv 38 .u8 (.t 37)), .s (.fa 39 (.t 4) 1), .s (.load 40 false 1 (.t 39)), .s (.bin 41 .and (.t 40) (.k (.v (.c (.int .i64 255))))), .s (.conv 42 .u8 (.t 41)), .s (.fa 43 (.t 4) 2), .s (.load 44 false 1 (.t 43)), .s (.conv 45 .u8 (.t 44)), .s (.fa 46 (.t 4) 3), .s (.load 47 false 1 (.t 46)), .s (.conv 48 .u8 (.t 47)), .s (.bs 49 (.int .u8) [(.k (.v (.c (.int .u8 1)))), (.t 30), (.t 34), (.t 38), (.t 42), (.t 45), (.t 48)]), .s (.app 50 (.int .u8) (.t 26) (.t 49)), .s (.mv 2 (.t 50))]) (.ret))))))⟩
def c_spec_WordBytes : Fun := ⟨26, [], fun ts K => as1 ts fun t0 => arG pWordT t0 fun w => K (tL true (.int .u8) (wordBytes w)) []⟩
theorem run_spec_WordBytes (w : Word) : runK [c_spec_WordOk] (0) [] pf_spec_WordBytes [tG (w.tc [])] fun r o => r = tL true (.int .u8) (wordBytes w) ∧ o = [] := by
  conv => whnf
  repeat' (first | (refine sel_i (fun h => ?_) (fun h => ?_) <;> conv => whnf) | (refine chk_c ?_ ?_ <;> conv => whnf) | (refine And.intro ?_ rfl) | (refine And.intro ?_ ?_ <;> conv => whnf))
  all_goals (try simp only [etaKey, etaWord, Bool.not_eq_true', Bool.not_eq_false', andI_eq] at *)
  all_goals first
    | (refine ⟨?_⟩; decide)
    | (refine ⟨?_⟩; show 3 ≤ 2147483647; decide)
    | (refine ⟨?_⟩; show 9 ≤ 2147483647; decide)
    | (simp only [wordBytes, *]; rfl)
    | (rename_i h1
       have h2 := h
       have hn := wordOk_n h1
       rw [hi8 hn, lo8 hn]
       simp only [wordBytes, h1, h2, if_true, Bool.false_eq_true, if_false]; rfl)
    | (rename_i h1
       have h2 := h
       have hn := wordOk_n h1
       have hk := wordOk_key h1 h2
       rw [hi8 hn, lo8 hn, hi8 (by omega), lo8 (by omega), hi8 (by omega), lo8 (by omega), u8_id (by omega), u8_id (by omega)]
       simp only [wordBytes, h1, h2, if_true]; rfl)
    | trace_state
theorem ok_spec_WordBytes : FunOk Try.prog c_spec_WordBytes := funOk (E := [c_spec_WordOk]) (envOk_cons ok_spec_WordOk (envOk_nil)) mixd Try.func26 (pf := pf_spec_WordBytes) (by kernel_rfl) fun ts K h => by
  obtain ⟨t0, e0, h⟩ := as1_out h
  subst e0
  obtain ⟨w, e1, hq⟩ := arG_out rd_word h
  clear h
  subst e1
  have h := hq
  clear hq
  exact ⟨_, _, h, Nat.le_of_ble_eq_true (show Nat.ble 1 Try.f26.ntmps = true by kernel_rfl), _, run_spec_WordBytes w⟩

def pf_impl_twoOf : PF := ⟨[.t 2], .seq (.reg [.s (.mv 2 (.k (.v (.c (.int .i64 0)))))]) (.seq (.rgd [.s (.mv 3 (.t 0)), .s (.ia 4 (.int .u8) (.t 3) (.k (.v (.c (.int .i64 0))))), .s (.load 5 false 1 (.t 4)), .s (.conv 6 .i64 (.t 5)), .s (.bin 7 .shl (.t 6) (.k (.v (.c (.int .u64 8))))), .s (.mv 8 (.t 0)), .s (.ia 9 (.int .u8) (.t 8) (.k (.v (.c (.int .i64 1))))), .s (.load 10 false 1 (.t 9)), .s (.conv 11 .i64 (.t 10)), .s (.bin 12 .or (.t 7) (.t 11)), .s (.mv 2 (.t 12))] (.tk 0 (.tk 1 (.tk 2 (.tk 3 (.tk 4 (.tk 5 (.tk 6 (.tk 7 (.tk 8 (.tk 9 (.tk 10 (.done none))))))))))))) (.ret))⟩
def c_impl_twoOf : Fun := ⟨69, [], fun ts K => as1 ts fun t0 => arC (pL (.int .u8)) t0 fun b => chk (2 ≤ b.length ∧ U8s b) (K (tN (b.getD 0 0 * 256 + b.getD 1 0)) [])⟩
theorem run_impl_twoOf (b : List (FT.Ty (.int .u8))) (hpre : 2 ≤ b.length ∧ U8s b) : runK [] (0) [] pf_impl_twoOf [tL false (.int .u8) b] fun r o => r = tN (b.getD 0 0 * 256 + b.getD 1 0) ∧ o = [] := by
  obtain ⟨l1, l2⟩ := hpre
  conv => whnf
  repeat' (first | (refine sel_i (fun h => ?_) (fun h => ?_) <;> conv => whnf) | (refine chk_c ?_ ?_ <;> conv => whnf) | (refine And.intro ?_ rfl) | (refine And.intro ?_ ?_ <;> conv => whnf))
  all_goals first
    | (refine ⟨?_⟩; decide)
    | (refine ⟨?_⟩; show (0 : Int) ≤ 0 ∧ 0 < (b.length : Int); omega)
    | (refine ⟨?_⟩; show (0 : Int) ≤ 1 ∧ 1 < (b.length : Int); omega)
    | (refine ⟨?_⟩; show 0 < b.length; omega)
    | (refine ⟨?_⟩; show 1 < b.length; omega)
    | (simp only [orI_eq, zu8]; rw [two8 (l2.at _) (l2.at _)]; rfl)
    | trace_state
theorem ok_impl_twoOf : FunOk Try.prog c_impl_twoOf := funOk (E := []) (envOk_nil) mixd Try.func69 (pf := pf_impl_twoOf) (by kernel_rfl) fun ts K h => by
  obtain ⟨t0, e0, h⟩ := as1_out h
  subst e0
  obtain ⟨b, e1, hq⟩ := arC_out (rd_l (.int .u8)) h
  clear h
  subst e1
  have h := hq
  clear hq
  obtain ⟨hpre, h⟩ := chk_o h
  exact ⟨_, _, h, Nat.le_of_ble_eq_true (show Nat.ble 1 Try.f69.ntmps = true by kernel_rfl), _, run_impl_twoOf b hpre⟩

def wordAt (b : List Int) (i : Nat) : Word := ⟨b.getD i 0 * 256 + b.getD (i + 1) 0, true, ⟨b.getD (i + 3) 0 * 256 + b.getD (i + 4) 0, b.getD (i + 5) 0 * 256 + b.getD (i + 6) 0, b.getD (i + 7) 0, b.getD (i + 8) 0⟩⟩
def wordOf (b : List Int) (a : Int) : Option (Word × Int) :=
  if inR a 0 (b.length - 3) then
    (if b.getD (a.toNat + 2) 0 = 0 then some (⟨b.getD a.toNat 0 * 256 + b.getD (a.toNat + 1) 0, false, ⟨0, 0, 0, 0⟩⟩, a + 3)
     else if b.getD (a.toNat + 2) 0 = 1 ∧ a + 9 ≤ b.length ∧ wordOk (wordAt b a.toNat) = true then some (wordAt b a.toNat, a + 9) else none)
  else none
def wordOfT (o : Option (Word × Int)) : Tree := .tup [.g ((o.getD (⟨0, false, ⟨0, 0, 0, 0⟩⟩, 0)).1.tc []), .c (.int .i64 (o.getD (⟨0, false, ⟨0, 0, 0, 0⟩⟩, 0)).2), .c (.bool o.isSome)]
theorem wordOf_out {b : List Int} {a : Int} (h : inR a 0 (b.length - 3) = false) : wordOf b a = none := by simp [wordOf, h]
theorem wordOf_plain {b : List Int} {a : Int} (h : inR a 0 (b.length - 3) = true) (h2 : b.getD (a.toNat + 2) 0 = 0) : wordOf b a = some (⟨b.getD a.toNat 0 * 256 + b.getD (a.toNat + 1) 0, false, ⟨0, 0, 0, 0⟩⟩, a + 3) := by simp only [wordOf, h, h2, if_true]
theorem wordOf_key {b : List Int} {a : Int} (h : inR a 0 (b.length - 3) = true) (h2 : b.getD (a.toNat + 2) 0 = 1) (h3 : a + 9 ≤ b.length) (h4 : wordOk (wordAt b a.toNat) = true) : wordOf b a = some (wordAt b a.toNat, a + 9) := by
  simp only [wordOf, h, h2, h3, h4, if_true]; rfl
theorem wordOf_no {b : List Int} {a : Int} (h2 : b.getD (a.toNat + 2) 0 ≠ 0) (h3 : ¬ (b.getD (a.toNat + 2) 0 = 1 ∧ a + 9 ≤ b.length ∧ wordOk (wordAt b a.toNat) = true)) : wordOf b a = none := by
  simp only [wordOf, h2, h3, if_false]; simp
theorem strI_inj {xs ys : List Int} (hx : U8s xs) (hy : U8s ys) (h : strI xs = strI ys) : xs = ys := by
  have h1 : xs.map (fun n => UInt8.ofNat n.toNat) = ys.map (fun n => UInt8.ofNat n.toNat) := by
    have := congrArg (fun s => s.data.toList) h
    simpa [strI] using this
  clear h
  induction xs generalizing ys with
  | nil => cases ys with
    | nil => rfl
    | cons y ys => simp at h1
  | cons x xs ih => cases ys with
    | nil => simp at h1
    | cons y ys =>
      simp only [List.map_cons, List.cons.injEq] at h1
      have e := ih (fun z hz => hx z (by simp [hz])) (fun z hz => hy z (by simp [hz])) h1.2
      have a1 := hx x (by simp)
      have a2 := hy y (by simp)
      have h2 := congrArg UInt8.toNat h1.1
      simp only [UInt8.toNat_ofNat'] at h2
      rw [e, show x = y by omega]
theorem beqS (a b : ByteArray) : (a == b) = decide (a = b) := by
  obtain ⟨a⟩ := a
  obtain ⟨b⟩ := b
  rw [Bool.eq_iff_iff]
  simp only [decide_eq_true_eq, ByteArray.mk.injEq]
  show (a == b) = true ↔ _
  exact beq_iff_eq
theorem strI_eq {xs ys : List Int} (hx : U8s xs) (hy : U8s ys) : (strI xs == strI ys) = decide (xs = ys) := by
  rw [beqS, Bool.eq_iff_iff]; simp only [decide_eq_true_eq]
  exact ⟨strI_inj hx hy, fun h => by rw [h]⟩
theorem wordBytes_u8 (w : Word) : U8s (wordBytes w) := by
  intro x hx
  unfold wordBytes at hx
  split at hx
  · rename_i h
    have hn := wordOk_n h
    split at hx
    · rename_i h2
      have hk := wordOk_key h h2
      simp at hx
      omega
    · simp at hx
      omega
  · cases hx
theorem win3 {b : List Int} {a : Nat} (h : a + 3 ≤ b.length) : win b a 3 = [b.getD a 0, b.getD (a + 1) 0, b.getD (a + 2) 0] := by
  apply List.ext_getElem
  · rw [win_len h]; rfl
  · intro i h1 h2
    have hi : i < 3 := by simpa using h2
    have e := win_at (b := b) (o := a) hi
    rw [List.getD_eq_getElem?_getD, List.getElem?_eq_getElem h1, Option.getD_some] at e
    rw [e]
    match i, hi with
    | 0, _ => rfl
    | 1, _ => rfl
    | 2, _ => rfl
theorem win9 {b : List Int} {a : Nat} (h : a + 9 ≤ b.length) : win b a 9 = [b.getD a 0, b.getD (a + 1) 0, b.getD (a + 2) 0, b.getD (a + 3) 0, b.getD (a + 4) 0, b.getD (a + 5) 0, b.getD (a + 6) 0, b.getD (a + 7) 0, b.getD (a + 8) 0] := by
  apply List.ext_getElem
  · rw [win_len h]; rfl
  · intro i h1 h2
    have hi : i < 9 := by simpa using h2
    have e := win_at (b := b) (o := a) hi
    rw [List.getD_eq_getElem?_getD, List.getElem?_eq_getElem h1, Option.getD_some] at e
    rw [e]
    match i, hi with
    | 0, _ => rfl
    | 1, _ => rfl
    | 2, _ => rfl
    | 3, _ => rfl
    | 4, _ => rfl
    | 5, _ => rfl
    | 6, _ => rfl
    | 7, _ => rfl
    | 8, _ => rfl
theorem wordOk_plain {b : List Int} (h : U8s b) (i j : Nat) : wordOk ⟨b.getD i 0 * 256 + b.getD j 0, false, ⟨0, 0, 0, 0⟩⟩ = true := by
  have := h.at i; have := h.at j
  generalize b.getD i 0 = x at *
  generalize b.getD j 0 = y at *
  simp [wordOk, inR]; omega
theorem wordBytes_plain {b : List Int} (h : U8s b) (i j : Nat) : wordBytes ⟨b.getD i 0 * 256 + b.getD j 0, false, ⟨0, 0, 0, 0⟩⟩ = [b.getD i 0, b.getD j 0, 0] := by
  have := h.at i; have := h.at j
  simp only [wordBytes, wordOk_plain h, if_true, Bool.false_eq_true, if_false]
  rw [show (b.getD i 0 * 256 + b.getD j 0) / 256 = b.getD i 0 by omega, show (b.getD i 0 * 256 + b.getD j 0) % 256 = b.getD j 0 by omega]
theorem wordBytes_at {b : List Int} (h : U8s b) {a : Nat} (hw : wordOk (wordAt b a) = true) : wordBytes (wordAt b a) = [b.getD a 0, b.getD (a + 1) 0, 1, b.getD (a + 3) 0, b.getD (a + 4) 0, b.getD (a + 5) 0, b.getD (a + 6) 0, b.getD (a + 7) 0, b.getD (a + 8) 0] := by
  have := h.at a; have := h.at (a + 1); have := h.at (a + 3); have := h.at (a + 4); have := h.at (a + 5); have := h.at (a + 6)
  unfold wordBytes
  rw [if_pos hw]
  simp only [wordAt, if_true]
  rw [show (b.getD a 0 * 256 + b.getD (a + 1) 0) / 256 = b.getD a 0 by omega, show (b.getD a 0 * 256 + b.getD (a + 1) 0) % 256 = b.getD (a + 1) 0 by omega,
    show (b.getD (a + 3) 0 * 256 + b.getD (a + 4) 0) / 256 = b.getD (a + 3) 0 by omega, show (b.getD (a + 3) 0 * 256 + b.getD (a + 4) 0) % 256 = b.getD (a + 4) 0 by omega,
    show (b.getD (a + 5) 0 * 256 + b.getD (a + 6) 0) / 256 = b.getD (a + 5) 0 by omega, show (b.getD (a + 5) 0 * 256 + b.getD (a + 6) 0) % 256 = b.getD (a + 6) 0 by omega]

def pf_impl_WordOf : PF := ⟨[.c 4 true 6, .t 5, .t 6], .seq (.reg [.s (.alloc 4 [.int .i64 0, .ff, .int .i64 0, .int .i64 0, .int .i64 0, .int .i64 0]), .s (.mv 5 (.k (.v (.c (.int .i64 0))))), .s (.mv 6 (.k (.v (.c .ff))))]) (.seq (.seq (.reg [.s (.mv 9 (.t 1)), .s (.mv 10 (.t 0)), .s (.len 11 false (.t 10)), .s (.bin 12 .sub (.t 11) (.k (.v (.c (.int .i64 3))))), .s (.call (some 13) 68 [(.t 9), (.k (.v (.c (.int .i64 0)))), (.t 12)]), .s (.bnot 14 (.t 13))]) (.cond (.t 14) (.seq (.reg [.s (.build 15 [.int .i64 0, .ff, .int .i64 0, .int .i64 0, .int .i64 0, .int .i64 0] []), .s (.store 6 (.t 4) (.t 15)), .s (.mv 5 (.k (.v (.c (.int .i64 0))))), .s (.mv 6 (.k (.v (.c .ff))))]) (.ret)) (.skip))) (.seq (.reg [.s (.mv 16 (.t 0)), .s (.mv 17 (.t 1)), .s (.slc 18 (.int .u8) (.t 16) (some (.t 17)) none), .s (.mv 7 (.t 18))]) (.seq (.reg [.s (.mv 19 (.t 7)), .s (.call (some 20) 69 [(.t 19)]), .s (.build 21 [.int .i64 0, .ff, .int .i64 0, .int .i64 0, .int .i64 0, .int .i64 0] [(0, 1, (.t 20))]), .s (.alloc 8 [.int .i64 0, .ff, .int .i64 0, .int .i64 0, .int .i64 0, .int .i64 0]), .s (.store 6 (.t 8) (.t 21))]) (.seq (.blk 0 (.seq (.reg [.s (.mv 23 (.t 7)), .s (.ia 24 (.int .u8) (.t 23) (.k (.v (.c (.int .i64 2))))), .s (.load 25 false 1 (.t 24)), .s (.bin 26 .eql (.t 25) (.k (.v (.c (.int .u8 0))))), .s (.mv 22 (.t 26))]) (.cond (.t 22) (.seq (.reg [.s (.load 27 true 6 (.t 8)), .s (.mv 28 (.t 1)), .s (.bin 29 .add (.t 28) (.k (.v (.c (.int .i64 3))))), .s (.store 6 (.t 4) (.t 27)), .s (.mv 5 (.t 29)), .s (.mv 6 (.k (.v (.c .tt))))]) (.ret)) (.seq (.reg [.s (.mv 31 (.t 7)), .s (.ia 32 (.int .u8) (.t 31) (.k (.v (.c (.int .i64 2))))), .s (.load 33 false 1 (.t 32)), .s (.bin 34 .neq (.t 33) (.k (.v (.c (.int .u8 1))))), .s (.mv 35 (.t 34)), .g 35 false (some 36) (.mv 36 (.t 7)), .g 35 false (some 37) (.len 37 false (.t 36)), .g 35 false (some 38) (.bin 38 .lss (.t 37) (.k (.v (.c (.int .i64 9))))), .s (.pick 39 (.t 35) (.k (.v (.c .tt))) (.t 38)), .s (.mv 30 (.t 39))]) (.cond (.t 30) (.seq (.reg [.s (.build 40 [.int .i64 0, .ff, .int .i64 0, .int .i64 0, .int .i64 0, .int .i64 0] []), .s (.store 6 (.t 4) (.t 40)), .s (.mv 5 (.k (.v (.c (.int .i64 0))))), .s (.mv 6 (.k (.v (.c .ff))))]) (.ret)) (.skip)))))) (.seq (.reg [.s (.fa 41 (.t 8) 1), .s (.store 1 (.t 41) (.k (.v (.c .tt))))]) (.seq (.rgd [.s (.mv 42 (.t 7)), .s (.slc 43 (.int .u8) (.t 42) (some (.k (.v (.c (.int .i64 3))))) none), .s (.call (some 44) 69 [(.t 43)]), .s (.mv 45 (.t 7)), .s (.slc 46 (.int .u8) (.t 45) (some (.k (.v (.c (.int .i64 5))))) none), .s (.call (some 47) 69 [(.t 46)]), .s (.mv 48 (.t 7)), .s (.ia 49 (.int .u8) (.t 48) (.k (.v (.c (.int .i64 7))))), .s (.load 50 false 1 (.t 49)), .s (.conv 51 .i64 (.t 50)), .s (.mv 52 (.t 7)), .s (.ia 53 (.int .u8) (.t 52) (.k (.v (.c (.int .i64 8))))), .s (.load 54 false 1 (.t 53)), .s (.conv 55 .i64 (.t 54)), .s (.build 56 [.int .i64 0, .int .i64 0, .int .i64 0, .int .i64 0] [(0, 1, (.t 44)), (1, 1, (.t 47)), (2, 1, (.t 51)), (3, 1, (.t 55))]), .s (.fa 57 (.t 8) 2), .s (.store 4 (.t 57) (.t 56))] (.tk 0 (.tk 3 (.tk 6 (.tk 7 (.tk 8 (.tk 9 (.tk 10 (.tk 11 (.tk 12 (.tk 13 (.alt 1 (.alt 2 (.one 4 false (.one 5 false (.tk 14 (.tk 15 (.one 16 true (.done (some [1, 4, 8]))))))) (.alt 4 (.one 2 false (.one 5 false (.tk 14 (.tk 15 (.one 16 true (.done (some [1, 4, 8]))))))) (.nil))) (.alt 4 (.one 1 false (.one 2 false (.one 5 false (.tk 14 (.tk 15 (.one 16 true (.done (some [1, 4, 8])))))))) (.nil)))))))))))))) (.seq (.seq (.reg [.s (.load 58 true 6 (.t 8)), .s (.call (some 59) 65 [(.t 58)]), .s (.bnot 60 (.t 59))]) (.cond (.t 60) (.seq (.reg [.s (.build 61 [.int .i64 0, .ff, .int .i64 0, .int .i64 0, .int .i64 0, .int .i64 0] []), .s (.store 6 (.t 4) (.t 61)), .s (.mv 5 (.k (.v (.c (.int .i64 0))))), .s (.mv 6 (.k (.v (.c .ff))))]) (.ret)) (.skip))) (.seq (.reg [.s (.load 62 true 6 (.t 8)), .s (.mv 63 (.t 1)), .s (.bin 64 .add (.t 63) (.k (.v (.c (.int .i64 9))))), .s (.store 6 (.t 4) (.t 62)), .s (.mv 5 (.t 64)), .s (.mv 6 (.k (.v (.c .tt))))]) (.ret)))))))))⟩
def c_impl_WordOf : Fun := ⟨34, [], fun ts K => as2 ts fun t0 t1 => arC (pL (.int .u8)) t0 fun b => arC (pI .i64) t1 fun at_ => chk (b.length ≤ 1048576 ∧ U8s b ∧ wfI .i64 at_) (K (wordOfT (wordOf b at_)) [])⟩
theorem run_impl_WordOf (b : List (FT.Ty (.int .u8))) (at_ : Int) (hpre : b.length ≤ 1048576 ∧ U8s b ∧ wfI .i64 at_) : runK [c_impl_WordOk, c_impl_in, c_impl_twoOf] (0) [] pf_impl_WordOf [tL false (.int .u8) b, tI .i64 at_] fun r o => r = wordOfT (wordOf b at_) ∧ o = [] := by
  obtain ⟨l1, l2, l3⟩ := hpre
  conv => whnf
  rw [wrap_id (n := (b.length : Int) - 3) (by omega) (by omega)]
  refine sel_i (fun h => ?_) (fun h => ?_)
  · conv => whnf
    rw [wordOf_out (by simpa using h)]
    exact ⟨rfl, rfl⟩
  have hr : inR at_ 0 (b.length - 3) = true := by simpa using h
  clear h
  have hb : 0 ≤ at_ ∧ at_ ≤ b.length - 3 := by simpa [inR] using hr
  clear l3
  obtain ⟨a, rfl⟩ := Int.eq_ofNat_of_zero_le hb.1
  have e1 : ((b.length : Int) - (a : Int)).toNat = b.length - a := by omega
  conv => whnf
  repeat' (first | (refine sel_i (fun h => ?_) (fun h => ?_) <;> conv => whnf) | (refine chk_c ?_ ?_ <;> conv => whnf) | (refine And.intro ?_ rfl) | (refine And.intro ?_ ?_ <;> conv => whnf))
  all_goals simp only [e1, zu8, tn2, tn3, tn5, tn7, tn8, Nat.zero_add, Int.toNat_natCast, etaKey, etaWord, beqI, decide_eq_true_eq, decide_eq_false_iff_not] at *
  all_goals first
    | (refine ⟨?_⟩; omega)
    | (refine ⟨?_⟩; exact ⟨by rw [win_len (by omega)]; omega, l2.win _ _⟩)
    | (rw [win_at (by omega), win_at (by omega), wrap_id (n := (a : Int) + 3) (by omega) (by omega), wordOf_plain hr (by assumption)]; rfl)
    | (rename_i g1
       rw [wordOf_no (b := b) (a := (a : Int)) g1 (fun q => by have := q.1; simp only [Int.toNat_natCast] at this; rw [this] at h; cases h)]; rfl)
    | (rename_i g1 g2; rw [wordOf_no (b := b) (a := (a : Int)) g1 (fun q => by omega)]; rfl)
    | skip
  all_goals
    (rename_i g1 g2 g3
     have g2 : b.getD (a + 2) 0 = 1 := by simpa using g2
     rw [wrap_id (n := b.getD (a + 7) 0) (by have := l2.at (a + 7); omega) (by have := l2.at (a + 7); omega), wrap_id (n := b.getD (a + 8) 0) (by have := l2.at (a + 8); omega) (by have := l2.at (a + 8); omega)] at h
     simp (disch := omega) only [win_at] at h)
  · have h' : (!wordOk (wordAt b a)) = true := h
    rw [wordOf_no (b := b) (a := (a : Int)) g1 (fun q => by have := q.2.2; simp only [Int.toNat_natCast] at this; rw [this] at h'; cases h')]; rfl
  · have h' : (!wordOk (wordAt b a)) = false := h
    rw [wrap_id (n := b.getD (a + 7) 0) (by have := l2.at (a + 7); omega) (by have := l2.at (a + 7); omega), wrap_id (n := b.getD (a + 8) 0) (by have := l2.at (a + 8); omega) (by have := l2.at (a + 8); omega), wrap_id (n := (a : Int) + 9) (by omega) (by omega)]
    simp (disch := omega) only [win_at]
    rw [wordOf_key hr g2 (by omega) (by simpa using h')]; rfl
theorem ok_impl_WordOf : FunOk Try.prog c_impl_WordOf := funOk (E := [c_impl_WordOk, c_impl_in, c_impl_twoOf]) (envOk_cons ok_impl_WordOk (envOk_cons ok_impl_in (envOk_cons ok_impl_twoOf (envOk_nil)))) mixd Try.func34 (pf := pf_impl_WordOf) (by kernel_rfl) fun ts K h => by
  obtain ⟨t0, t1, e0, h⟩ := as2_out h
  subst e0
  obtain ⟨b, e1, hq⟩ := arC_out (rd_l (.int .u8)) h
  clear h
  subst e1
  have h := hq
  clear hq
  obtain ⟨at_, e1, hq⟩ := arC_out (rd_int .i64) h
  clear h
  subst e1
  have h := hq
  clear hq
  obtain ⟨hpre, h⟩ := chk_o h
  exact ⟨_, _, h, Nat.le_of_ble_eq_true (show Nat.ble 2 Try.f34.ntmps = true by kernel_rfl), _, run_impl_WordOf b at_ hpre⟩

def pf_spec_WordOf : PF := ⟨[.c 4 true 6, .t 5, .t 6], .seq (.reg [.s (.alloc 4 [.int .i64 0, .ff, .int .i64 0, .int .i64 0, .int .i64 0, .int .i64 0]), .s (.mv 5 (.k (.v (.c (.int .i64 0))))), .s (.mv 6 (.k (.v (.c .ff))))]) (.seq (.seq (.reg [.s (.mv 9 (.t 1)), .s (.bin 10 .lss (.t 9) (.k (.v (.c (.int .i64 0))))), .s (.mv 11 (.t 10)), .g 11 false (some 12) (.mv 12 (.t 1)), .g 11 false (some 13) (.mv 13 (.t 0)), .g 11 false (some 14) (.len 14 false (.t 13)), .g 11 false (some 15) (.bin 15 .sub (.t 14) (.k (.v (.c (.int .i64 3))))), .g 11 false (some 16) (.bin 16 .gtr (.t 12) (.t 15)), .s (.pick 17 (.t 11) (.k (.v (.c .tt))) (.t 16))]) (.cond (.t 17) (.seq (.reg [.s (.build 18 [.int .i64 0, .ff, .int .i64 0, .int .i64 0, .int .i64 0, .int .i64 0] []), .s (.store 6 (.t 4) (.t 18)), .s (.mv 5 (.k (.v (.c (.int .i64 0))))), .s (.mv 6 (.k (.v (.c .ff))))]) (.ret)) (.skip))) (.seq (.rgd [.s (.mv 19 (.t 0)), .s (.mv 20 (.t 1)), .s (.ia 21 (.int .u8) (.t 19) (.t 20)), .s (.load 22 false 1 (.t 21)), .s (.conv 23 .i64 (.t 22)), .s (.bin 24 .shl (.t 23) (.k (.v (.c (.int .u64 8))))), .s (.mv 25 (.t 0)), .s (.mv 26 (.t 1)), .s (.bin 27 .add (.t 26) (.k (.v (.c (.int .i64 1))))), .s (.ia 28 (.int .u8) (.t 25) (.t 27)), .s (.load 29 false 1 (.t 28)), .s (.conv 30 .i64 (.t 29)), .s (.bin 31 .or (.t 24) (.t 30)), .s (.build 32 [.int .i64 0, .ff, .int .i64 0, .int .i64 0, .int .i64 0, .int .i64 0] [(0, 1, (.t 31))]), .s (.alloc 7 [.int .i64 0, .ff, .int .i64 0, .int .i64 0, .int .i64 0, .int .i64 0]), .s (.store 6 (.t 7) (.t 32))] (.tk 0 (.tk 1 (.tk 2 (.tk 3 (.tk 4 (.tk 5 (.tk 6 (.tk 7 (.tk 8 (.tk 9 (.tk 10 (.tk 11 (.tk 12 (.tk 13 (.one 14 false (.one 15 true (.done none)))))))))))))))))) (.seq (.reg [.s (.mv 33 (.t 1)), .s (.bin 34 .add (.t 33) (.k (.v (.c (.int .i64 3))))), .s (.mv 8 (.t 34))]) (.seq (.seq (.reg [.s (.mv 35 (.t 0)), .s (.mv 36 (.t 1)), .s (.bin 37 .add (.t 36) (.k (.v (.c (.int .i64 2))))), .s (.ia 38 (.int .u8) (.t 35) (.t 37)), .s (.load 39 false 1 (.t 38)), .s (.bin 40 .neq (.t 39) (.k (.v (.c (.int .u8 0)))))]) (.cond (.t 40) (.seq (.seq (.reg [.s (.mv 41 (.t 1)), .s (.mv 42 (.t 0)), .s (.len 43 false (.t 42)), .s (.bin 44 .sub (.t 43) (.k (.v (.c (.int .i64 9))))), .s (.bin 45 .gtr (.t 41) (.t 44))]) (.cond (.t 45) (.seq (.reg [.s (.build 46 [.int .i64 0, .ff, .int .i64 0, .int .i64 0, .int .i64 0, .int .i64 0] []), .s (.store 6 (.t 4) (.t 46)), .s (.mv 5 (.k (.v (.c (.int .i64 0))))), .s (.mv 6 (.k (.v (.c .ff))))]) (.ret)) (.skip))) (.seq (.reg [.s (.fa 47 (.t 7) 1), .s (.store 1 (.t 47) (.k (.v (.c .tt))))]) (.seq (.rgd [.s (.mv 48 (.t 0)), .s (.mv 49 (.t 1)), .s (.bin 50 .add (.t 49) (.k (.v (.c (.int .i64 3))))), .s (.ia 51 (.int .u8) (.t 48) (.t 50)), .s (.load 52 false 1 (.t 51)), .s (.conv 53 .i64 (.t 52)), .s (.bin 54 .shl (.t 53) (.k (.v (.c (.int .u64 8))))), .s (.mv 55 (.t 0)), .s (.mv 56 (.t 1)), .s (.bin 57 .add (.t 56) (.k (.v (.c (.int .i64 4))))), .s (.ia 58 (.int .u8) (.t 55) (.t 57)), .s (.load 59 false 1 (.t 58)), .s (.conv 60 .i64 (.t 59)), .s (.bin 61 .or (.t 54) (.t 60)), .s (.mv 62 (.t 0)), .s (.mv 63 (.t 1)), .s (.bin 64 .add (.t 63) (.k (.v (.c (.int .i64 5))))), .s (.ia 65 (.int .u8) (.t 62) (.t 64)), .s (.load 66 false 1 (.t 65)), .s (.conv 67 .i64 (.t 66)), .s (.bin 68 .shl (.t 67) (.k (.v (.c (.int .u64 8))))), .s (.mv 69 (.t 0)), .s (.mv 70 (.t 1)), .s (.bin 71 .add (.t 70) (.k (.v (.c (.int .i64 6))))), .s (.ia 72 (.int .u8) (.t 69) (.t 71)), .s (.load 73 false 1 (.t 72)), .s (.conv 74 .i64 (.t 73)), .s (.bin 75 .or (.t 68) (.t 74)), .s (.mv 76 (.t 0)), .s (.mv 77 (.t 1)), .s (.bin 78 .add (.t 77) (.k (.v (.c (.int .i64 7))))), .s (.ia 79 (.int .u8) (.t 76) (.t 78)), .s (.load 80 false 1 (.t 79)), .s (.conv 81 .i64 (.t 80)), .s (.mv 82 (.t 0)), .s (.mv 83 (.t 1)), .s (.bin 84 .add (.t 83) (.k (.v (.c (.int .i64 8))))), .s (.ia 85 (.int .u8) (.t 82) (.t 84)), .s (.load 86 false 1 (.t 85)), .s (.conv 87 .i64 (.t 86)), .s (.build 88 [.int .i64 0, .int .i64 0, .int .i64 0, .int .i64 0] [(0, 1, (.t 61)), (1, 1, (.t 75)), (2, 1, (.t 81)), (3, 1, (.t 87))]), .s (.fa 89 (.t 7) 2), .s (.store 4 (.t 89) (.t 88))] (.tk 0 (.tk 1 (.tk 2 (.tk 3 (.tk 4 (.tk 5 (.tk 6 (.tk 7 (.tk 8 (.tk 9 (.tk 10 (.tk 11 (.tk 12 (.tk 13 (.tk 14 (.tk 15 (.tk 16 (.tk 17 (.tk 18 (.tk 19 (.tk 20 (.tk 21 (.tk 22 (.tk 23 (.tk 24 (.tk 25 (.tk 26 (.tk 27 (.tk 28 (.tk 29 (.tk 30 (.tk 31 (.tk 32 (.tk 33 (.tk 34 (.tk 35 (.tk 36 (.tk 37 (.tk 38 (.tk 39 (.tk 40 (.tk 41 (.one 42 true (.done none))))))))))))))))))))))))))))))))))))))))))))) (.reg [.s (.mv 90 (.t 1)), .s (.bin 91 .add (.t 90) (.k (.v (.c (.int .i64 9))))), .s (.mv 8 (.t 91))])))) (.skip))) (.seq (.seq (.rgd [.s (.load 92 true 6 (.t 7)), .s (.call (some 93) 63 [(.t 92)]), .s (.bnot 94 (.t 93)), .s (.mv 95 (.t 94)), .g 95 false (some 96) (.load 96 true 6 (.t 7)), .g 95 false (some 97) (.call (some 97) 26 [(.t 96)]), .g 95 false (some 98) (.b2s 98 (.t 97)), .g 95 false (some 99) (.mv 99 (.t 0)), .g 95 false (some 100) (.mv 100 (.t 1)), .g 95 false (some 101) (.mv 101 (.t 8)), .g 95 false (some 102) (.slc 102 (.int .u8) (.t 99) (some (.t 100)) (some (.t 101))), .g 95 false (some 103) (.b2s 103 (.t 102)), .g 95 false (some 104) (.eqs 104 false [.s] true (.t 98) (.t 103)), .s (.pick 105 (.t 95) (.k (.v (.c .tt))) (.t 104))] (.tk 0 (.one 1 true (.tk 2 (.tk 3 (.tk 4 (.tk 7 (.tk 8 (.tk 9 (.alt 5 (.alt 6 (.one 10 false (.one 11 false (.tk 12 (.tk 13 (.done (some [4, 7, 8, 105])))))) (.alt 10 (.alt 6 (.one 11 false (.tk 12 (.tk 13 (.done (some [4, 7, 8, 105]))))) (.alt 11 (.one 6 false (.tk 12 (.tk 13 (.done (some [4, 7, 8, 105]))))) (.nil))) (.nil))) (.alt 10 (.alt 5 (.alt 6 (.one 11 false (.tk 12 (.tk 13 (.done (some [4, 7, 8, 105]))))) (.alt 11 (.one 6 false (.tk 12 (.tk 13 (.done (some [4, 7, 8, 105]))))) (.nil))) (.alt 11 (.one 5 false (.one 6 false (.tk 12 (.tk 13 (.done (some [4, 7, 8, 105])))))) (.nil))) (.nil)))))))))))) (.cond (.t 105) (.seq (.reg [.s (.build 106 [.int .i64 0, .ff, .int .i64 0, .int .i64 0, .int .i64 0, .int .i64 0] []), .s (.store 6 (.t 4) (.t 106)), .s (.mv 5 (.k (.v (.c (.int .i64 0))))), .s (.mv 6 (.k (.v (.c .ff))))]) (.ret)) (.skip))) (.seq (.reg [.s (.load 107 true 6 (.t 7)), .s (.mv 108 (.t 8)), .s (.store 6 (.t 4) (.t 107)), .s (.mv 5 (.t 108)), .s (.mv 6 (.k (.v (.c .tt))))]) (.ret)))))))⟩
def c_spec_WordOf : Fun := ⟨32, [], fun ts K => as2 ts fun t0 t1 => arC (pL (.int .u8)) t0 fun b => arC (pI .i64) t1 fun at_ => chk (b.length ≤ 1048576 ∧ U8s b ∧ wfI .i64 at_) (K (wordOfT (wordOf b at_)) [])⟩
theorem run_spec_WordOf (b : List (FT.Ty (.int .u8))) (at_ : Int) (hpre : b.length ≤ 1048576 ∧ U8s b ∧ wfI .i64 at_) : runK [c_spec_WordBytes, c_spec_WordOk] (0) [] pf_spec_WordOf [tL false (.int .u8) b, tI .i64 at_] fun r o => r = wordOfT (wordOf b at_) ∧ o = [] := by
  obtain ⟨l1, l2, l3⟩ := hpre
  conv => whnf
  refine sel_i (fun h => ?_) (fun h => ?_)
  · conv => whnf
    rw [wordOf_out (by simp [inR]; simp at h; omega)]
    exact ⟨rfl, rfl⟩
  simp only [decide_eq_false_iff_not, Int.not_lt] at h
  obtain ⟨a, rfl⟩ := Int.eq_ofNat_of_zero_le h
  conv => whnf
  rw [wrap_id (n := (b.length : Int) - 3) (by omega) (by omega)]
  refine sel_i (fun h2 => ?_) (fun h2 => ?_)
  · conv => whnf
    rw [wordOf_out (by simp [inR]; simp at h2; omega)]
    exact ⟨rfl, rfl⟩
  have hb : (a : Int) ≤ b.length - 3 := by simpa using h2
  have hr : inR (a : Int) 0 (b.length - 3) = true := by simp [inR]; omega
  clear h h2
  have w9 : IntKind.i64.wrap ((b.length : Int) - 9) = (b.length : Int) - 9 := wrap_id (by omega) (by omega)
  have w7 : IntKind.i64.wrap (b.getD (a + 7) 0) = b.getD (a + 7) 0 := wrap_id (by have := l2.at (a + 7); omega) (by have := l2.at (a + 7); omega)
  have w8 : IntKind.i64.wrap (b.getD (a + 8) 0) = b.getD (a + 8) 0 := wrap_id (by have := l2.at (a + 8); omega) (by have := l2.at (a + 8); omega)
  have c9 : (strI (wordBytes (wordAt b a)) == strI (win b a 9)) = decide (wordBytes (wordAt b a) = win b a 9) := by rw [strI_eq (wordBytes_u8 _) (l2.win _ _)]
  have c3 : (strI (wordBytes ⟨b.getD a 0 * 256 + b.getD (a + 1) 0, false, ⟨0, 0, 0, 0⟩⟩) == strI (win b a 3)) = decide (wordBytes ⟨b.getD a 0 * 256 + b.getD (a + 1) 0, false, ⟨0, 0, 0, 0⟩⟩ = win b a 3) := by rw [strI_eq (wordBytes_u8 _) (l2.win _ _)]
  have ew : (⟨b.getD a 0 * 256 + b.getD (a + 1) 0, true, ⟨b.getD (a + 3) 0 * 256 + b.getD (a + 4) 0, b.getD (a + 5) 0 * 256 + b.getD (a + 6) 0, b.getD (a + 7) 0, b.getD (a + 8) 0⟩⟩ : Word) = wordAt b a := rfl
  conv => whnf
  repeat' (first | (refine sel_i (fun h => ?_) (fun h => ?_) <;> conv => whnf) | (refine chk_c ?_ ?_ <;> conv => whnf) | (refine And.intro ?_ rfl) | (refine And.intro ?_ ?_ <;> conv => whnf))
  all_goals (try simp only [w9, zu8, Int.toNat_natCast, orI_eq, etaKey, etaWord, wrap_id (n := (a : Int) + 1) (by omega) (by omega), wrap_id (n := (a : Int) + 2) (by omega) (by omega), wrap_id (n := (a : Int) + 3) (by omega) (by omega), wrap_id (n := (a : Int) + 4) (by omega) (by omega), wrap_id (n := (a : Int) + 5) (by omega) (by omega), wrap_id (n := (a : Int) + 6) (by omega) (by omega), wrap_id (n := (a : Int) + 7) (by omega) (by omega), wrap_id (n := (a : Int) + 8) (by omega) (by omega), wrap_id (n := (a : Int) + 9) (by omega) (by omega)] at *)
  all_goals (try simp only [show ((a : Int) + 1).toNat = a + 1 by omega, show ((a : Int) + 2).toNat = a + 2 by omega, show ((a : Int) + 3).toNat = a + 3 by omega, show ((a : Int) + 4).toNat = a + 4 by omega, show ((a : Int) + 5).toNat = a + 5 by omega, show ((a : Int) + 6).toNat = a + 6 by omega, show ((a : Int) + 7).toNat = a + 7 by omega, show ((a : Int) + 8).toNat = a + 8 by omega] at *)
  all_goals (try simp only [two8 (l2.at _) (l2.at _)] at *)
  all_goals (try simp only [w7, w8, Nat.zero_add, show ((a : Int) + 9 - a).toNat = 9 by omega, show ((a : Int) + 3 - a).toNat = 3 by omega] at *)
  all_goals (try simp only [ew] at *)
  all_goals (try simp only [c9, c3, decide_eq_true_eq, decide_eq_false_iff_not, bne_iff_ne, bne_eq_false_iff_eq, Bool.not_eq_true', Bool.not_eq_false'] at *)
  all_goals try (refine ⟨?_⟩; first | omega | decide)
  · rw [wordOf_no (b := b) (a := (a : Int)) h (fun q => by omega)]; rfl
  · rename_i g1 g2
    rw [wordOf_no (b := b) (a := (a : Int)) g2 (fun q => by have := q.2.2; simp only [Int.toNat_natCast] at this; rw [this] at h; cases h)]; rfl
  · rename_i g1 g2 g3
    rw [wordOf_no (b := b) (a := (a : Int)) g2 (fun q => h (by rw [wordBytes_at l2 g3, win9 (by omega), show b.getD (a + 2) 0 = 1 from q.1]))]; rfl
  · rename_i g1 g2 g3
    rw [wordBytes_at l2 g3, win9 (by omega)] at h
    have g4 : b.getD (a + 2) 0 = 1 := by
      simp only [List.cons.injEq] at h
      exact h.2.2.1.symm
    rw [wordOf_key hr g4 (by omega) g3]; rfl
  · rename_i g1
    rw [wordOk_plain l2] at h; cases h
  · rename_i g1 g2
    exact absurd (by rw [wordBytes_plain l2, win3 (by omega), g1]) h
  · rename_i g1 g2
    rw [wordOf_plain hr g1]; rfl
theorem ok_spec_WordOf : FunOk Try.prog c_spec_WordOf := funOk (E := [c_spec_WordBytes, c_spec_WordOk]) (envOk_cons ok_spec_WordBytes (envOk_cons ok_spec_WordOk (envOk_nil))) mixd Try.func32 (pf := pf_spec_WordOf) (by kernel_rfl) fun ts K h => by
  obtain ⟨t0, t1, e0, h⟩ := as2_out h
  subst e0
  obtain ⟨b, e1, hq⟩ := arC_out (rd_l (.int .u8)) h
  clear h
  subst e1
  have h := hq
  clear hq
  obtain ⟨at_, e1, hq⟩ := arC_out (rd_int .i64) h
  clear h
  subst e1
  have h := hq
  clear hq
  obtain ⟨hpre, h⟩ := chk_o h
  exact ⟨_, _, h, Nat.le_of_ble_eq_true (show Nat.ble 2 Try.f32.ntmps = true by kernel_rfl), _, run_spec_WordOf b at_ hpre⟩
end Go.Pi
