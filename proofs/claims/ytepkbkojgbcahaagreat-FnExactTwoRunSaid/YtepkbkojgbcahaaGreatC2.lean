/- Contracts of functions, each out of its run by PI. No conditions. -/
import Derived.Test.YtepkbkojgbcahaaGreatC1
namespace Go.Pi
open Go.Proofs
set_option linter.unusedVariables false
set_option linter.unusedSimpArgs false
set_option maxRecDepth 100000
attribute [local irreducible] iterN
def szr (k : Int) (n : Nat) : Int := if k - n < 0 then -1 else k - n
theorem szr_t {k : Int} {n : Nat} (h : k - n < 0) : szr k n = -1 := if_pos h
theorem szr_f {k : Int} {n : Nat} (h : ¬ k - n < 0) : szr k n = k - n := if_neg h

def pf_laws_toKey : PF := ⟨[.c 2 true 4], .seq (.reg [.s (.box 1 (.t 0)), .s (.alloc 2 [.int .i64 0, .int .i64 0, .int .i64 0, .int .i64 0])]) (.seq (.reg [.s (.alloc 3 [.int .i64 0, .int .i64 0, .int .i64 0, .int .i64 0])]) (.seq (.reg [.s (.fa 4 (.t 1) 0), .s (.load 5 false 1 (.t 4)), .s (.fa 6 (.t 3) 0), .s (.store 1 (.t 6) (.t 5))]) (.seq (.reg [.s (.fa 7 (.t 1) 1), .s (.load 8 false 1 (.t 7)), .s (.fa 9 (.t 3) 1), .s (.store 1 (.t 9) (.t 8))]) (.seq (.reg [.s (.fa 10 (.t 1) 2), .s (.load 11 false 1 (.t 10)), .s (.fa 12 (.t 3) 2), .s (.store 1 (.t 12) (.t 11))]) (.seq (.reg [.s (.fa 13 (.t 1) 3), .s (.load 14 false 1 (.t 13)), .s (.fa 15 (.t 3) 3), .s (.store 1 (.t 15) (.t 14))]) (.seq (.reg [.s (.load 16 true 4 (.t 3)), .s (.store 4 (.t 2) (.t 16))]) (.ret)))))))⟩
def c_laws_toKey : Fun := ⟨70, [], fun ts K => as1 ts fun t0 => arG pKeyT t0 fun a => K (tG (a.tc [])) []⟩
theorem run_laws_toKey (a : Key) : runK [] (0) [] pf_laws_toKey [tG (a.tc [])] fun r o => r = tG (a.tc []) ∧ o = [] := by
  conv => whnf
  repeat' (first
    | exact rfl
    | exact trivial
    | (refine sel_i (fun h => ?_) (fun h => ?_) <;> conv => whnf)
    | (refine chk_c ?_ ?_ <;> conv => whnf)
    | (refine And.intro ?_ ?_ <;> conv => whnf))
theorem ok_laws_toKey : FunOk Tryz.prog c_laws_toKey := funOk (E := []) (envOk_nil) mixd Tryz.func70 (pf := pf_laws_toKey) (by kernel_rfl) fun ts K h => by
  obtain ⟨t0, e0, h⟩ := as1_out h
  subst e0
  obtain ⟨a, e1, hq⟩ := arG_out rd_key h
  clear h
  subst e1
  have h := hq
  clear hq
  exact ⟨_, _, h, Nat.le_of_ble_eq_true (show Nat.ble 1 Tryz.f70.ntmps = true by kernel_rfl), _, run_laws_toKey a⟩

def pf_laws_toWord : PF := ⟨[.c 2 true 6], .seq (.reg [.s (.box 1 (.t 0)), .s (.alloc 2 [.int .i64 0, .ff, .int .i64 0, .int .i64 0, .int .i64 0, .int .i64 0])]) (.seq (.reg [.s (.alloc 3 [.int .i64 0, .ff, .int .i64 0, .int .i64 0, .int .i64 0, .int .i64 0])]) (.seq (.reg [.s (.fa 4 (.t 1) 0), .s (.load 5 false 1 (.t 4)), .s (.fa 6 (.t 3) 0), .s (.store 1 (.t 6) (.t 5))]) (.seq (.reg [.s (.fa 7 (.t 1) 1), .s (.load 8 false 1 (.t 7)), .s (.fa 9 (.t 3) 1), .s (.store 1 (.t 9) (.t 8))]) (.seq (.reg [.s (.fa 10 (.t 1) 2), .s (.load 11 true 4 (.t 10)), .s (.call (some 12) 70 [(.t 11)]), .s (.fa 13 (.t 3) 2), .s (.store 4 (.t 13) (.t 12))]) (.seq (.reg [.s (.load 14 true 6 (.t 3)), .s (.store 6 (.t 2) (.t 14))]) (.ret))))))⟩
def c_laws_toWord : Fun := ⟨36, [], fun ts K => as1 ts fun t0 => arG pWordT t0 fun a => K (tG (a.tc [])) []⟩
theorem run_laws_toWord (a : Word) : runK [c_laws_toKey] (0) [] pf_laws_toWord [tG (a.tc [])] fun r o => r = tG (a.tc []) ∧ o = [] := by
  conv => whnf
  repeat' (first
    | exact rfl
    | exact trivial
    | (refine sel_i (fun h => ?_) (fun h => ?_) <;> conv => whnf)
    | (refine chk_c ?_ ?_ <;> conv => whnf)
    | (refine And.intro ?_ ?_ <;> conv => whnf))
theorem ok_laws_toWord : FunOk Tryz.prog c_laws_toWord := funOk (E := [c_laws_toKey]) (envOk_cons ok_laws_toKey (envOk_nil)) mixd Tryz.func36 (pf := pf_laws_toWord) (by kernel_rfl) fun ts K h => by
  obtain ⟨t0, e0, h⟩ := as1_out h
  subst e0
  obtain ⟨a, e1, hq⟩ := arG_out rd_word h
  clear h
  subst e1
  have h := hq
  clear hq
  exact ⟨_, _, h, Nat.le_of_ble_eq_true (show Nat.ble 1 Tryz.f36.ntmps = true by kernel_rfl), _, run_laws_toWord a⟩

def pf_laws_szWordS : PF := ⟨[.t 4], .seq (.reg [.s (.mv 4 (.k (.v (.c (.int .i64 0)))))]) (.seq (.reg [.s (.mv 5 (.t 1)), .s (.mv 6 (.t 0)), .s (.len 7 false (.t 6)), .s (.bin 8 .sub (.t 5) (.t 7)), .s (.mv 1 (.t 8))]) (.seq (.seq (.reg [.s (.mv 9 (.t 1)), .s (.bin 10 .lss (.t 9) (.k (.v (.c (.int .i64 0)))))]) (.cond (.t 10) (.seq (.reg [.s (.mv 4 (.k (.v (.c (.int .i64 (-1))))))]) (.ret)) (.skip))) (.seq (.reg [.s (.mv 11 (.t 1)), .s (.mv 4 (.t 11))]) (.ret))))⟩
def c_laws_szWordS : Fun := ⟨28, [], fun ts K => as2 ts fun t0 t1 => arC (pL .word) t0 fun a => arC (pI .i64) t1 fun k => chk (a.length ≤ 9223372036854775807 ∧ 0 ≤ k ∧ k ≤ 1048576) (K (tN (szr k a.length)) [])⟩
theorem run_laws_szWordS (a : List (FT.Ty .word)) (k : Int) (hpre : a.length ≤ 9223372036854775807 ∧ 0 ≤ k ∧ k ≤ 1048576) : runK [] (0) [] pf_laws_szWordS [tL false .word a, tI .i64 k] fun r o => r = tN (szr k a.length) ∧ o = [] := by
  conv => whnf
  rw [wrap_id (by omega) (by omega)]
  refine sel_i (fun h => ?_) (fun h => ?_) <;> conv => whnf
  · refine ⟨?_, rfl⟩; rw [szr_t (by simpa using h)]
  · refine ⟨?_, rfl⟩; rw [szr_f (by simpa using h)]
theorem ok_laws_szWordS : FunOk Tryz.prog c_laws_szWordS := funOk (E := []) (envOk_nil) mixd Tryz.func28 (pf := pf_laws_szWordS) (by kernel_rfl) fun ts K h => by
  obtain ⟨t0, t1, e0, h⟩ := as2_out h
  subst e0
  obtain ⟨a, e1, hq⟩ := arC_out (rd_l .word) h
  clear h
  subst e1
  have h := hq
  clear hq
  obtain ⟨k, e1, hq⟩ := arC_out (rd_int .i64) h
  clear h
  subst e1
  have h := hq
  clear hq
  obtain ⟨hpre, h⟩ := chk_o h
  exact ⟨_, _, h, Nat.le_of_ble_eq_true (show Nat.ble 2 Tryz.f28.ntmps = true by kernel_rfl), _, run_laws_szWordS a k hpre⟩

def lb_laws_toWordS_0 : PC := .seq (.seq (.reg [.s (.mv 8 (.t 4)), .s (.mv 9 (.t 0)), .s (.len 10 false (.t 9)), .s (.bin 11 .lss (.t 8) (.t 10))]) (.cond (.t 11) (.skip) (.exit 0))) (.seq (.blk 1 (.reg [.s (.mv 14 (.t 3)), .s (.mv 15 (.t 4)), .s (.mv 16 (.t 0)), .s (.mv 17 (.t 4)), .s (.ia 18 .word (.t 16) (.t 17)), .s (.load 19 true 6 (.t 18)), .s (.call (some 20) 36 [(.t 19)]), .s (.ia 21 .word (.t 14) (.t 15)), .s (.store 6 (.t 21) (.t 20))])) (.reg [.s (.mv 12 (.t 4)), .s (.bin 13 .add (.t 12) (.k (.v (.c (.int .i64 1))))), .s (.mv 4 (.t 13))]))
def pf_laws_toWordS : PF := ⟨[.t 2], .seq (.reg [.s (.mv 2 (.k (.v (.c (.nils .word)))))]) (.seq (.reg [.s (.mv 5 (.t 0)), .s (.len 6 false (.t 5)), .s (.mkS 7 .word (.t 6)), .s (.mv 3 (.t 7))]) (.seq (.seq (.reg [.s (.mv 4 (.k (.v (.c (.int .i64 0)))))]) (.blk 0 (.loop [0, 3, 4] lb_laws_toWordS_0))) (.seq (.reg [.s (.mv 22 (.t 3)), .s (.mv 2 (.t 22))]) (.ret))))⟩
def c_laws_toWordS : Fun := ⟨35, [], fun ts K => as1 ts fun t0 => arC (pL .word) t0 fun a => chk (a.length ≤ 2147483647) (K (tL true .word a) [])⟩
theorem run_laws_toWordS (a : List (FT.Ty .word)) (hpre : a.length ≤ 2147483647) : runK [c_laws_toWord] (a.length + 1) [] pf_laws_toWordS [tL false .word a] fun r o => r = tL true .word a ∧ o = [] := by
  conv => whnf
  refine chk_i ⟨by omega, by omega⟩ ?_
  conv => whnf
  refine loop (α := Nat × List (FT.Ty .word)) (fun p => ⟨[(0, .v (.c (.sl false .word 0))), (3, .v (.c (.sl true .word 1))), (4, .v (.c (.int .i64 (p.1 : Int))))], [(1, some (.flat true .word none p.2)), (0, some (.flat false .word none a))], nums.tail.tail, [], false, []⟩)
      (fun p => p.1 ≤ a.length ∧ p.2 = a.take p.1 ++ (List.replicate a.length (FT.zero .word)).drop p.1) (fun p => a.length - p.1) (fun p R hI hR => ?_) (0, List.replicate a.length (FT.zero .word)) _ ⟨by simp, by simp⟩ (by simp)
  obtain ⟨i, xs⟩ := p
  obtain ⟨hi, hx⟩ := hI
  dsimp only at hi hx
  have hlen : xs.length = a.length := by rw [hx]; simp; omega
  dsimp only
  conv => whnf
  refine sel_i (fun h2 => ?_) (fun h2 => ?_)
  · have hlt : i < a.length := by simp at h2; omega
    have hge : a[i]? = some (a.getD i (FT.zero .word)) := by simp [List.getD_eq_getElem?_getD, hlt]
    conv => whnf
    repeat' (refine chk_c ?_ ?_ <;> conv => whnf)
    all_goals first
      | (refine ⟨?_⟩; omega)
      | (refine ⟨?_⟩; simp; done)
      | (refine ⟨?_⟩; simp; omega)
      | skip
    simp (disch := omega) only [wrap_id, Int.toNat_natCast]
    exact hR (i + 1, xs.set i (a.getD i (FT.zero .word))) ⟨by omega, by rw [hx]; exact set_mid (by simp) (by simpa using hlt) hge⟩ (by simp; omega)
  · have hge : i = a.length := by simp at h2; omega
    subst hge
    conv => whnf
    refine ⟨?_, rfl⟩
    rw [hx, List.take_of_length_le (by omega), List.drop_eq_nil_of_le (by simp), List.append_nil]
theorem ok_laws_toWordS : FunOk Tryz.prog c_laws_toWordS := funOk (E := [c_laws_toWord]) (envOk_cons ok_laws_toWord (envOk_nil)) mixd Tryz.func35 (pf := pf_laws_toWordS) (by kernel_rfl) fun ts K h => by
  obtain ⟨t0, e0, h⟩ := as1_out h
  subst e0
  obtain ⟨a, e1, hq⟩ := arC_out (rd_l .word) h
  clear h
  subst e1
  have h := hq
  clear hq
  obtain ⟨hpre, h⟩ := chk_o h
  exact ⟨_, _, h, Nat.le_of_ble_eq_true (show Nat.ble 1 Tryz.f35.ntmps = true by kernel_rfl), _, run_laws_toWordS a hpre⟩

def pf_laws_szBoolS : PF := ⟨[.t 4], .seq (.reg [.s (.mv 4 (.k (.v (.c (.int .i64 0)))))]) (.seq (.reg [.s (.mv 5 (.t 1)), .s (.mv 6 (.t 0)), .s (.len 7 false (.t 6)), .s (.bin 8 .sub (.t 5) (.t 7)), .s (.mv 1 (.t 8))]) (.seq (.seq (.reg [.s (.mv 9 (.t 1)), .s (.bin 10 .lss (.t 9) (.k (.v (.c (.int .i64 0)))))]) (.cond (.t 10) (.seq (.reg [.s (.mv 4 (.k (.v (.c (.int .i64 (-1))))))]) (.ret)) (.skip))) (.seq (.reg [.s (.mv 11 (.t 1)), .s (.mv 4 (.t 11))]) (.ret))))⟩
def c_laws_szBoolS : Fun := ⟨60, [], fun ts K => as2 ts fun t0 t1 => arC (pL .bool) t0 fun a => arC (pI .i64) t1 fun k => chk (a.length ≤ 9223372036854775807 ∧ 0 ≤ k ∧ k ≤ 1048576) (K (tN (szr k a.length)) [])⟩
theorem run_laws_szBoolS (a : List (FT.Ty .bool)) (k : Int) (hpre : a.length ≤ 9223372036854775807 ∧ 0 ≤ k ∧ k ≤ 1048576) : runK [] (0) [] pf_laws_szBoolS [tL false .bool a, tI .i64 k] fun r o => r = tN (szr k a.length) ∧ o = [] := by
  conv => whnf
  rw [wrap_id (by omega) (by omega)]
  refine sel_i (fun h => ?_) (fun h => ?_) <;> conv => whnf
  · refine ⟨?_, rfl⟩; rw [szr_t (by simpa using h)]
  · refine ⟨?_, rfl⟩; rw [szr_f (by simpa using h)]
theorem ok_laws_szBoolS : FunOk Tryz.prog c_laws_szBoolS := funOk (E := []) (envOk_nil) mixd Tryz.func60 (pf := pf_laws_szBoolS) (by kernel_rfl) fun ts K h => by
  obtain ⟨t0, t1, e0, h⟩ := as2_out h
  subst e0
  obtain ⟨a, e1, hq⟩ := arC_out (rd_l .bool) h
  clear h
  subst e1
  have h := hq
  clear hq
  obtain ⟨k, e1, hq⟩ := arC_out (rd_int .i64) h
  clear h
  subst e1
  have h := hq
  clear hq
  obtain ⟨hpre, h⟩ := chk_o h
  exact ⟨_, _, h, Nat.le_of_ble_eq_true (show Nat.ble 2 Tryz.f60.ntmps = true by kernel_rfl), _, run_laws_szBoolS a k hpre⟩

def lb_laws_toBoolS_0 : PC := .seq (.seq (.reg [.s (.mv 8 (.t 4)), .s (.mv 9 (.t 0)), .s (.len 10 false (.t 9)), .s (.bin 11 .lss (.t 8) (.t 10))]) (.cond (.t 11) (.skip) (.exit 0))) (.seq (.blk 1 (.reg [.s (.mv 14 (.t 3)), .s (.mv 15 (.t 4)), .s (.mv 16 (.t 0)), .s (.mv 17 (.t 4)), .s (.ia 18 .bool (.t 16) (.t 17)), .s (.load 19 false 1 (.t 18)), .s (.ia 20 .bool (.t 14) (.t 15)), .s (.store 1 (.t 20) (.t 19))])) (.reg [.s (.mv 12 (.t 4)), .s (.bin 13 .add (.t 12) (.k (.v (.c (.int .i64 1))))), .s (.mv 4 (.t 13))]))
def pf_laws_toBoolS : PF := ⟨[.t 2], .seq (.reg [.s (.mv 2 (.k (.v (.c (.nils .bool)))))]) (.seq (.reg [.s (.mv 5 (.t 0)), .s (.len 6 false (.t 5)), .s (.mkS 7 .bool (.t 6)), .s (.mv 3 (.t 7))]) (.seq (.seq (.reg [.s (.mv 4 (.k (.v (.c (.int .i64 0)))))]) (.blk 0 (.loop [0, 3, 4] lb_laws_toBoolS_0))) (.seq (.reg [.s (.mv 21 (.t 3)), .s (.mv 2 (.t 21))]) (.ret))))⟩
def c_laws_toBoolS : Fun := ⟨71, [], fun ts K => as1 ts fun t0 => arC (pL .bool) t0 fun a => chk (a.length ≤ 2147483647) (K (tL true .bool a) [])⟩
theorem run_laws_toBoolS (a : List (FT.Ty .bool)) (hpre : a.length ≤ 2147483647) : runK [] (a.length + 1) [] pf_laws_toBoolS [tL false .bool a] fun r o => r = tL true .bool a ∧ o = [] := by
  conv => whnf
  refine chk_i ⟨by omega, by omega⟩ ?_
  conv => whnf
  refine loop (α := Nat × List (FT.Ty .bool)) (fun p => ⟨[(0, .v (.c (.sl false .bool 0))), (3, .v (.c (.sl true .bool 1))), (4, .v (.c (.int .i64 (p.1 : Int))))], [(1, some (.flat true .bool none p.2)), (0, some (.flat false .bool none a))], nums.tail.tail, [], false, []⟩)
      (fun p => p.1 ≤ a.length ∧ p.2 = a.take p.1 ++ (List.replicate a.length (FT.zero .bool)).drop p.1) (fun p => a.length - p.1) (fun p R hI hR => ?_) (0, List.replicate a.length (FT.zero .bool)) _ ⟨by simp, by simp⟩ (by simp)
  obtain ⟨i, xs⟩ := p
  obtain ⟨hi, hx⟩ := hI
  dsimp only at hi hx
  have hlen : xs.length = a.length := by rw [hx]; simp; omega
  dsimp only
  conv => whnf
  refine sel_i (fun h2 => ?_) (fun h2 => ?_)
  · have hlt : i < a.length := by simp at h2; omega
    have hge : a[i]? = some (a.getD i (FT.zero .bool)) := by simp [List.getD_eq_getElem?_getD, hlt]
    conv => whnf
    repeat' (refine chk_c ?_ ?_ <;> conv => whnf)
    all_goals first
      | (refine ⟨?_⟩; omega)
      | (refine ⟨?_⟩; simp; done)
      | (refine ⟨?_⟩; simp; omega)
      | skip
    simp (disch := omega) only [wrap_id, Int.toNat_natCast]
    exact hR (i + 1, xs.set i (a.getD i (FT.zero .bool))) ⟨by omega, by rw [hx]; exact set_mid (by simp) (by simpa using hlt) hge⟩ (by simp; omega)
  · have hge : i = a.length := by simp at h2; omega
    subst hge
    conv => whnf
    refine ⟨?_, rfl⟩
    rw [hx, List.take_of_length_le (by omega), List.drop_eq_nil_of_le (by simp), List.append_nil]
theorem ok_laws_toBoolS : FunOk Tryz.prog c_laws_toBoolS := funOk (E := []) (envOk_nil) mixd Tryz.func71 (pf := pf_laws_toBoolS) (by kernel_rfl) fun ts K h => by
  obtain ⟨t0, e0, h⟩ := as1_out h
  subst e0
  obtain ⟨a, e1, hq⟩ := arC_out (rd_l .bool) h
  clear h
  subst e1
  have h := hq
  clear hq
  obtain ⟨hpre, h⟩ := chk_o h
  exact ⟨_, _, h, Nat.le_of_ble_eq_true (show Nat.ble 1 Tryz.f71.ntmps = true by kernel_rfl), _, run_laws_toBoolS a hpre⟩

def pf_slices_Clone_Word : PF := ⟨[.t 2], .seq (.reg [.s (.mv 2 (.k (.v (.c (.nils .word)))))]) (.seq (.seq (.reg [.s (.mv 3 (.t 0)), .s (.isnil 4 (.t 3))]) (.cond (.t 4) (.seq (.reg [.s (.mv 2 (.k (.v (.c (.nils .word)))))]) (.ret)) (.skip))) (.seq (.reg [.s (.bs 5 .word []), .s (.mv 6 (.t 0)), .s (.app 7 .word (.t 5) (.t 6)), .s (.mv 2 (.t 7))]) (.ret)))⟩
def c_slices_Clone_Word : Fun := ⟨85, [], fun ts K => as1 ts fun t0 => arC (pL .word) t0 fun a => chk (a.length ≤ 2147483647) (K (tL true .word a) [])⟩
theorem ok_slices_Clone_Word : FunOk Tryz.prog c_slices_Clone_Word := funOkN (E := []) envOk_nil mixd Tryz.func85 (pf := pf_slices_Clone_Word) (by kernel_rfl) rfl (Nat.le_of_ble_eq_true (show Nat.ble 1 Tryz.f85.ntmps = true by kernel_rfl)) fun ts K h => by
  obtain ⟨t0, e0, h⟩ := as1_out h
  subst e0
  obtain ⟨a, e1, h⟩ := arC_out (rd_l .word) h
  subst e1
  obtain ⟨hpre, h⟩ := chk_o h
  refine ⟨.word, a, _, rfl, h, 0, fun e => ?_, ?_⟩
  · subst e
    conv => whnf
    exact ⟨rfl, rfl⟩
  · conv => whnf
    repeat' (refine chk_c ?_ ?_ <;> conv => whnf)
    all_goals first
      | (refine ⟨?_⟩; simp; omega)
      | exact ⟨rfl, rfl⟩

def pf_slices_Clone_bool : PF := ⟨[.t 2], .seq (.reg [.s (.mv 2 (.k (.v (.c (.nils .bool)))))]) (.seq (.seq (.reg [.s (.mv 3 (.t 0)), .s (.isnil 4 (.t 3))]) (.cond (.t 4) (.seq (.reg [.s (.mv 2 (.k (.v (.c (.nils .bool)))))]) (.ret)) (.skip))) (.seq (.reg [.s (.bs 5 .bool []), .s (.mv 6 (.t 0)), .s (.app 7 .bool (.t 5) (.t 6)), .s (.mv 2 (.t 7))]) (.ret)))⟩
def c_slices_Clone_bool : Fun := ⟨111, [], fun ts K => as1 ts fun t0 => arC (pL .bool) t0 fun a => chk (a.length ≤ 2147483647) (K (tL true .bool a) [])⟩
theorem ok_slices_Clone_bool : FunOk Tryz.prog c_slices_Clone_bool := funOkN (E := []) envOk_nil mixd Tryz.func111 (pf := pf_slices_Clone_bool) (by kernel_rfl) rfl (Nat.le_of_ble_eq_true (show Nat.ble 1 Tryz.f111.ntmps = true by kernel_rfl)) fun ts K h => by
  obtain ⟨t0, e0, h⟩ := as1_out h
  subst e0
  obtain ⟨a, e1, h⟩ := arC_out (rd_l .bool) h
  subst e1
  obtain ⟨hpre, h⟩ := chk_o h
  refine ⟨.bool, a, _, rfl, h, 0, fun e => ?_, ?_⟩
  · subst e
    conv => whnf
    exact ⟨rfl, rfl⟩
  · conv => whnf
    repeat' (refine chk_c ?_ ?_ <;> conv => whnf)
    all_goals first
      | (refine ⟨?_⟩; simp; omega)
      | exact ⟨rfl, rfl⟩

def szB (x : Int) (f : Int → Int) : Int := if x < 0 then -1 else f x
theorem szr_le {k : Int} {n : Nat} (h : 0 ≤ k) : szr k n ≤ k := by unfold szr; split <;> omega
theorem szr_ge {k : Int} {n : Nat} : -1 ≤ szr k n := by unfold szr; split <;> omega
theorem szr_n {k : Int} {n : Nat} (h : 0 ≤ szr k n) : (n : Int) ≤ k ∧ szr k n = k - n := by unfold szr at *; split at h <;> omega
def szMem (m : Mem) (k : Int) : Int := szB (szr k m.words.length) fun k => szr k m.gone.length
theorem szB_pos {x : Int} {f : Int → Int} (h : 0 ≤ szB x f) : 0 ≤ x ∧ 0 ≤ f x ∧ szB x f = f x := by
  unfold szB at h ⊢; split at h
  · omega
  · rename_i hx; rw [if_neg hx]; exact ⟨by omega, h, rfl⟩
theorem szMem_pos {m : Mem} {k : Int} (h : 0 ≤ szMem m k) : 0 ≤ szr k m.words.length ∧ 0 ≤ szr (szr k m.words.length) m.gone.length ∧ szMem m k = szr (szr k m.words.length) m.gone.length := szB_pos h
theorem szMem_le {m : Mem} {k : Int} (h : 0 ≤ k) : szMem m k ≤ k := by
  by_cases hp : 0 ≤ szMem m k
  · obtain ⟨h1, h2, h3⟩ := szMem_pos hp
    have := szr_le (n := m.words.length) h; have := szr_le (n := m.gone.length) h1; omega
  · omega
def szTwo (t : Two) (k : Int) : Int := szB (szMem t.mem k) fun k => szB (szr k t.a.regs.length) fun k => szr k t.b.regs.length
def LMem (m : Mem) (n : Nat) : Prop := m.words.length ≤ n ∧ m.gone.length ≤ n
def LTwo (t : Two) (n : Nat) : Prop := LMem t.mem n ∧ t.a.regs.length ≤ n ∧ t.b.regs.length ≤ n
theorem szMem_n {m : Mem} {k : Int} (h0 : k ≤ 1048576) (h : 0 ≤ szMem m k) : LMem m 1048576 ∧ szMem m k ≤ k := by
  obtain ⟨h1, h2, h3⟩ := szMem_pos h
  have h4 := szr_n h1; have h5 := szr_n h2
  exact ⟨⟨by omega, by omega⟩, by omega⟩
theorem szTwo_n {t : Two} {k : Int} (h0 : k ≤ 1048576) (h : 0 ≤ szTwo t k) : LTwo t 1048576 := by
  obtain ⟨h1, h2, _⟩ := szB_pos h
  obtain ⟨h3, h4, _⟩ := szB_pos h2
  have h5 := szMem_n h0 h1; have h6 := szr_n h3; have h7 := szr_n h4
  exact ⟨h5.1, by omega, by omega⟩

def pf_laws_szMemory : PF := ⟨[.t 4], .seq (.reg [.s (.box 2 (.t 0)), .s (.mv 4 (.k (.v (.c (.int .i64 0)))))]) (.seq (.reg [.s (.fa 5 (.t 2) 0), .s (.load 6 false 1 (.t 5)), .s (.mv 7 (.t 1)), .s (.call (some 8) 28 [(.t 6), (.t 7)]), .s (.mv 1 (.t 8))]) (.seq (.seq (.reg [.s (.mv 9 (.t 1)), .s (.bin 10 .lss (.t 9) (.k (.v (.c (.int .i64 0)))))]) (.cond (.t 10) (.seq (.reg [.s (.mv 4 (.k (.v (.c (.int .i64 (-1))))))]) (.ret)) (.skip))) (.seq (.reg [.s (.fa 11 (.t 2) 1), .s (.load 12 false 1 (.t 11)), .s (.mv 13 (.t 1)), .s (.call (some 14) 60 [(.t 12), (.t 13)]), .s (.mv 1 (.t 14))]) (.seq (.seq (.reg [.s (.mv 15 (.t 1)), .s (.bin 16 .lss (.t 15) (.k (.v (.c (.int .i64 0)))))]) (.cond (.t 16) (.seq (.reg [.s (.mv 4 (.k (.v (.c (.int .i64 (-1))))))]) (.ret)) (.skip))) (.seq (.reg [.s (.mv 17 (.t 1)), .s (.mv 4 (.t 17))]) (.ret))))))⟩
def c_laws_szMemory : Fun := ⟨29, [], fun ts K => as2 ts fun t0 t1 => arG pMemT t0 fun m => arC (pI .i64) t1 fun k => chk (LMem m 9223372036854775807 ∧ 0 ≤ k ∧ k ≤ 1048576) (K (tN (szMem m k)) [])⟩
theorem run_laws_szMemory (m : Mem) (k : Int) (hpre : LMem m 9223372036854775807 ∧ 0 ≤ k ∧ k ≤ 1048576) : runK [c_laws_szWordS, c_laws_szBoolS] (0) [] pf_laws_szMemory [tG (m.tc false []), tI .i64 k] fun r o => r = tN (szMem m k) ∧ o = [] := by
  obtain ⟨⟨l1, l2⟩, hk, hk2⟩ := hpre
  have h0 := szr_le (n := m.words.length) hk
  conv => whnf
  refine chk_i ⟨l1, hk, hk2⟩ ?_
  conv => whnf
  refine sel_i (fun h => ?_) (fun h => ?_)
  · conv => whnf
    refine ⟨?_, rfl⟩; simp at h; simp [szMem, szB, h]
  · simp at h
    conv => whnf
    refine chk_i ⟨l2, h, by omega⟩ ?_
    conv => whnf
    refine sel_i (fun h2 => ?_) (fun h2 => ?_) <;> conv => whnf
    · refine ⟨?_, rfl⟩; simp at h2; have := szr_ge (k := szr k m.words.length) (n := m.gone.length); simp [szMem, szB, show ¬ szr k m.words.length < 0 by omega]; omega
    · refine ⟨?_, rfl⟩; simp [szMem, szB, show ¬ szr k m.words.length < 0 by omega]
theorem ok_laws_szMemory : FunOk Tryz.prog c_laws_szMemory := funOk (E := [c_laws_szWordS, c_laws_szBoolS]) (envOk_cons ok_laws_szWordS (envOk_cons ok_laws_szBoolS (envOk_nil))) mixd Tryz.func29 (pf := pf_laws_szMemory) (by kernel_rfl) fun ts K h => by
  obtain ⟨t0, t1, e0, h⟩ := as2_out h
  subst e0
  obtain ⟨m, e1, hq⟩ := arG_out rd_mem h
  clear h
  subst e1
  have h := hq
  clear hq
  obtain ⟨k, e1, hq⟩ := arC_out (rd_int .i64) h
  clear h
  subst e1
  have h := hq
  clear hq
  obtain ⟨hpre, h⟩ := chk_o h
  exact ⟨_, _, h, Nat.le_of_ble_eq_true (show Nat.ble 2 Tryz.f29.ntmps = true by kernel_rfl), _, run_laws_szMemory m k hpre⟩

def pf_laws_szSide : PF := ⟨[.t 4], .seq (.reg [.s (.box 2 (.t 0)), .s (.mv 4 (.k (.v (.c (.int .i64 0)))))]) (.seq (.reg [.s (.fa 5 (.t 2) 0), .s (.load 6 false 1 (.t 5)), .s (.mv 7 (.t 1)), .s (.call (some 8) 28 [(.t 6), (.t 7)]), .s (.mv 1 (.t 8))]) (.seq (.seq (.reg [.s (.mv 9 (.t 1)), .s (.bin 10 .lss (.t 9) (.k (.v (.c (.int .i64 0)))))]) (.cond (.t 10) (.seq (.reg [.s (.mv 4 (.k (.v (.c (.int .i64 (-1))))))]) (.ret)) (.skip))) (.seq (.reg [.s (.mv 11 (.t 1)), .s (.mv 4 (.t 11))]) (.ret))))⟩
def c_laws_szSide : Fun := ⟨44, [], fun ts K => as2 ts fun t0 t1 => arG pSideT t0 fun s => arC (pI .i64) t1 fun k => chk (s.regs.length ≤ 9223372036854775807 ∧ 0 ≤ k ∧ k ≤ 1048576) (K (tN (szr k s.regs.length)) [])⟩
theorem run_laws_szSide (s : Side) (k : Int) (hpre : s.regs.length ≤ 9223372036854775807 ∧ 0 ≤ k ∧ k ≤ 1048576) : runK [c_laws_szWordS] (0) [] pf_laws_szSide [tG (s.tc false []), tI .i64 k] fun r o => r = tN (szr k s.regs.length) ∧ o = [] := by
  conv => whnf
  refine chk_i hpre ?_
  conv => whnf
  refine sel_i (fun h => ?_) (fun h => ?_) <;> conv => whnf
  · refine ⟨?_, rfl⟩; simp at h; have := szr_ge (k := k) (n := s.regs.length); rw [show szr k s.regs.length = -1 by omega]
  · exact ⟨rfl, rfl⟩
theorem ok_laws_szSide : FunOk Tryz.prog c_laws_szSide := funOk (E := [c_laws_szWordS]) (envOk_cons ok_laws_szWordS (envOk_nil)) mixd Tryz.func44 (pf := pf_laws_szSide) (by kernel_rfl) fun ts K h => by
  obtain ⟨t0, t1, e0, h⟩ := as2_out h
  subst e0
  obtain ⟨s, e1, hq⟩ := arG_out rd_side h
  clear h
  subst e1
  have h := hq
  clear hq
  obtain ⟨k, e1, hq⟩ := arC_out (rd_int .i64) h
  clear h
  subst e1
  have h := hq
  clear hq
  obtain ⟨hpre, h⟩ := chk_o h
  exact ⟨_, _, h, Nat.le_of_ble_eq_true (show Nat.ble 2 Tryz.f44.ntmps = true by kernel_rfl), _, run_laws_szSide s k hpre⟩

def pf_laws_szTwo : PF := ⟨[.t 4], .seq (.reg [.s (.box 2 (.t 0)), .s (.mv 4 (.k (.v (.c (.int .i64 0)))))]) (.seq (.reg [.s (.fa 5 (.t 2) 0), .s (.load 6 true 2 (.t 5)), .s (.mv 7 (.t 1)), .s (.call (some 8) 29 [(.t 6), (.t 7)]), .s (.mv 1 (.t 8))]) (.seq (.seq (.reg [.s (.mv 9 (.t 1)), .s (.bin 10 .lss (.t 9) (.k (.v (.c (.int .i64 0)))))]) (.cond (.t 10) (.seq (.reg [.s (.mv 4 (.k (.v (.c (.int .i64 (-1))))))]) (.ret)) (.skip))) (.seq (.reg [.s (.fa 11 (.t 2) 2), .s (.load 12 true 8 (.t 11)), .s (.mv 13 (.t 1)), .s (.call (some 14) 44 [(.t 12), (.t 13)]), .s (.mv 1 (.t 14))]) (.seq (.seq (.reg [.s (.mv 15 (.t 1)), .s (.bin 16 .lss (.t 15) (.k (.v (.c (.int .i64 0)))))]) (.cond (.t 16) (.seq (.reg [.s (.mv 4 (.k (.v (.c (.int .i64 (-1))))))]) (.ret)) (.skip))) (.seq (.reg [.s (.fa 17 (.t 2) 10), .s (.load 18 true 8 (.t 17)), .s (.mv 19 (.t 1)), .s (.call (some 20) 44 [(.t 18), (.t 19)]), .s (.mv 1 (.t 20))]) (.seq (.seq (.reg [.s (.mv 21 (.t 1)), .s (.bin 22 .lss (.t 21) (.k (.v (.c (.int .i64 0)))))]) (.cond (.t 22) (.seq (.reg [.s (.mv 4 (.k (.v (.c (.int .i64 (-1))))))]) (.ret)) (.skip))) (.seq (.reg [.s (.mv 23 (.t 1)), .s (.mv 4 (.t 23))]) (.ret))))))))⟩
def c_laws_szTwo : Fun := ⟨15, [], fun ts K => as2 ts fun t0 t1 => arG pTwoT t0 fun t => arC (pI .i64) t1 fun k => chk (LTwo t 9223372036854775807 ∧ 0 ≤ k ∧ k ≤ 1048576) (K (tN (szTwo t k)) [])⟩
theorem run_laws_szTwo (t : Two) (k : Int) (hpre : LTwo t 9223372036854775807 ∧ 0 ≤ k ∧ k ≤ 1048576) : runK [c_laws_szMemory, c_laws_szSide] (0) [] pf_laws_szTwo [tG (t.tc false []), tI .i64 k] fun r o => r = tN (szTwo t k) ∧ o = [] := by
  obtain ⟨⟨l1, l2, l3⟩, hk, hk2⟩ := hpre
  have h0 := szMem_le (m := t.mem) hk
  conv => whnf
  refine chk_i ⟨l1, hk, hk2⟩ ?_
  conv => whnf
  refine sel_i (fun h => ?_) (fun h => ?_)
  · have h : szMem t.mem k < 0 := by simpa using h
    conv => whnf
    refine ⟨?_, rfl⟩; simp [szTwo, szB, h]
  · have h : 0 ≤ szMem t.mem k := by simpa using h
    have h1 := szr_le (n := t.a.regs.length) h
    conv => whnf
    refine chk_i ⟨l2, h, show szMem t.mem k ≤ _ by omega⟩ ?_
    conv => whnf
    refine sel_i (fun h2 => ?_) (fun h2 => ?_)
    · have h2 : szr (szMem t.mem k) t.a.regs.length < 0 := by simpa using h2
      conv => whnf
      refine ⟨?_, rfl⟩; simp [szTwo, szB, h2, show ¬ szMem t.mem k < 0 by omega]
    · have h2 : 0 ≤ szr (szMem t.mem k) t.a.regs.length := by simpa using h2
      conv => whnf
      refine chk_i ⟨l3, h2, show szr (szMem t.mem k) t.a.regs.length ≤ _ by omega⟩ ?_
      conv => whnf
      have h3 := szr_ge (k := szr (szMem t.mem k) t.a.regs.length) (n := t.b.regs.length)
      refine sel_i (fun h4 => ?_) (fun h4 => ?_) <;> conv => whnf
      · have h4 : szr (szr (szMem t.mem k) t.a.regs.length) t.b.regs.length < 0 := by simpa using h4
        refine ⟨?_, rfl⟩; simp [szTwo, szB, show ¬ szMem t.mem k < 0 by omega, show ¬ szr (szMem t.mem k) t.a.regs.length < 0 by omega]; omega
      · refine ⟨?_, rfl⟩; simp [szTwo, szB, show ¬ szMem t.mem k < 0 by omega, show ¬ szr (szMem t.mem k) t.a.regs.length < 0 by omega]
theorem ok_laws_szTwo : FunOk Tryz.prog c_laws_szTwo := funOk (E := [c_laws_szMemory, c_laws_szSide]) (envOk_cons ok_laws_szMemory (envOk_cons ok_laws_szSide (envOk_nil))) mixd Tryz.func15 (pf := pf_laws_szTwo) (by kernel_rfl) fun ts K h => by
  obtain ⟨t0, t1, e0, h⟩ := as2_out h
  subst e0
  obtain ⟨t, e1, hq⟩ := arG_out rd_two h
  clear h
  subst e1
  have h := hq
  clear hq
  obtain ⟨k, e1, hq⟩ := arC_out (rd_int .i64) h
  clear h
  subst e1
  have h := hq
  clear hq
  obtain ⟨hpre, h⟩ := chk_o h
  exact ⟨_, _, h, Nat.le_of_ble_eq_true (show Nat.ble 2 Tryz.f15.ntmps = true by kernel_rfl), _, run_laws_szTwo t k hpre⟩

def pf_laws_toMemory : PF := ⟨[.c 2 true 2], .seq (.reg [.s (.box 1 (.t 0)), .s (.alloc 2 [.nils .word, .nils .bool])]) (.seq (.reg [.s (.alloc 3 [.nils .word, .nils .bool])]) (.seq (.reg [.s (.fa 4 (.t 1) 0), .s (.load 5 false 1 (.t 4)), .s (.call (some 6) 35 [(.t 5)]), .s (.fa 7 (.t 3) 0), .s (.store 1 (.t 7) (.t 6))]) (.seq (.reg [.s (.fa 8 (.t 1) 1), .s (.load 9 false 1 (.t 8)), .s (.call (some 10) 71 [(.t 9)]), .s (.fa 11 (.t 3) 1), .s (.store 1 (.t 11) (.t 10))]) (.seq (.reg [.s (.load 12 true 2 (.t 3)), .s (.store 2 (.t 2) (.t 12))]) (.ret)))))⟩
def c_laws_toMemory : Fun := ⟨37, [], fun ts K => as1 ts fun t0 => arG pMemT t0 fun m => chk (LMem m 2147483647) (K (tG (m.tc true [])) [])⟩
theorem run_laws_toMemory (m : Mem) (hpre : LMem m 2147483647) : runK [c_laws_toWordS, c_laws_toBoolS] (0) [] pf_laws_toMemory [tG (m.tc false [])] fun r o => r = tG (m.tc true []) ∧ o = [] := by
  obtain ⟨l1, l2⟩ := hpre
  conv => whnf
  repeat' (first | (refine chk_c ?_ ?_ <;> conv => whnf) | (refine And.intro ?_ ?_ <;> conv => whnf))
  all_goals first
    | (refine ⟨?_⟩; omega)
    | (refine ⟨?_⟩; simp; done)
    | (refine ⟨?_⟩; simp [LMem, LTwo] at *; omega)
    | rfl
    | exact True.intro
    | exact ⟨rfl, rfl⟩
theorem ok_laws_toMemory : FunOk Tryz.prog c_laws_toMemory := funOk (E := [c_laws_toWordS, c_laws_toBoolS]) (envOk_cons ok_laws_toWordS (envOk_cons ok_laws_toBoolS (envOk_nil))) mixd Tryz.func37 (pf := pf_laws_toMemory) (by kernel_rfl) fun ts K h => by
  obtain ⟨t0, e0, h⟩ := as1_out h
  subst e0
  obtain ⟨m, e1, hq⟩ := arG_out rd_mem h
  clear h
  subst e1
  have h := hq
  clear hq
  obtain ⟨hpre, h⟩ := chk_o h
  exact ⟨_, _, h, Nat.le_of_ble_eq_true (show Nat.ble 1 Tryz.f37.ntmps = true by kernel_rfl), _, run_laws_toMemory m hpre⟩

def pf_laws_toSide : PF := ⟨[.c 2 true 8], .seq (.reg [.s (.box 1 (.t 0)), .s (.alloc 2 [.nils .word, .int .i64 0, .ff, .int .i64 0, .int .i64 0, .int .i64 0, .int .i64 0, .int .i64 0])]) (.seq (.reg [.s (.alloc 3 [.nils .word, .int .i64 0, .ff, .int .i64 0, .int .i64 0, .int .i64 0, .int .i64 0, .int .i64 0])]) (.seq (.reg [.s (.fa 4 (.t 1) 0), .s (.load 5 false 1 (.t 4)), .s (.call (some 6) 35 [(.t 5)]), .s (.fa 7 (.t 3) 0), .s (.store 1 (.t 7) (.t 6))]) (.seq (.reg [.s (.fa 8 (.t 1) 1), .s (.load 9 true 6 (.t 8)), .s (.call (some 10) 36 [(.t 9)]), .s (.fa 11 (.t 3) 1), .s (.store 6 (.t 11) (.t 10))]) (.seq (.reg [.s (.fa 12 (.t 1) 7), .s (.load 13 false 1 (.t 12)), .s (.fa 14 (.t 3) 7), .s (.store 1 (.t 14) (.t 13))]) (.seq (.reg [.s (.load 15 true 8 (.t 3)), .s (.store 8 (.t 2) (.t 15))]) (.ret))))))⟩
def c_laws_toSide : Fun := ⟨49, [], fun ts K => as1 ts fun t0 => arG pSideT t0 fun s => chk (s.regs.length ≤ 2147483647) (K (tG (s.tc true [])) [])⟩
theorem run_laws_toSide (s : Side) (hpre : s.regs.length ≤ 2147483647) : runK [c_laws_toWordS, c_laws_toWord] (0) [] pf_laws_toSide [tG (s.tc false [])] fun r o => r = tG (s.tc true []) ∧ o = [] := by
  conv => whnf
  repeat' (first | (refine chk_c ?_ ?_ <;> conv => whnf) | (refine And.intro ?_ ?_ <;> conv => whnf))
  all_goals first
    | (refine ⟨?_⟩; omega)
    | (refine ⟨?_⟩; simp; done)
    | (refine ⟨?_⟩; simp [LMem, LTwo] at *; omega)
    | rfl
    | exact True.intro
    | exact ⟨rfl, rfl⟩
theorem ok_laws_toSide : FunOk Tryz.prog c_laws_toSide := funOk (E := [c_laws_toWordS, c_laws_toWord]) (envOk_cons ok_laws_toWordS (envOk_cons ok_laws_toWord (envOk_nil))) mixd Tryz.func49 (pf := pf_laws_toSide) (by kernel_rfl) fun ts K h => by
  obtain ⟨t0, e0, h⟩ := as1_out h
  subst e0
  obtain ⟨s, e1, hq⟩ := arG_out rd_side h
  clear h
  subst e1
  have h := hq
  clear hq
  obtain ⟨hpre, h⟩ := chk_o h
  exact ⟨_, _, h, Nat.le_of_ble_eq_true (show Nat.ble 1 Tryz.f49.ntmps = true by kernel_rfl), _, run_laws_toSide s hpre⟩

def pf_laws_toTwo : PF := ⟨[.c 2 true 18], .seq (.reg [.s (.box 1 (.t 0)), .s (.alloc 2 [.nils .word, .nils .bool, .nils .word, .int .i64 0, .ff, .int .i64 0, .int .i64 0, .int .i64 0, .int .i64 0, .int .i64 0, .nils .word, .int .i64 0, .ff, .int .i64 0, .int .i64 0, .int .i64 0, .int .i64 0, .int .i64 0])]) (.seq (.reg [.s (.alloc 3 [.nils .word, .nils .bool, .nils .word, .int .i64 0, .ff, .int .i64 0, .int .i64 0, .int .i64 0, .int .i64 0, .int .i64 0, .nils .word, .int .i64 0, .ff, .int .i64 0, .int .i64 0, .int .i64 0, .int .i64 0, .int .i64 0])]) (.seq (.reg [.s (.fa 4 (.t 1) 0), .s (.load 5 true 2 (.t 4)), .s (.call (some 6) 37 [(.t 5)]), .s (.fa 7 (.t 3) 0), .s (.store 2 (.t 7) (.t 6))]) (.seq (.reg [.s (.fa 8 (.t 1) 2), .s (.load 9 true 8 (.t 8)), .s (.call (some 10) 49 [(.t 9)]), .s (.fa 11 (.t 3) 2), .s (.store 8 (.t 11) (.t 10))]) (.seq (.reg [.s (.fa 12 (.t 1) 10), .s (.load 13 true 8 (.t 12)), .s (.call (some 14) 49 [(.t 13)]), .s (.fa 15 (.t 3) 10), .s (.store 8 (.t 15) (.t 14))]) (.seq (.reg [.s (.load 16 true 18 (.t 3)), .s (.store 18 (.t 2) (.t 16))]) (.ret))))))⟩
def c_laws_toTwo : Fun := ⟨17, [], fun ts K => as1 ts fun t0 => arG pTwoT t0 fun t => chk (LTwo t 2147483647) (K (tG (t.tc true [])) [])⟩
theorem run_laws_toTwo (t : Two) (hpre : LTwo t 2147483647) : runK [c_laws_toMemory, c_laws_toSide] (0) [] pf_laws_toTwo [tG (t.tc false [])] fun r o => r = tG (t.tc true []) ∧ o = [] := by
  obtain ⟨⟨l1, l4⟩, l2, l3⟩ := hpre
  conv => whnf
  repeat' (first | (refine chk_c ?_ ?_ <;> conv => whnf) | (refine And.intro ?_ ?_ <;> conv => whnf))
  all_goals first
    | (refine ⟨?_⟩; omega)
    | (refine ⟨?_⟩; simp; done)
    | (refine ⟨?_⟩; simp [LMem, LTwo] at *; omega)
    | rfl
    | exact True.intro
    | exact ⟨rfl, rfl⟩
theorem ok_laws_toTwo : FunOk Tryz.prog c_laws_toTwo := funOk (E := [c_laws_toMemory, c_laws_toSide]) (envOk_cons ok_laws_toMemory (envOk_cons ok_laws_toSide (envOk_nil))) mixd Tryz.func17 (pf := pf_laws_toTwo) (by kernel_rfl) fun ts K h => by
  obtain ⟨t0, e0, h⟩ := as1_out h
  subst e0
  obtain ⟨t, e1, hq⟩ := arG_out rd_two h
  clear h
  subst e1
  have h := hq
  clear hq
  obtain ⟨hpre, h⟩ := chk_o h
  exact ⟨_, _, h, Nat.le_of_ble_eq_true (show Nat.ble 1 Tryz.f17.ntmps = true by kernel_rfl), _, run_laws_toTwo t hpre⟩

def pf_spec_l8Copy : PF := ⟨[.c 2 true 2], .seq (.reg [.s (.box 1 (.t 0)), .s (.alloc 2 [.nils .word, .nils .bool])]) (.seq (.rgd [.s (.bs 3 .word []), .s (.fa 4 (.t 1) 0), .s (.load 5 false 1 (.t 4)), .s (.app 6 .word (.t 3) (.t 5)), .s (.bs 7 .bool []), .s (.fa 8 (.t 1) 1), .s (.load 9 false 1 (.t 8)), .s (.app 10 .bool (.t 7) (.t 9)), .s (.build 11 [.nils .word, .nils .bool] [(0, 1, (.t 6)), (1, 1, (.t 10))]), .s (.store 2 (.t 2) (.t 11))] (.tk 1 (.tk 2 (.tk 5 (.tk 6 (.alt 0 false (.alt 3 false (.one 4 false (.one 7 true (.tk 8 (.one 9 true (.done (some [2])))))) (.alt 4 false (.one 3 false (.one 7 true (.tk 8 (.one 9 true (.done (some [2])))))) (.nil))) (.alt 4 false (.one 0 false (.one 3 false (.one 7 true (.tk 8 (.one 9 true (.done (some [2]))))))) (.nil)))))))) (.ret))⟩
def c_spec_l8Copy : Fun := ⟨82, [], fun ts K => as1 ts fun t0 => arG pMemT t0 fun m => chk (LMem m 2147483647) (K (tG (m.tc true [])) [])⟩
theorem run_spec_l8Copy (m : Mem) (hpre : LMem m 2147483647) : runK [] (0) [] pf_spec_l8Copy [tG (m.tc false [])] fun r o => r = tG (m.tc true []) ∧ o = [] := by
  obtain ⟨l1, l2⟩ := hpre
  conv => whnf
  repeat' (first | (refine chk_c ?_ ?_ <;> conv => whnf) | (refine And.intro ?_ ?_ <;> conv => whnf))
  all_goals first
    | (refine ⟨?_⟩; omega)
    | (refine ⟨?_⟩; simp; done)
    | (refine ⟨?_⟩; simp [LMem, LTwo] at *; omega)
    | rfl
    | exact True.intro
    | exact ⟨rfl, rfl⟩
theorem ok_spec_l8Copy : FunOk Tryz.prog c_spec_l8Copy := funOk (E := []) (envOk_nil) mixd Tryz.func82 (pf := pf_spec_l8Copy) (by kernel_rfl) fun ts K h => by
  obtain ⟨t0, e0, h⟩ := as1_out h
  subst e0
  obtain ⟨m, e1, hq⟩ := arG_out rd_mem h
  clear h
  subst e1
  have h := hq
  clear hq
  obtain ⟨hpre, h⟩ := chk_o h
  exact ⟨_, _, h, Nat.le_of_ble_eq_true (show Nat.ble 1 Tryz.f82.ntmps = true by kernel_rfl), _, run_spec_l8Copy m hpre⟩

def pf_impl_cloneMemory : PF := ⟨[.c 2 true 2], .seq (.reg [.s (.box 1 (.t 0)), .s (.alloc 2 [.nils .word, .nils .bool])]) (.seq (.rgd [.s (.fa 3 (.t 1) 0), .s (.load 4 false 1 (.t 3)), .s (.call (some 5) 85 [(.t 4)]), .s (.fa 6 (.t 1) 1), .s (.load 7 false 1 (.t 6)), .s (.call (some 8) 111 [(.t 7)]), .s (.build 9 [.nils .word, .nils .bool] [(0, 1, (.t 5)), (1, 1, (.t 8))]), .s (.store 2 (.t 2) (.t 9))] (.tk 0 (.tk 1 (.tk 3 (.tk 4 (.one 2 false (.one 5 true (.tk 6 (.one 7 true (.done none)))))))))) (.ret))⟩
def c_impl_cloneMemory : Fun := ⟨84, [], fun ts K => as1 ts fun t0 => arG pMemT t0 fun m => chk (LMem m 2147483647) (K (tG (m.tc true [])) [])⟩
theorem run_impl_cloneMemory (m : Mem) (hpre : LMem m 2147483647) : runK [c_slices_Clone_Word, c_slices_Clone_bool] (0) [] pf_impl_cloneMemory [tG (m.tc false [])] fun r o => r = tG (m.tc true []) ∧ o = [] := by
  obtain ⟨l1, l2⟩ := hpre
  conv => whnf
  repeat' (first | (refine chk_c ?_ ?_ <;> conv => whnf) | (refine And.intro ?_ ?_ <;> conv => whnf))
  all_goals first
    | (refine ⟨?_⟩; omega)
    | (refine ⟨?_⟩; simp; done)
    | (refine ⟨?_⟩; simp [LMem, LTwo] at *; omega)
    | rfl
    | exact True.intro
    | exact ⟨rfl, rfl⟩
theorem ok_impl_cloneMemory : FunOk Tryz.prog c_impl_cloneMemory := funOk (E := [c_slices_Clone_Word, c_slices_Clone_bool]) (envOk_cons ok_slices_Clone_Word (envOk_cons ok_slices_Clone_bool (envOk_nil))) mixd Tryz.func84 (pf := pf_impl_cloneMemory) (by kernel_rfl) fun ts K h => by
  obtain ⟨t0, e0, h⟩ := as1_out h
  subst e0
  obtain ⟨m, e1, hq⟩ := arG_out rd_mem h
  clear h
  subst e1
  have h := hq
  clear hq
  obtain ⟨hpre, h⟩ := chk_o h
  exact ⟨_, _, h, Nat.le_of_ble_eq_true (show Nat.ble 1 Tryz.f84.ntmps = true by kernel_rfl), _, run_impl_cloneMemory m hpre⟩

def sideState (t : Two) (who : Int) : State :=
  if who = 0 then ⟨t.a.regs, t.a.pc, t.mem, t.a.trap⟩ else if who = 1 then ⟨t.b.regs, t.b.pc, t.mem, t.b.trap⟩ else ⟨[], ⟨0, false, ⟨0, 0, 0, 0⟩⟩, ⟨[], []⟩, 0⟩

theorem sideState_0 {t : Two} {who : Int} (h : who = 0) : sideState t who = ⟨t.a.regs, t.a.pc, t.mem, t.a.trap⟩ := by simp [sideState, h]
theorem sideState_1 {t : Two} {who : Int} (h : who = 1) : sideState t who = ⟨t.b.regs, t.b.pc, t.mem, t.b.trap⟩ := by simp [sideState, h]
theorem sideState_x {t : Two} {who : Int} (h : who ≠ 0) (h1 : who ≠ 1) : sideState t who = ⟨[], ⟨0, false, ⟨0, 0, 0, 0⟩⟩, ⟨[], []⟩, 0⟩ := by simp [sideState, h, h1]
theorem sideState_len {t : Two} {who : Int} {n : Nat} (h : LTwo t n) : (sideState t who).regs.length ≤ n ∧ LMem (sideState t who).mem n := by
  obtain ⟨⟨l1, l4⟩, l2, l3⟩ := h
  unfold sideState
  split
  · exact ⟨l2, l1, l4⟩
  · split
    · exact ⟨l3, l1, l4⟩
    · exact ⟨Nat.zero_le _, Nat.zero_le _, Nat.zero_le _⟩

def pf_spec_SideState : PF := ⟨[.c 4 true 10], .seq (.reg [.s (.box 2 (.t 0)), .s (.alloc 4 [.nils .word, .int .i64 0, .ff, .int .i64 0, .int .i64 0, .int .i64 0, .int .i64 0, .nils .word, .nils .bool, .int .i64 0])]) (.seq (.seq (.reg [.s (.mv 6 (.t 1)), .s (.call (some 7) 47 [(.t 6), (.k (.v (.c (.int .i64 0)))), (.k (.v (.c (.int .i64 1))))]), .s (.bnot 8 (.t 7))]) (.cond (.t 8) (.seq (.reg [.s (.build 9 [.nils .word, .int .i64 0, .ff, .int .i64 0, .int .i64 0, .int .i64 0, .int .i64 0, .nils .word, .nils .bool, .int .i64 0] []), .s (.store 10 (.t 4) (.t 9))]) (.ret)) (.skip))) (.seq (.reg [.s (.fa 10 (.t 2) 2), .s (.load 11 true 8 (.t 10)), .s (.alloc 5 [.nils .word, .int .i64 0, .ff, .int .i64 0, .int .i64 0, .int .i64 0, .int .i64 0, .int .i64 0]), .s (.store 8 (.t 5) (.t 11))]) (.seq (.seq (.reg [.s (.mv 12 (.t 1)), .s (.bin 13 .eql (.t 12) (.k (.v (.c (.int .i64 1)))))]) (.cond (.t 13) (.reg [.s (.fa 14 (.t 2) 10), .s (.load 15 true 8 (.t 14)), .s (.store 8 (.t 5) (.t 15))]) (.skip))) (.seq (.rgd [.s (.bs 16 .word []), .s (.fa 17 (.t 5) 0), .s (.load 18 false 1 (.t 17)), .s (.app 19 .word (.t 16) (.t 18)), .s (.fa 20 (.t 5) 1), .s (.load 21 true 6 (.t 20)), .s (.fa 22 (.t 2) 0), .s (.load 23 true 2 (.t 22)), .s (.call (some 24) 82 [(.t 23)]), .s (.fa 25 (.t 5) 7), .s (.load 26 false 1 (.t 25)), .s (.build 27 [.nils .word, .int .i64 0, .ff, .int .i64 0, .int .i64 0, .int .i64 0, .int .i64 0, .nils .word, .nils .bool, .int .i64 0] [(0, 1, (.t 19)), (1, 6, (.t 21)), (7, 2, (.t 24)), (9, 1, (.t 26))]), .s (.store 10 (.t 4) (.t 27))] (.tk 1 (.tk 2 (.tk 4 (.tk 5 (.tk 6 (.tk 7 (.tk 9 (.tk 10 (.one 0 false (.one 3 false (.one 8 false (.tk 11 (.one 12 true (.done none))))))))))))))) (.ret)))))⟩
def c_spec_SideState : Fun := ⟨48, [], fun ts K => as2 ts fun t0 t1 => arG pTwoT t0 fun t => arC (pI .i64) t1 fun who => chk (LTwo t 2147483647) (K (tG ((sideState t who).tc true [])) [])⟩
theorem run_spec_SideState (t : Two) (who : Int) (hpre : LTwo t 2147483647) : runK [c_spec_l1In, c_spec_l8Copy] (0) [] pf_spec_SideState [tG (t.tc false []), tI .i64 who] fun r o => r = tG ((sideState t who).tc true []) ∧ o = [] := by
  obtain ⟨⟨l1, l4⟩, l2, l3⟩ := hpre
  conv => whnf
  refine sel_i (fun h => ?_) (fun h => ?_)
  · rw [sideState_x (by rintro rfl; simp [inR] at h) (by rintro rfl; simp [inR] at h)]
    conv => whnf
    exact ⟨rfl, rfl⟩
  · conv => whnf
    refine sel_i (fun h2 => ?_) (fun h2 => ?_)
    · rw [sideState_1 (by simpa using h2)]
      conv => whnf
      repeat' (first | (refine chk_c ?_ ?_ <;> conv => whnf) | (refine And.intro ?_ ?_ <;> conv => whnf))
      all_goals first
        | (refine ⟨?_⟩; omega)
        | (refine ⟨?_⟩; simp; done)
        | (refine ⟨?_⟩; simp [LMem, LTwo] at *; omega)
        | rfl
        | exact True.intro
        | exact ⟨rfl, rfl⟩
    · have h2 : who ≠ 1 := by simpa using h2
      rw [sideState_0 (by simp [inR] at h; omega)]
      conv => whnf
      repeat' (first | (refine chk_c ?_ ?_ <;> conv => whnf) | (refine And.intro ?_ ?_ <;> conv => whnf))
      all_goals first
        | (refine ⟨?_⟩; omega)
        | (refine ⟨?_⟩; simp; done)
        | (refine ⟨?_⟩; simp [LMem, LTwo] at *; omega)
        | rfl
        | exact True.intro
        | exact ⟨rfl, rfl⟩
theorem ok_spec_SideState : FunOk Tryz.prog c_spec_SideState := funOk (E := [c_spec_l1In, c_spec_l8Copy]) (envOk_cons ok_spec_l1In (envOk_cons ok_spec_l8Copy (envOk_nil))) mixd Tryz.func48 (pf := pf_spec_SideState) (by kernel_rfl) fun ts K h => by
  obtain ⟨t0, t1, e0, h⟩ := as2_out h
  subst e0
  obtain ⟨t, e1, hq⟩ := arG_out rd_two h
  clear h
  subst e1
  have h := hq
  clear hq
  obtain ⟨who, e1, hq⟩ := arC_out (rd_int .i64) h
  clear h
  subst e1
  have h := hq
  clear hq
  obtain ⟨hpre, h⟩ := chk_o h
  exact ⟨_, _, h, Nat.le_of_ble_eq_true (show Nat.ble 2 Tryz.f48.ntmps = true by kernel_rfl), _, run_spec_SideState t who hpre⟩

def pf_impl_SideState : PF := ⟨[.c 4 true 10], .seq (.reg [.s (.box 2 (.t 0)), .s (.alloc 4 [.nils .word, .int .i64 0, .ff, .int .i64 0, .int .i64 0, .int .i64 0, .int .i64 0, .nils .word, .nils .bool, .int .i64 0])]) (.seq (.reg [.s (.fa 6 (.t 2) 2), .s (.load 7 true 8 (.t 6)), .s (.alloc 5 [.nils .word, .int .i64 0, .ff, .int .i64 0, .int .i64 0, .int .i64 0, .int .i64 0, .int .i64 0]), .s (.store 8 (.t 5) (.t 7))]) (.seq (.seq (.reg [.s (.mv 8 (.t 1))]) (.blk 0 (.seq (.reg [.s (.bin 11 .eql (.t 8) (.k (.v (.c (.int .i64 0))))), .s (.mv 10 (.t 11))]) (.cond (.t 10) (.skip) (.seq (.reg [.s (.bin 13 .eql (.t 8) (.k (.v (.c (.int .i64 1))))), .s (.mv 12 (.t 13))]) (.cond (.t 12) (.reg [.s (.fa 14 (.t 2) 10), .s (.load 15 true 8 (.t 14)), .s (.store 8 (.t 5) (.t 15))]) (.seq (.reg [.s (.build 9 [.nils .word, .int .i64 0, .ff, .int .i64 0, .int .i64 0, .int .i64 0, .int .i64 0, .nils .word, .nils .bool, .int .i64 0] []), .s (.store 10 (.t 4) (.t 9))]) (.ret)))))))) (.seq (.rgd [.s (.fa 16 (.t 5) 0), .s (.load 17 false 1 (.t 16)), .s (.call (some 18) 85 [(.t 17)]), .s (.fa 19 (.t 5) 1), .s (.load 20 true 6 (.t 19)), .s (.fa 21 (.t 2) 0), .s (.load 22 true 2 (.t 21)), .s (.call (some 23) 84 [(.t 22)]), .s (.fa 24 (.t 5) 7), .s (.load 25 false 1 (.t 24)), .s (.build 26 [.nils .word, .int .i64 0, .ff, .int .i64 0, .int .i64 0, .int .i64 0, .int .i64 0, .nils .word, .nils .bool, .int .i64 0] [(0, 1, (.t 18)), (1, 6, (.t 20)), (7, 2, (.t 23)), (9, 1, (.t 25))]), .s (.store 10 (.t 4) (.t 26))] (.tk 0 (.tk 1 (.tk 3 (.tk 4 (.tk 5 (.tk 6 (.tk 8 (.tk 9 (.one 2 false (.one 7 false (.tk 10 (.one 11 true (.done none)))))))))))))) (.ret))))⟩
def c_impl_SideState : Fun := ⟨54, [], fun ts K => as2 ts fun t0 t1 => arG pTwoT t0 fun t => arC (pI .i64) t1 fun who => chk (LTwo t 2147483647) (K (tG ((sideState t who).tc true [])) [])⟩
theorem run_impl_SideState (t : Two) (who : Int) (hpre : LTwo t 2147483647) : runK [c_impl_cloneMemory, c_slices_Clone_Word] (0) [] pf_impl_SideState [tG (t.tc false []), tI .i64 who] fun r o => r = tG ((sideState t who).tc true []) ∧ o = [] := by
  obtain ⟨⟨l1, l4⟩, l2, l3⟩ := hpre
  conv => whnf
  refine sel_i (fun h => ?_) (fun h => ?_)
  · rw [sideState_0 (by simpa using h)]
    conv => whnf
    repeat' (first | (refine chk_c ?_ ?_ <;> conv => whnf) | (refine And.intro ?_ ?_ <;> conv => whnf))
    all_goals first
      | (refine ⟨?_⟩; omega)
      | (refine ⟨?_⟩; simp; done)
      | (refine ⟨?_⟩; simp [LMem, LTwo] at *; omega)
      | rfl
      | exact True.intro
      | exact ⟨rfl, rfl⟩
  · conv => whnf
    refine sel_i (fun h2 => ?_) (fun h2 => ?_)
    · rw [sideState_1 (by simpa using h2)]
      conv => whnf
      repeat' (first | (refine chk_c ?_ ?_ <;> conv => whnf) | (refine And.intro ?_ ?_ <;> conv => whnf))
      all_goals first
        | (refine ⟨?_⟩; omega)
        | (refine ⟨?_⟩; simp; done)
        | (refine ⟨?_⟩; simp [LMem, LTwo] at *; omega)
        | rfl
        | exact True.intro
        | exact ⟨rfl, rfl⟩
    · rw [sideState_x (by simpa using h) (by simpa using h2)]
      conv => whnf
      repeat' (first | (refine chk_c ?_ ?_ <;> conv => whnf) | (refine And.intro ?_ ?_ <;> conv => whnf))
      all_goals first
        | (refine ⟨?_⟩; omega)
        | (refine ⟨?_⟩; simp; done)
        | (refine ⟨?_⟩; simp [LMem, LTwo] at *; omega)
        | rfl
        | exact True.intro
        | exact ⟨rfl, rfl⟩
theorem ok_impl_SideState : FunOk Tryz.prog c_impl_SideState := funOk (E := [c_impl_cloneMemory, c_slices_Clone_Word]) (envOk_cons ok_impl_cloneMemory (envOk_cons ok_slices_Clone_Word (envOk_nil))) mixd Tryz.func54 (pf := pf_impl_SideState) (by kernel_rfl) fun ts K h => by
  obtain ⟨t0, t1, e0, h⟩ := as2_out h
  subst e0
  obtain ⟨t, e1, hq⟩ := arG_out rd_two h
  clear h
  subst e1
  have h := hq
  clear hq
  obtain ⟨who, e1, hq⟩ := arC_out (rd_int .i64) h
  clear h
  subst e1
  have h := hq
  clear hq
  obtain ⟨hpre, h⟩ := chk_o h
  exact ⟨_, _, h, Nat.le_of_ble_eq_true (show Nat.ble 2 Tryz.f54.ntmps = true by kernel_rfl), _, run_impl_SideState t who hpre⟩

def LState (s : State) (n : Nat) : Prop := s.regs.length ≤ n ∧ LMem s.mem n

def pf_laws_eqState : PF := ⟨[.t 4], .seq (.reg [.s (.box 2 (.t 0)), .s (.box 3 (.t 1)), .s (.mv 4 (.k (.v (.c .ff))))]) (.seq (.seq (.reg [.s (.fa 5 (.t 2) 0), .s (.load 6 false 1 (.t 5)), .s (.fa 7 (.t 3) 0), .s (.load 8 false 1 (.t 7)), .s (.call (some 9) 41 [(.t 6), (.t 8)]), .s (.bnot 10 (.t 9))]) (.cond (.t 10) (.seq (.reg [.s (.mv 4 (.k (.v (.c .ff))))]) (.ret)) (.skip))) (.seq (.seq (.reg [.s (.fa 11 (.t 2) 1), .s (.load 12 true 6 (.t 11)), .s (.fa 13 (.t 3) 1), .s (.load 14 true 6 (.t 13)), .s (.call (some 15) 42 [(.t 12), (.t 14)]), .s (.bnot 16 (.t 15))]) (.cond (.t 16) (.seq (.reg [.s (.mv 4 (.k (.v (.c .ff))))]) (.ret)) (.skip))) (.seq (.seq (.reg [.s (.fa 17 (.t 2) 7), .s (.load 18 true 2 (.t 17)), .s (.fa 19 (.t 3) 7), .s (.load 20 true 2 (.t 19)), .s (.call (some 21) 43 [(.t 18), (.t 20)]), .s (.bnot 22 (.t 21))]) (.cond (.t 22) (.seq (.reg [.s (.mv 4 (.k (.v (.c .ff))))]) (.ret)) (.skip))) (.seq (.seq (.reg [.s (.fa 23 (.t 2) 9), .s (.load 24 false 1 (.t 23)), .s (.fa 25 (.t 3) 9), .s (.load 26 false 1 (.t 25)), .s (.bin 27 .neq (.t 24) (.t 26))]) (.cond (.t 27) (.seq (.reg [.s (.mv 4 (.k (.v (.c .ff))))]) (.ret)) (.skip))) (.seq (.reg [.s (.mv 4 (.k (.v (.c .tt))))]) (.ret))))))⟩
def c_laws_eqState : Fun := ⟨14, [], fun ts K => as2 ts fun t0 t1 => arG pStateT t0 fun a => arG pStateT t1 fun b => chk (LState a 2147483647) (K (tB (decide (a = b))) [])⟩
theorem run_laws_eqState (a : State) (b : State) (hpre : LState a 2147483647) : runK [c_laws_eqWordS, c_laws_eqWord, c_laws_eqMemory] (0) [] pf_laws_eqState [tG (a.tc false []), tG (b.tc false [])] fun r o => r = tB (decide (a = b)) ∧ o = [] := by
  obtain ⟨l1, l2, l3⟩ := hpre
  obtain ⟨a1, ⟨a2n, a2i, ⟨a2a, a2b, a2c, a2d⟩⟩, ⟨a3, a5⟩, a4⟩ := a
  obtain ⟨b1, ⟨b2n, b2i, ⟨b2a, b2b, b2c, b2d⟩⟩, ⟨b3, b5⟩, b4⟩ := b
  dsimp only at l1 l2 l3
  conv => whnf
  repeat' (first | (refine sel_i (fun h => ?_) (fun h => ?_) <;> conv => whnf) | (refine chk_c ?_ ?_ <;> conv => whnf))
  all_goals first
    | (refine ⟨?_⟩; assumption)
    | (refine ⟨?_⟩; exact ⟨by assumption, by assumption⟩)
    | (refine ⟨?_, rfl⟩; simp_all; done)
    | (refine ⟨?_, rfl⟩; simp_all; intros; simp_all; done)
theorem ok_laws_eqState : FunOk Tryz.prog c_laws_eqState := funOk (E := [c_laws_eqWordS, c_laws_eqWord, c_laws_eqMemory]) (envOk_cons ok_laws_eqWordS (envOk_cons ok_laws_eqWord (envOk_cons ok_laws_eqMemory (envOk_nil)))) mixd Tryz.func14 (pf := pf_laws_eqState) (by kernel_rfl) fun ts K h => by
  obtain ⟨t0, t1, e0, h⟩ := as2_out h
  subst e0
  obtain ⟨a, e1, hq⟩ := arG_out rd_state h
  clear h
  subst e1
  have h := hq
  clear hq
  obtain ⟨b, e1, hq⟩ := arG_out rd_state h
  clear h
  subst e1
  have h := hq
  clear hq
  obtain ⟨hpre, h⟩ := chk_o h
  exact ⟨_, _, h, Nat.le_of_ble_eq_true (show Nat.ble 2 Tryz.f14.ntmps = true by kernel_rfl), _, run_laws_eqState a b hpre⟩

def pf_laws_eqSide : PF := ⟨[.t 4], .seq (.reg [.s (.box 2 (.t 0)), .s (.box 3 (.t 1)), .s (.mv 4 (.k (.v (.c .ff))))]) (.seq (.seq (.reg [.s (.fa 5 (.t 2) 0), .s (.load 6 false 1 (.t 5)), .s (.fa 7 (.t 3) 0), .s (.load 8 false 1 (.t 7)), .s (.call (some 9) 41 [(.t 6), (.t 8)]), .s (.bnot 10 (.t 9))]) (.cond (.t 10) (.seq (.reg [.s (.mv 4 (.k (.v (.c .ff))))]) (.ret)) (.skip))) (.seq (.seq (.reg [.s (.fa 11 (.t 2) 1), .s (.load 12 true 6 (.t 11)), .s (.fa 13 (.t 3) 1), .s (.load 14 true 6 (.t 13)), .s (.call (some 15) 42 [(.t 12), (.t 14)]), .s (.bnot 16 (.t 15))]) (.cond (.t 16) (.seq (.reg [.s (.mv 4 (.k (.v (.c .ff))))]) (.ret)) (.skip))) (.seq (.seq (.reg [.s (.fa 17 (.t 2) 7), .s (.load 18 false 1 (.t 17)), .s (.fa 19 (.t 3) 7), .s (.load 20 false 1 (.t 19)), .s (.bin 21 .neq (.t 18) (.t 20))]) (.cond (.t 21) (.seq (.reg [.s (.mv 4 (.k (.v (.c .ff))))]) (.ret)) (.skip))) (.seq (.reg [.s (.mv 4 (.k (.v (.c .tt))))]) (.ret)))))⟩
def c_laws_eqSide : Fun := ⟨55, [], fun ts K => as2 ts fun t0 t1 => arG pSideT t0 fun a => arG pSideT t1 fun b => chk (a.regs.length ≤ 2147483647) (K (tB (decide (a = b))) [])⟩
theorem run_laws_eqSide (a : Side) (b : Side) (hpre : a.regs.length ≤ 2147483647) : runK [c_laws_eqWordS, c_laws_eqWord] (0) [] pf_laws_eqSide [tG (a.tc false []), tG (b.tc false [])] fun r o => r = tB (decide (a = b)) ∧ o = [] := by
  obtain ⟨a1, ⟨a2n, a2i, ⟨a2a, a2b, a2c, a2d⟩⟩, a4⟩ := a
  obtain ⟨b1, ⟨b2n, b2i, ⟨b2a, b2b, b2c, b2d⟩⟩, b4⟩ := b
  dsimp only at hpre
  conv => whnf
  repeat' (first | (refine sel_i (fun h => ?_) (fun h => ?_) <;> conv => whnf) | (refine chk_c ?_ ?_ <;> conv => whnf))
  all_goals first
    | (refine ⟨?_⟩; assumption)
    | (refine ⟨?_, rfl⟩; simp_all; done)
    | (refine ⟨?_, rfl⟩; simp_all; intros; simp_all; done)
theorem ok_laws_eqSide : FunOk Tryz.prog c_laws_eqSide := funOk (E := [c_laws_eqWordS, c_laws_eqWord]) (envOk_cons ok_laws_eqWordS (envOk_cons ok_laws_eqWord (envOk_nil))) mixd Tryz.func55 (pf := pf_laws_eqSide) (by kernel_rfl) fun ts K h => by
  obtain ⟨t0, t1, e0, h⟩ := as2_out h
  subst e0
  obtain ⟨a, e1, hq⟩ := arG_out rd_side h
  clear h
  subst e1
  have h := hq
  clear hq
  obtain ⟨b, e1, hq⟩ := arG_out rd_side h
  clear h
  subst e1
  have h := hq
  clear hq
  obtain ⟨hpre, h⟩ := chk_o h
  exact ⟨_, _, h, Nat.le_of_ble_eq_true (show Nat.ble 2 Tryz.f55.ntmps = true by kernel_rfl), _, run_laws_eqSide a b hpre⟩

def pf_laws_eqTwo : PF := ⟨[.t 4], .seq (.reg [.s (.box 2 (.t 0)), .s (.box 3 (.t 1)), .s (.mv 4 (.k (.v (.c .ff))))]) (.seq (.seq (.reg [.s (.fa 5 (.t 2) 0), .s (.load 6 true 2 (.t 5)), .s (.fa 7 (.t 3) 0), .s (.load 8 true 2 (.t 7)), .s (.call (some 9) 43 [(.t 6), (.t 8)]), .s (.bnot 10 (.t 9))]) (.cond (.t 10) (.seq (.reg [.s (.mv 4 (.k (.v (.c .ff))))]) (.ret)) (.skip))) (.seq (.seq (.reg [.s (.fa 11 (.t 2) 2), .s (.load 12 true 8 (.t 11)), .s (.fa 13 (.t 3) 2), .s (.load 14 true 8 (.t 13)), .s (.call (some 15) 55 [(.t 12), (.t 14)]), .s (.bnot 16 (.t 15))]) (.cond (.t 16) (.seq (.reg [.s (.mv 4 (.k (.v (.c .ff))))]) (.ret)) (.skip))) (.seq (.seq (.reg [.s (.fa 17 (.t 2) 10), .s (.load 18 true 8 (.t 17)), .s (.fa 19 (.t 3) 10), .s (.load 20 true 8 (.t 19)), .s (.call (some 21) 55 [(.t 18), (.t 20)]), .s (.bnot 22 (.t 21))]) (.cond (.t 22) (.seq (.reg [.s (.mv 4 (.k (.v (.c .ff))))]) (.ret)) (.skip))) (.seq (.reg [.s (.mv 4 (.k (.v (.c .tt))))]) (.ret)))))⟩
def c_laws_eqTwo : Fun := ⟨19, [], fun ts K => as2 ts fun t0 t1 => arG pTwoT t0 fun a => arG pTwoT t1 fun b => chk (LTwo a 2147483647) (K (tB (decide (a = b))) [])⟩
theorem run_laws_eqTwo (a : Two) (b : Two) (hpre : LTwo a 2147483647) : runK [c_laws_eqMemory, c_laws_eqSide] (0) [] pf_laws_eqTwo [tG (a.tc false []), tG (b.tc false [])] fun r o => r = tB (decide (a = b)) ∧ o = [] := by
  obtain ⟨⟨l1, l4⟩, l2, l3⟩ := hpre
  obtain ⟨⟨a1, a4⟩, ⟨a2, ⟨a5n, a5i, ⟨a5a, a5b, a5c, a5d⟩⟩, a6⟩, ⟨a3, ⟨a7n, a7i, ⟨a7a, a7b, a7c, a7d⟩⟩, a8⟩⟩ := a
  obtain ⟨⟨b1, b4⟩, ⟨b2, ⟨b5n, b5i, ⟨b5a, b5b, b5c, b5d⟩⟩, b6⟩, ⟨b3, ⟨b7n, b7i, ⟨b7a, b7b, b7c, b7d⟩⟩, b8⟩⟩ := b
  dsimp only at l1 l2 l3 l4
  conv => whnf
  repeat' (first | (refine sel_i (fun h => ?_) (fun h => ?_) <;> conv => whnf) | (refine chk_c ?_ ?_ <;> conv => whnf))
  all_goals first
    | (refine ⟨?_⟩; assumption)
    | (refine ⟨?_⟩; exact ⟨by assumption, by assumption⟩)
    | (refine ⟨?_, rfl⟩; simp_all; done)
    | (refine ⟨?_, rfl⟩; simp_all; intros; simp_all; done)
theorem ok_laws_eqTwo : FunOk Tryz.prog c_laws_eqTwo := funOk (E := [c_laws_eqMemory, c_laws_eqSide]) (envOk_cons ok_laws_eqMemory (envOk_cons ok_laws_eqSide (envOk_nil))) mixd Tryz.func19 (pf := pf_laws_eqTwo) (by kernel_rfl) fun ts K h => by
  obtain ⟨t0, t1, e0, h⟩ := as2_out h
  subst e0
  obtain ⟨a, e1, hq⟩ := arG_out rd_two h
  clear h
  subst e1
  have h := hq
  clear hq
  obtain ⟨b, e1, hq⟩ := arG_out rd_two h
  clear h
  subst e1
  have h := hq
  clear hq
  obtain ⟨hpre, h⟩ := chk_o h
  exact ⟨_, _, h, Nat.le_of_ble_eq_true (show Nat.ble 2 Tryz.f19.ntmps = true by kernel_rfl), _, run_laws_eqTwo a b hpre⟩

def endSide (m : Side) (k : Int) : Int := k + 6 * m.regs.length
def markSide (m : Side) (k : Int) : Side := { m with regs := mkWordS m.regs.length (k) }
def SzSide (m : Side) : Prop := m.regs.length ≤ 2147483647
theorem sz_markSide (m : Side) (k : Int) (h : SzSide m) : SzSide (markSide m k) := by
  simp only [SzSide, endSide, markSide, mkWordS_length] at h ⊢; omega
theorem endSide_le (m : Side) (k : Int) (h : SzSide m) : k ≤ endSide m k ∧ endSide m k ≤ k + 1099511627776 := by
  simp only [SzSide, endSide, markSide] at h ⊢; omega
theorem mark_markSide (m : Side) (k : Int) : markSide (markSide m k) k = markSide m k := by
  simp [SzSide, endSide, markSide, mkWordS_length]
theorem end_markSide (m : Side) (k : Int) : endSide (markSide m k) k = endSide m k := by
  simp [SzSide, endSide, markSide, mkWordS_length]
theorem etaSide (m : Side) : (⟨m.regs, m.pc, m.trap⟩ : Side) = m := rfl

def pf_laws_markSide : PF := ⟨[.t 4], .seq (.reg [.s (.box 2 (.t 0)), .s (.mv 4 (.k (.v (.c (.int .i64 0)))))]) (.seq (.reg [.s (.fa 5 (.t 2) 0), .s (.load 6 false 1 (.t 5)), .s (.mv 7 (.t 1)), .s (.call (some 8) 88 [(.t 6), (.t 7)]), .s (.mv 1 (.t 8))]) (.seq (.reg [.s (.mv 9 (.t 1)), .s (.mv 4 (.t 9))]) (.ret)))⟩
def c_laws_markSide : Fun := ⟨57, [true, false], fun ts K => as2 ts fun t0 t1 => arG pSideO t0 fun m => arC (pI .i64) t1 fun k => chk (0 ≤ k ∧ k ≤ 562949953421312 ∧ SzSide m) (K (tN (endSide m k)) ([tG ((markSide m k).tc true [])]))⟩
theorem run_laws_markSide (m : Side) (k : Int) (hpre : 0 ≤ k ∧ k ≤ 562949953421312 ∧ SzSide m) : runK [c_laws_markWordS] (0) [true, false] pf_laws_markSide [tG (m.tc true []), tI .i64 k] fun r o => r = tN (endSide m k) ∧ o = [tG ((markSide m k).tc true [])] := by
  conv => whnf
  repeat' (refine chk_c ?_ ?_ <;> conv => whnf)
  all_goals first
    | (refine ⟨?_⟩; (try dsimp only); simp only [SzSide, endSide, markSide] at *; omega)
    | (refine ⟨?_⟩; (try dsimp only); simp only [SzSide, endSide, markSide, mkWordS_length] at *; omega)
    | (refine ⟨?_⟩; (try dsimp only); simp [SzSide, endSide, markSide, mkWordS_length]; done)
    | exact ⟨rfl, rfl⟩
theorem ok_laws_markSide : FunOk Tryz.prog c_laws_markSide := funOk (E := [c_laws_markWordS]) (envOk_cons ok_laws_markWordS (envOk_nil)) mixd Tryz.func57 (pf := pf_laws_markSide) (by kernel_rfl) fun ts K h => by
  obtain ⟨t0, t1, e0, h⟩ := as2_out h
  subst e0
  obtain ⟨m, e1, hq⟩ := arG_out rd_sideO h
  clear h
  subst e1
  have h := hq
  clear hq
  obtain ⟨k, e1, hq⟩ := arC_out (rd_int .i64) h
  clear h
  subst e1
  have h := hq
  clear hq
  obtain ⟨hpre, h⟩ := chk_o h
  exact ⟨_, _, h, Nat.le_of_ble_eq_true (show Nat.ble 2 Tryz.f57.ntmps = true by kernel_rfl), _, run_laws_markSide m k hpre⟩

def pf_laws_heldSide : PF := ⟨[.t 4], .seq (.reg [.s (.box 2 (.t 0)), .s (.mv 4 (.k (.v (.c (.int .i64 0)))))]) (.seq (.reg [.s (.fa 5 (.t 2) 0), .s (.load 6 false 1 (.t 5)), .s (.mv 7 (.t 1)), .s (.call (some 8) 90 [(.t 6), (.t 7)]), .s (.mv 1 (.t 8))]) (.seq (.seq (.reg [.s (.mv 9 (.t 1)), .s (.bin 10 .lss (.t 9) (.k (.v (.c (.int .i64 0)))))]) (.cond (.t 10) (.seq (.reg [.s (.mv 4 (.k (.v (.c (.int .i64 (-1))))))]) (.ret)) (.skip))) (.seq (.reg [.s (.mv 11 (.t 1)), .s (.mv 4 (.t 11))]) (.ret))))⟩
def c_laws_heldSide : Fun := ⟨59, [], fun ts K => as2 ts fun t0 t1 => arG pSideT t0 fun m => arC (pI .i64) t1 fun k => chk (0 ≤ k ∧ k ≤ 562949953421312 ∧ SzSide m) (K (tN (hres (m = markSide m k) (endSide m k))) [])⟩
theorem run_laws_heldSide (m : Side) (k : Int) (hpre : 0 ≤ k ∧ k ≤ 562949953421312 ∧ SzSide m) : runK [c_laws_heldWordS] (0) [] pf_laws_heldSide [tG (m.tc false []), tI .i64 k] fun r o => r = tN (hres (m = markSide m k) (endSide m k)) ∧ o = [] := by
  have hsz := hpre.2.2
  conv => whnf
  refine chk_i (by (try dsimp only); simp only [SzSide, endSide, markSide] at *; omega) ?_
  conv => whnf
  refine sel_i (fun h => ?_) (fun h => ?_)
  · have hn := hres_t (by (try dsimp only); simp only [SzSide, endSide, markSide] at *; omega) h
    conv => whnf
    refine ⟨?_, rfl⟩
    rw [hres_no (fun e => hn (congrArg Side.regs e))]
  obtain ⟨p0, e0⟩ := hres_f h
  conv => whnf
  refine ⟨?_, rfl⟩
  rw [hres_yes (show m = markSide m k from ?_)]
  · exact congrArg (fun x => tN x) e0
  · obtain ⟨m0, m1, m2⟩ := m
    simp only [markSide, Side.mk.injEq, eq_self, and_true, true_and]
    exact p0
theorem ok_laws_heldSide : FunOk Tryz.prog c_laws_heldSide := funOk (E := [c_laws_heldWordS]) (envOk_cons ok_laws_heldWordS (envOk_nil)) mixd Tryz.func59 (pf := pf_laws_heldSide) (by kernel_rfl) fun ts K h => by
  obtain ⟨t0, t1, e0, h⟩ := as2_out h
  subst e0
  obtain ⟨m, e1, hq⟩ := arG_out rd_side h
  clear h
  subst e1
  have h := hq
  clear hq
  obtain ⟨k, e1, hq⟩ := arC_out (rd_int .i64) h
  clear h
  subst e1
  have h := hq
  clear hq
  obtain ⟨hpre, h⟩ := chk_o h
  exact ⟨_, _, h, Nat.le_of_ble_eq_true (show Nat.ble 2 Tryz.f59.ntmps = true by kernel_rfl), _, run_laws_heldSide m k hpre⟩

def endState (m : State) (k : Int) : Int := endMemory m.mem (k + 6 * m.regs.length)
def markState (m : State) (k : Int) : State := { m with regs := mkWordS m.regs.length (k), mem := markMemory m.mem (k + 6 * m.regs.length) }
def SzState (m : State) : Prop := m.regs.length ≤ 2147483647 ∧ SzMemory m.mem
theorem sz_markState (m : State) (k : Int) (h : SzState m) : SzState (markState m k) := by
  simp only [SzState, endState, markState, SzMemory, endMemory, markMemory, mkWordS_length, mkBoolS_length] at h ⊢; omega
theorem endState_le (m : State) (k : Int) (h : SzState m) : k ≤ endState m k ∧ endState m k ≤ k + 1099511627776 := by
  simp only [SzState, endState, markState, SzMemory, endMemory, markMemory] at h ⊢; omega
theorem mark_markState (m : State) (k : Int) : markState (markState m k) k = markState m k := by
  simp [SzState, endState, markState, SzMemory, endMemory, markMemory, mkWordS_length, mkBoolS_length]
theorem end_markState (m : State) (k : Int) : endState (markState m k) k = endState m k := by
  simp [SzState, endState, markState, SzMemory, endMemory, markMemory, mkWordS_length, mkBoolS_length]
theorem etaState (m : State) : (⟨m.regs, m.pc, m.mem, m.trap⟩ : State) = m := rfl

def endTwo (m : Two) (k : Int) : Int := endSide m.b (endSide m.a (endMemory m.mem (k)))
def markTwo (m : Two) (k : Int) : Two := { m with mem := markMemory m.mem (k), a := markSide m.a (endMemory m.mem (k)), b := markSide m.b (endSide m.a (endMemory m.mem (k))) }
def SzTwo (m : Two) : Prop := SzMemory m.mem ∧ SzSide m.a ∧ SzSide m.b
theorem sz_markTwo (m : Two) (k : Int) (h : SzTwo m) : SzTwo (markTwo m k) := by
  simp only [SzTwo, endTwo, markTwo, SzMemory, endMemory, markMemory, SzSide, endSide, markSide, mkWordS_length, mkBoolS_length] at h ⊢; omega
theorem endTwo_le (m : Two) (k : Int) (h : SzTwo m) : k ≤ endTwo m k ∧ endTwo m k ≤ k + 1099511627776 := by
  simp only [SzTwo, endTwo, markTwo, SzMemory, endMemory, markMemory, SzSide, endSide, markSide] at h ⊢; omega
theorem mark_markTwo (m : Two) (k : Int) : markTwo (markTwo m k) k = markTwo m k := by
  simp [SzTwo, endTwo, markTwo, SzMemory, endMemory, markMemory, SzSide, endSide, markSide, mkWordS_length, mkBoolS_length]
theorem end_markTwo (m : Two) (k : Int) : endTwo (markTwo m k) k = endTwo m k := by
  simp [SzTwo, endTwo, markTwo, SzMemory, endMemory, markMemory, SzSide, endSide, markSide, mkWordS_length, mkBoolS_length]
theorem etaTwo (m : Two) : (⟨m.mem, m.a, m.b⟩ : Two) = m := rfl

def pf_laws_markTwo : PF := ⟨[.t 4], .seq (.reg [.s (.box 2 (.t 0)), .s (.mv 4 (.k (.v (.c (.int .i64 0)))))]) (.seq (.reg [.s (.fa 5 (.t 2) 0), .s (.load 6 true 2 (.t 5)), .s (.mv 7 (.t 1)), .s (.call (some 8) 56 [(.t 6), (.t 7)]), .s (.mv 1 (.t 8))]) (.seq (.reg [.s (.fa 9 (.t 2) 2), .s (.load 10 true 8 (.t 9)), .s (.mv 11 (.t 1)), .s (.call (some 12) 57 [(.t 10), (.t 11)]), .s (.mv 1 (.t 12))]) (.seq (.reg [.s (.fa 13 (.t 2) 10), .s (.load 14 true 8 (.t 13)), .s (.mv 15 (.t 1)), .s (.call (some 16) 57 [(.t 14), (.t 15)]), .s (.mv 1 (.t 16))]) (.seq (.reg [.s (.mv 17 (.t 1)), .s (.mv 4 (.t 17))]) (.ret)))))⟩
def c_laws_markTwo : Fun := ⟨21, [true, false], fun ts K => as2 ts fun t0 t1 => arG pTwoO t0 fun m => arC (pI .i64) t1 fun k => chk (0 ≤ k ∧ k ≤ 281474976710656 ∧ SzTwo m) (K (tN (endTwo m k)) ([tG ((markTwo m k).tc true [])]))⟩
theorem run_laws_markTwo (m : Two) (k : Int) (hpre : 0 ≤ k ∧ k ≤ 281474976710656 ∧ SzTwo m) : runK [c_laws_markMemory, c_laws_markSide] (0) [true, false] pf_laws_markTwo [tG (m.tc true []), tI .i64 k] fun r o => r = tN (endTwo m k) ∧ o = [tG ((markTwo m k).tc true [])] := by
  conv => whnf
  repeat' (refine chk_c ?_ ?_ <;> conv => whnf)
  all_goals first
    | (refine ⟨?_⟩; (try dsimp only); simp only [SzTwo, endTwo, markTwo, SzMemory, endMemory, markMemory, SzSide, endSide, markSide] at *; omega)
    | (refine ⟨?_⟩; (try dsimp only); simp only [SzTwo, endTwo, markTwo, SzMemory, endMemory, markMemory, SzSide, endSide, markSide, mkWordS_length, mkBoolS_length] at *; omega)
    | (refine ⟨?_⟩; (try dsimp only); simp [SzTwo, endTwo, markTwo, SzMemory, endMemory, markMemory, SzSide, endSide, markSide, mkWordS_length, mkBoolS_length]; done)
    | exact ⟨rfl, rfl⟩
theorem ok_laws_markTwo : FunOk Tryz.prog c_laws_markTwo := funOk (E := [c_laws_markMemory, c_laws_markSide]) (envOk_cons ok_laws_markMemory (envOk_cons ok_laws_markSide (envOk_nil))) mixd Tryz.func21 (pf := pf_laws_markTwo) (by kernel_rfl) fun ts K h => by
  obtain ⟨t0, t1, e0, h⟩ := as2_out h
  subst e0
  obtain ⟨m, e1, hq⟩ := arG_out rd_twoO h
  clear h
  subst e1
  have h := hq
  clear hq
  obtain ⟨k, e1, hq⟩ := arC_out (rd_int .i64) h
  clear h
  subst e1
  have h := hq
  clear hq
  obtain ⟨hpre, h⟩ := chk_o h
  exact ⟨_, _, h, Nat.le_of_ble_eq_true (show Nat.ble 2 Tryz.f21.ntmps = true by kernel_rfl), _, run_laws_markTwo m k hpre⟩

def pf_laws_heldTwo : PF := ⟨[.t 4], .seq (.reg [.s (.box 2 (.t 0)), .s (.mv 4 (.k (.v (.c (.int .i64 0)))))]) (.seq (.reg [.s (.fa 5 (.t 2) 0), .s (.load 6 true 2 (.t 5)), .s (.mv 7 (.t 1)), .s (.call (some 8) 58 [(.t 6), (.t 7)]), .s (.mv 1 (.t 8))]) (.seq (.seq (.reg [.s (.mv 9 (.t 1)), .s (.bin 10 .lss (.t 9) (.k (.v (.c (.int .i64 0)))))]) (.cond (.t 10) (.seq (.reg [.s (.mv 4 (.k (.v (.c (.int .i64 (-1))))))]) (.ret)) (.skip))) (.seq (.reg [.s (.fa 11 (.t 2) 2), .s (.load 12 true 8 (.t 11)), .s (.mv 13 (.t 1)), .s (.call (some 14) 59 [(.t 12), (.t 13)]), .s (.mv 1 (.t 14))]) (.seq (.seq (.reg [.s (.mv 15 (.t 1)), .s (.bin 16 .lss (.t 15) (.k (.v (.c (.int .i64 0)))))]) (.cond (.t 16) (.seq (.reg [.s (.mv 4 (.k (.v (.c (.int .i64 (-1))))))]) (.ret)) (.skip))) (.seq (.reg [.s (.fa 17 (.t 2) 10), .s (.load 18 true 8 (.t 17)), .s (.mv 19 (.t 1)), .s (.call (some 20) 59 [(.t 18), (.t 19)]), .s (.mv 1 (.t 20))]) (.seq (.seq (.reg [.s (.mv 21 (.t 1)), .s (.bin 22 .lss (.t 21) (.k (.v (.c (.int .i64 0)))))]) (.cond (.t 22) (.seq (.reg [.s (.mv 4 (.k (.v (.c (.int .i64 (-1))))))]) (.ret)) (.skip))) (.seq (.reg [.s (.mv 23 (.t 1)), .s (.mv 4 (.t 23))]) (.ret))))))))⟩
def c_laws_heldTwo : Fun := ⟨22, [], fun ts K => as2 ts fun t0 t1 => arG pTwoT t0 fun m => arC (pI .i64) t1 fun k => chk (0 ≤ k ∧ k ≤ 281474976710656 ∧ SzTwo m) (K (tN (hres (m = markTwo m k) (endTwo m k))) [])⟩
theorem run_laws_heldTwo (m : Two) (k : Int) (hpre : 0 ≤ k ∧ k ≤ 281474976710656 ∧ SzTwo m) : runK [c_laws_heldMemory, c_laws_heldSide] (0) [] pf_laws_heldTwo [tG (m.tc false []), tI .i64 k] fun r o => r = tN (hres (m = markTwo m k) (endTwo m k)) ∧ o = [] := by
  have hsz := hpre.2.2
  conv => whnf
  refine chk_i (by (try dsimp only); simp only [SzTwo, endTwo, markTwo, SzMemory, endMemory, markMemory, SzSide, endSide, markSide] at *; omega) ?_
  conv => whnf
  refine sel_i (fun h => ?_) (fun h => ?_)
  · have hn := hres_t (by (try dsimp only); simp only [SzTwo, endTwo, markTwo, SzMemory, endMemory, markMemory, SzSide, endSide, markSide] at *; omega) h
    conv => whnf
    refine ⟨?_, rfl⟩
    rw [hres_no (fun e => hn (congrArg Two.mem e))]
  obtain ⟨p0, e0⟩ := hres_f h
  conv => whnf
  simp only [e0]
  refine chk_i (by (try dsimp only); simp only [SzTwo, endTwo, markTwo, SzMemory, endMemory, markMemory, SzSide, endSide, markSide] at *; omega) ?_
  conv => whnf
  refine sel_i (fun h => ?_) (fun h => ?_)
  · have hn := hres_t (by (try dsimp only); simp only [SzTwo, endTwo, markTwo, SzMemory, endMemory, markMemory, SzSide, endSide, markSide] at *; omega) h
    conv => whnf
    refine ⟨?_, rfl⟩
    rw [hres_no (fun e => hn (congrArg Two.a e))]
  obtain ⟨p1, e1⟩ := hres_f h
  conv => whnf
  simp only [e1]
  refine chk_i (by (try dsimp only); simp only [SzTwo, endTwo, markTwo, SzMemory, endMemory, markMemory, SzSide, endSide, markSide] at *; omega) ?_
  conv => whnf
  refine sel_i (fun h => ?_) (fun h => ?_)
  · have hn := hres_t (by (try dsimp only); simp only [SzTwo, endTwo, markTwo, SzMemory, endMemory, markMemory, SzSide, endSide, markSide] at *; omega) h
    conv => whnf
    refine ⟨?_, rfl⟩
    rw [hres_no (fun e => hn (congrArg Two.b e))]
  obtain ⟨p2, e2⟩ := hres_f h
  conv => whnf
  refine ⟨?_, rfl⟩
  rw [hres_yes (show m = markTwo m k from ?_)]
  · exact congrArg (fun x => tN x) e2
  · obtain ⟨m0, m1, m2⟩ := m
    simp only [markTwo, Two.mk.injEq, eq_self, and_true, true_and]
    exact ⟨p0, p1, p2⟩
theorem ok_laws_heldTwo : FunOk Tryz.prog c_laws_heldTwo := funOk (E := [c_laws_heldMemory, c_laws_heldSide]) (envOk_cons ok_laws_heldMemory (envOk_cons ok_laws_heldSide (envOk_nil))) mixd Tryz.func22 (pf := pf_laws_heldTwo) (by kernel_rfl) fun ts K h => by
  obtain ⟨t0, t1, e0, h⟩ := as2_out h
  subst e0
  obtain ⟨m, e1, hq⟩ := arG_out rd_two h
  clear h
  subst e1
  have h := hq
  clear hq
  obtain ⟨k, e1, hq⟩ := arC_out (rd_int .i64) h
  clear h
  subst e1
  have h := hq
  clear hq
  obtain ⟨hpre, h⟩ := chk_o h
  exact ⟨_, _, h, Nat.le_of_ble_eq_true (show Nat.ble 2 Tryz.f22.ntmps = true by kernel_rfl), _, run_laws_heldTwo m k hpre⟩

theorem LTwo.mono {t : Two} {n m : Nat} (h : LTwo t n) (k : n ≤ m) : LTwo t m := ⟨⟨Nat.le_trans h.1.1 k, Nat.le_trans h.1.2 k⟩, Nat.le_trans h.2.1 k, Nat.le_trans h.2.2 k⟩
theorem lTwo_of {t : Two} (h : WTwo t) : LTwo t 9223372036854775807 := ⟨⟨h.1.1.2, h.1.2.2⟩, h.2.1.1.2, h.2.2.1.2⟩
theorem etaMState (m : State) (k : Int) : (⟨(markState m k).regs, m.pc, (markState m k).mem, m.trap⟩ : State) = markState m k := rfl

def boundsOk (b t : Int) : Bool := decide (0 ≤ b) && decide (b ≤ t) && decide (t ≤ 4096)

def pf_impl_BoundsOk : PF := ⟨[.t 4], .seq (.reg [.s (.mv 4 (.k (.v (.c .ff))))]) (.seq (.reg [.s (.mv 5 (.t 0)), .s (.mv 6 (.t 1)), .s (.call (some 7) 52 [(.t 5), (.k (.v (.c (.int .i64 0)))), (.t 6)]), .s (.mv 8 (.t 7)), .g 8 true (some 9) (.mv 9 (.t 1)), .g 8 true (some 10) (.bin 10 .leq (.t 9) (.k (.v (.c (.int .i64 4096))))), .s (.pick 11 (.t 8) (.t 10) (.k (.v (.c .ff)))), .s (.mv 4 (.t 11))]) (.ret))⟩
def c_impl_BoundsOk : Fun := ⟨140, [], fun ts K => as2 ts fun t0 t1 => arC (pI .i64) t0 fun b => arC (pI .i64) t1 fun t => K (tB (boundsOk b t)) []⟩
theorem run_impl_BoundsOk (b : Int) (t : Int) : runK [c_impl_in] (0) [] pf_impl_BoundsOk [tI .i64 b, tI .i64 t] fun r o => r = tB (boundsOk b t) ∧ o = [] := by
  conv => whnf
  refine sel_i (fun h => ?_) (fun h => ?_) <;> conv => whnf
  all_goals (refine ⟨?_, rfl⟩; simp [inR] at h; simp [boundsOk] <;> omega)
theorem ok_impl_BoundsOk : FunOk Tryz.prog c_impl_BoundsOk := funOk (E := [c_impl_in]) (envOk_cons ok_impl_in (envOk_nil)) mixd Tryz.func140 (pf := pf_impl_BoundsOk) (by kernel_rfl) fun ts K h => by
  obtain ⟨t0, t1, e0, h⟩ := as2_out h
  subst e0
  obtain ⟨b, e1, hq⟩ := arC_out (rd_int .i64) h
  clear h
  subst e1
  have h := hq
  clear hq
  obtain ⟨t, e1, hq⟩ := arC_out (rd_int .i64) h
  clear h
  subst e1
  have h := hq
  clear hq
  exact ⟨_, _, h, Nat.le_of_ble_eq_true (show Nat.ble 2 Tryz.f140.ntmps = true by kernel_rfl), _, run_impl_BoundsOk b t⟩

def pf_spec_BoundsOk : PF := ⟨[.t 4], .seq (.reg [.s (.mv 4 (.k (.v (.c .ff))))]) (.seq (.reg [.s (.mv 5 (.t 0)), .s (.call (some 6) 47 [(.t 5), (.k (.v (.c (.int .i64 0)))), (.k (.v (.c (.int .i64 4096))))]), .s (.mv 7 (.t 6)), .g 7 true (some 8) (.mv 8 (.t 1)), .g 7 true (some 9) (.call (some 9) 47 [(.t 8), (.k (.v (.c (.int .i64 0)))), (.k (.v (.c (.int .i64 4096))))]), .s (.pick 10 (.t 7) (.t 9) (.k (.v (.c .ff)))), .s (.mv 11 (.t 10)), .g 11 true (some 12) (.mv 12 (.t 0)), .g 11 true (some 13) (.mv 13 (.t 1)), .g 11 true (some 14) (.bin 14 .leq (.t 12) (.t 13)), .s (.pick 15 (.t 11) (.t 14) (.k (.v (.c .ff)))), .s (.mv 4 (.t 15))]) (.ret))⟩
def c_spec_BoundsOk : Fun := ⟨136, [], fun ts K => as2 ts fun t0 t1 => arC (pI .i64) t0 fun b => arC (pI .i64) t1 fun t => K (tB (boundsOk b t)) []⟩
theorem run_spec_BoundsOk (b : Int) (t : Int) : runK [c_spec_l1In] (0) [] pf_spec_BoundsOk [tI .i64 b, tI .i64 t] fun r o => r = tB (boundsOk b t) ∧ o = [] := by
  conv => whnf
  repeat' (refine sel_i (fun h => ?_) (fun h => ?_) <;> conv => whnf)
  all_goals (refine ⟨?_, rfl⟩; simp_all [inR, boundsOk] <;> omega)
theorem ok_spec_BoundsOk : FunOk Tryz.prog c_spec_BoundsOk := funOk (E := [c_spec_l1In]) (envOk_cons ok_spec_l1In (envOk_nil)) mixd Tryz.func136 (pf := pf_spec_BoundsOk) (by kernel_rfl) fun ts K h => by
  obtain ⟨t0, t1, e0, h⟩ := as2_out h
  subst e0
  obtain ⟨b, e1, hq⟩ := arC_out (rd_int .i64) h
  clear h
  subst e1
  have h := hq
  clear hq
  obtain ⟨t, e1, hq⟩ := arC_out (rd_int .i64) h
  clear h
  subst e1
  have h := hq
  clear hq
  exact ⟨_, _, h, Nat.le_of_ble_eq_true (show Nat.ble 2 Tryz.f136.ntmps = true by kernel_rfl), _, run_spec_BoundsOk b t⟩

def packB (b : Int) (e : Nat) : Int := b / 2 ^ e
def packL (b t : Int) (e : Nat) : Int := (t - b / 2 ^ e * 2 ^ e + 2 ^ e - 1) / 2 ^ e
theorem e_cases {e : Nat} (he : e ≤ 6) : e = 0 ∨ e = 1 ∨ e = 2 ∨ e = 3 ∨ e = 4 ∨ e = 5 ∨ e = 6 := by omega
theorem e_min {e : Nat} (he : e ≤ 6) : min (e : Int).toNat IntKind.i64.bits = e := by rcases e_cases he with rfl | rfl | rfl | rfl | rfl | rfl | rfl <;> decide
theorem p_pos (e : Nat) : (0 : Int) ≤ 2 ^ e := Int.le_of_lt (Int.pow_pos (by decide))
theorem shr_b {b : Int} {e : Nat} (he : e ≤ 6) : b.fdiv (2 ^ min (e : Int).toNat IntKind.i64.bits) = packB b e := by
  rw [e_min he, Int.fdiv_eq_ediv_of_nonneg _ (p_pos e)]; rfl
theorem shr_l {b t : Int} {e : Nat} (he : e ≤ 6) (h : 0 ≤ b) (h1 : b ≤ t) (h2 : t ≤ 4096) :
    (IntKind.i64.wrap (IntKind.i64.wrap (IntKind.i64.wrap (t - IntKind.i64.wrap (packB b e * 2 ^ min (e : Int).toNat IntKind.i64.bits)) + IntKind.i64.wrap (1 * 2 ^ min (e : Int).toNat IntKind.i64.bits)) - 1)).fdiv (2 ^ min (e : Int).toNat IntKind.i64.bits) = packL b t e := by
  rw [e_min he, Int.fdiv_eq_ediv_of_nonneg _ (p_pos e)]
  unfold packB packL
  rcases e_cases he with rfl | rfl | rfl | rfl | rfl | rfl | rfl <;> simp only [Int.reducePow, Int.pow_zero] <;>
    rw [wrap_id (n := _ * _) (by omega) (by omega), wrap_id (n := t - _) (by omega) (by omega), wrap_id (n := 1 * _) (by omega) (by omega), wrap_id (n := _ + _) (by omega) (by omega), wrap_id (by omega) (by omega)] <;> simp
theorem shr_m {b t : Int} {e : Nat} (he : e ≤ 6) (h : 0 ≤ b) (h1 : b ≤ t) (h2 : t ≤ 4096) :
    packB (IntKind.i64.wrap (IntKind.i64.wrap (IntKind.i64.wrap (t - IntKind.i64.wrap (packB b e * 2 ^ min (e : Int).toNat IntKind.i64.bits)) + IntKind.i64.wrap (1 * 2 ^ min (e : Int).toNat IntKind.i64.bits)) - 1)) e = packL b t e := by
  rw [← shr_l he h h1 h2, shr_b he]
def packOk (b t : Int) (e : Nat) : Bool := decide (packB b e ≤ 63) && decide (packL b t e ≤ 63)
def packGo (b t : Int) : Nat → Nat → Option Packed
  | 0, _ => none
  | n + 1, e => if packOk b t e then some ⟨e, packB b e, packL b t e⟩ else packGo b t n (e + 1)
def pack (b t : Int) : Option Packed := if boundsOk b t then packGo b t 7 0 else none
def packT (o : Option Packed) : Tree := .tup [.g ((o.getD ⟨0, 0, 0⟩).tc []), .c (.bool o.isSome)]
theorem pack_no {b t : Int} (h : boundsOk b t = false) : pack b t = none := by simp [pack, h]
theorem pack_yes {b t : Int} (h : boundsOk b t = true) : pack b t = packGo b t 7 0 := by simp [pack, h]
theorem packGo_t {b t : Int} {n e : Nat} (h : packOk b t e = true) : packGo b t (n + 1) e = some ⟨e, packB b e, packL b t e⟩ := by simp [packGo, h]
theorem packGo_f {b t : Int} {n e : Nat} (h : packOk b t e = false) : packGo b t (n + 1) e = packGo b t n (e + 1) := by simp [packGo, h]
theorem bounds_n {b t : Int} (h : boundsOk b t = true) : 0 ≤ b ∧ b ≤ t ∧ t ≤ 4096 := by simp [boundsOk] at h; omega

def lb_spec_Pack_0 : PC := .seq (.seq (.reg [.s (.mv 14 (.t 6)), .s (.bin 15 .leq (.t 14) (.k (.v (.c (.int .i64 6)))))]) (.cond (.t 15) (.skip) (.exit 0))) (.seq (.blk 1 (.seq (.reg [.s (.mv 18 (.t 0)), .s (.mv 19 (.t 6)), .s (.bin 20 .shr (.t 18) (.t 19)), .s (.mv 7 (.t 20))]) (.seq (.rgd [.s (.mv 21 (.t 1)), .s (.mv 22 (.t 7)), .s (.mv 23 (.t 6)), .s (.bin 24 .shl (.t 22) (.t 23)), .s (.bin 25 .sub (.t 21) (.t 24)), .s (.mv 26 (.t 6)), .s (.bin 27 .shl (.k (.v (.c (.int .i64 1)))) (.t 26)), .s (.bin 28 .add (.t 25) (.t 27)), .s (.bin 29 .sub (.t 28) (.k (.v (.c (.int .i64 1))))), .s (.mv 30 (.t 6)), .s (.bin 31 .shr (.t 29) (.t 30)), .s (.mv 8 (.t 31))] (.tk 0 (.tk 1 (.tk 2 (.tk 3 (.tk 4 (.tk 5 (.tk 6 (.tk 7 (.tk 8 (.tk 9 (.tk 10 (.tk 11 (.done none)))))))))))))) (.seq (.reg [.s (.mv 32 (.t 7)), .s (.bin 33 .leq (.t 32) (.k (.v (.c (.int .i64 63))))), .s (.mv 34 (.t 33)), .g 34 true (some 35) (.mv 35 (.t 8)), .g 34 true (some 36) (.bin 36 .leq (.t 35) (.k (.v (.c (.int .i64 63))))), .s (.pick 37 (.t 34) (.t 36) (.k (.v (.c .ff))))]) (.cond (.t 37) (.seq (.reg [.s (.mv 38 (.t 6)), .s (.mv 39 (.t 7)), .s (.mv 40 (.t 8)), .s (.build 41 [.int .i64 0, .int .i64 0, .int .i64 0] [(0, 1, (.t 38)), (1, 1, (.t 39)), (2, 1, (.t 40))]), .s (.store 3 (.t 4) (.t 41)), .s (.mv 5 (.k (.v (.c .tt))))]) (.ret)) (.skip)))))) (.reg [.s (.mv 16 (.t 6)), .s (.bin 17 .add (.t 16) (.k (.v (.c (.int .i64 1))))), .s (.mv 6 (.t 17))]))
def pf_spec_Pack : PF := ⟨[.c 4 true 3, .t 5], .seq (.reg [.s (.alloc 4 [.int .i64 0, .int .i64 0, .int .i64 0]), .s (.mv 5 (.k (.v (.c .ff))))]) (.seq (.seq (.reg [.s (.mv 9 (.t 0)), .s (.mv 10 (.t 1)), .s (.call (some 11) 136 [(.t 9), (.t 10)]), .s (.bnot 12 (.t 11))]) (.cond (.t 12) (.seq (.reg [.s (.build 13 [.int .i64 0, .int .i64 0, .int .i64 0] []), .s (.store 3 (.t 4) (.t 13)), .s (.mv 5 (.k (.v (.c .ff))))]) (.ret)) (.skip))) (.seq (.seq (.reg [.s (.mv 6 (.k (.v (.c (.int .i64 0)))))]) (.blk 0 (.loop [0, 1, 4, 6] lb_spec_Pack_0))) (.seq (.reg [.s (.build 42 [.int .i64 0, .int .i64 0, .int .i64 0] []), .s (.store 3 (.t 4) (.t 42)), .s (.mv 5 (.k (.v (.c .ff))))]) (.ret))))⟩
def c_spec_Pack : Fun := ⟨143, [], fun ts K => as2 ts fun t0 t1 => arC (pI .i64) t0 fun b => arC (pI .i64) t1 fun t => K (packT (pack b t)) []⟩
theorem run_spec_Pack (b : Int) (t : Int) : runK [c_spec_BoundsOk] (8) [] pf_spec_Pack [tI .i64 b, tI .i64 t] fun r o => r = packT (pack b t) ∧ o = [] := by
  conv => whnf
  refine sel_i (fun h => ?_) (fun h => ?_)
  · rw [pack_no (by simpa using h)]
    conv => whnf
    exact ⟨rfl, rfl⟩
  have hb : boundsOk b t = true := by simpa using h
  obtain ⟨b1, b2, b3⟩ := bounds_n hb
  rw [pack_yes hb]
  conv => whnf
  refine loop (α := Nat) (fun e => ⟨[(0, .v (.c (.int .i64 b))), (1, .v (.c (.int .i64 t))), (4, .v (.c (.ptr 0 0))), (6, .v (.c (.int .i64 (e : Int))))], [(0, some (.box true [.int .i64 0, .int .i64 0, .int .i64 0]))], nums.tail, [], false, []⟩)
      (fun e => e ≤ 7 ∧ packGo b t 7 0 = packGo b t (7 - e) e) (fun e => 7 - e) (fun e R hI hR => ?_) 0 _ ⟨by omega, rfl⟩ (by omega)
  obtain ⟨hI, hG⟩ := hI
  conv => whnf
  refine sel_i (fun h2 => ?_) (fun h2 => ?_)
  · have he : e ≤ 6 := by simp at h2; omega
    rw [show 7 - e = (6 - e) + 1 by omega] at hG
    conv => whnf
    repeat' (refine chk_c ?_ ?_ <;> conv => whnf)
    any_goals (refine ⟨?_⟩; omega)
    simp only [shr_b he, shr_m he b1 b2 b3]
    refine sel_i (fun h3 => ?_) (fun h3 => ?_)
    · conv => whnf
      refine sel_i (fun h4 => ?_) (fun h4 => ?_)
      · rw [hG, packGo_t (by simp only [packOk, h3, h4, Bool.and_self])]
        conv => whnf
        exact ⟨rfl, rfl⟩
      · conv => whnf
        rw [wrap_id (by omega) (by omega)]
        exact hR (e + 1) ⟨by omega, by rw [hG, packGo_f (by simp only [packOk, h3, h4, Bool.and_false])]; rw [show 7 - (e + 1) = 6 - e by omega]⟩ (by omega)
    · conv => whnf
      rw [wrap_id (by omega) (by omega)]
      exact hR (e + 1) ⟨by omega, by rw [hG, packGo_f (by simp only [packOk, h3, Bool.false_and])]; rw [show 7 - (e + 1) = 6 - e by omega]⟩ (by omega)
  · have he : e = 7 := by simp at h2; omega
    subst he
    rw [hG]
    conv => whnf
    exact ⟨rfl, rfl⟩
theorem ok_spec_Pack : FunOk Tryz.prog c_spec_Pack := funOk (E := [c_spec_BoundsOk]) (envOk_cons ok_spec_BoundsOk (envOk_nil)) mixd Tryz.func143 (pf := pf_spec_Pack) (by kernel_rfl) fun ts K h => by
  obtain ⟨t0, t1, e0, h⟩ := as2_out h
  subst e0
  obtain ⟨b, e1, hq⟩ := arC_out (rd_int .i64) h
  clear h
  subst e1
  have h := hq
  clear hq
  obtain ⟨t, e1, hq⟩ := arC_out (rd_int .i64) h
  clear h
  subst e1
  have h := hq
  clear hq
  exact ⟨_, _, h, Nat.le_of_ble_eq_true (show Nat.ble 2 Tryz.f143.ntmps = true by kernel_rfl), _, run_spec_Pack b t⟩

theorem p_wrap {e : Nat} (he : e ≤ 6) : IntKind.i64.wrap (1 * 2 ^ min (e : Int).toNat IntKind.i64.bits) = 2 ^ e := by
  rw [e_min he]
  rcases e_cases he with rfl | rfl | rfl | rfl | rfl | rfl | rfl <;> decide
theorem quo_b {b : Int} {e : Nat} (he : e ≤ 6) (h : 0 ≤ b) (h1 : b ≤ 4096) : IntKind.i64.wrap (b.tdiv (2 ^ e)) = packB b e := by
  rw [Int.tdiv_eq_ediv_of_nonneg h]
  unfold packB
  rcases e_cases he with rfl | rfl | rfl | rfl | rfl | rfl | rfl <;> simp only [Int.reducePow, Int.pow_zero] <;> exact wrap_id (by omega) (by omega)
theorem quo_l {b t : Int} {e : Nat} (he : e ≤ 6) (h : 0 ≤ b) (h1 : b ≤ t) (h2 : t ≤ 4096) :
    IntKind.i64.wrap ((IntKind.i64.wrap (IntKind.i64.wrap (IntKind.i64.wrap (t - IntKind.i64.wrap (packB b e * 2 ^ e)) + 2 ^ e) - 1)).tdiv (2 ^ e)) = packL b t e := by
  unfold packB packL
  rcases e_cases he with rfl | rfl | rfl | rfl | rfl | rfl | rfl <;> simp only [Int.reducePow, Int.pow_zero] <;>
    rw [wrap_id (n := _ * _) (by omega) (by omega), wrap_id (n := t - _) (by omega) (by omega), wrap_id (n := _ + _) (by omega) (by omega), wrap_id (n := _ - 1) (by omega) (by omega), Int.tdiv_eq_ediv_of_nonneg (by omega)] <;> exact wrap_id (by omega) (by omega)

def lb_impl_Pack_0 : PC := .seq (.reg [.s (.bin 16 .lss (.t 15) (.k (.v (.c (.int .i64 7)))))]) (.seq (.cond (.t 16) (.skip) (.exit 0)) (.seq (.blk 1 (.seq (.reg [.s (.mv 17 (.t 15)), .s (.mv 6 (.t 17))]) (.seq (.reg [.s (.mv 18 (.t 6)), .s (.bin 19 .shl (.k (.v (.c (.int .i64 1)))) (.t 18)), .s (.mv 7 (.t 19))]) (.seq (.reg [.s (.mv 20 (.t 0)), .s (.mv 21 (.t 7)), .s (.bin 22 .quo (.t 20) (.t 21)), .s (.mv 8 (.t 22))]) (.seq (.reg [.s (.mv 23 (.t 1)), .s (.mv 24 (.t 8)), .s (.mv 25 (.t 7)), .s (.bin 26 .mul (.t 24) (.t 25)), .s (.bin 27 .sub (.t 23) (.t 26)), .s (.mv 28 (.t 7)), .s (.bin 29 .add (.t 27) (.t 28)), .s (.bin 30 .sub (.t 29) (.k (.v (.c (.int .i64 1))))), .s (.mv 31 (.t 7)), .s (.bin 32 .quo (.t 30) (.t 31)), .s (.mv 9 (.t 32))]) (.seq (.reg [.s (.mv 33 (.t 8)), .s (.bin 34 .leq (.t 33) (.k (.v (.c (.int .i64 63))))), .s (.mv 35 (.t 34)), .g 35 true (some 36) (.mv 36 (.t 9)), .g 35 true (some 37) (.bin 37 .leq (.t 36) (.k (.v (.c (.int .i64 63))))), .s (.pick 38 (.t 35) (.t 37) (.k (.v (.c .ff))))]) (.cond (.t 38) (.seq (.reg [.s (.mv 39 (.t 6)), .s (.mv 40 (.t 8)), .s (.mv 41 (.t 9)), .s (.build 42 [.int .i64 0, .int .i64 0, .int .i64 0] [(0, 1, (.t 39)), (1, 1, (.t 40)), (2, 1, (.t 41))]), .s (.store 3 (.t 4) (.t 42)), .s (.mv 5 (.k (.v (.c .tt))))]) (.ret)) (.skip)))))))) (.reg [.s (.bin 43 .add (.t 15) (.k (.v (.c (.int .i64 1))))), .s (.mv 15 (.t 43))])))
def pf_impl_Pack : PF := ⟨[.c 4 true 3, .t 5], .seq (.reg [.s (.alloc 4 [.int .i64 0, .int .i64 0, .int .i64 0]), .s (.mv 5 (.k (.v (.c .ff))))]) (.seq (.seq (.reg [.s (.mv 10 (.t 0)), .s (.mv 11 (.t 1)), .s (.call (some 12) 140 [(.t 10), (.t 11)]), .s (.bnot 13 (.t 12))]) (.cond (.t 13) (.seq (.reg [.s (.build 14 [.int .i64 0, .int .i64 0, .int .i64 0] []), .s (.store 3 (.t 4) (.t 14)), .s (.mv 5 (.k (.v (.c .ff))))]) (.ret)) (.skip))) (.seq (.seq (.reg [.s (.mv 15 (.k (.v (.c (.int .i64 0)))))]) (.blk 0 (.loop [0, 1, 4, 15] lb_impl_Pack_0))) (.seq (.reg [.s (.build 44 [.int .i64 0, .int .i64 0, .int .i64 0] []), .s (.store 3 (.t 4) (.t 44)), .s (.mv 5 (.k (.v (.c .ff))))]) (.ret))))⟩
def c_impl_Pack : Fun := ⟨145, [], fun ts K => as2 ts fun t0 t1 => arC (pI .i64) t0 fun b => arC (pI .i64) t1 fun t => K (packT (pack b t)) []⟩
theorem run_impl_Pack (b : Int) (t : Int) : runK [c_impl_BoundsOk] (8) [] pf_impl_Pack [tI .i64 b, tI .i64 t] fun r o => r = packT (pack b t) ∧ o = [] := by
  conv => whnf
  refine sel_i (fun h => ?_) (fun h => ?_)
  · rw [pack_no (by simpa using h)]
    conv => whnf
    exact ⟨rfl, rfl⟩
  have hb : boundsOk b t = true := by simpa using h
  obtain ⟨b1, b2, b3⟩ := bounds_n hb
  rw [pack_yes hb]
  conv => whnf
  refine loop (α := Nat) (fun e => ⟨[(0, .v (.c (.int .i64 b))), (1, .v (.c (.int .i64 t))), (4, .v (.c (.ptr 0 0))), (15, .v (.c (.int .i64 (e : Int))))], [(0, some (.box true [.int .i64 0, .int .i64 0, .int .i64 0]))], nums.tail, [], false, []⟩)
      (fun e => e ≤ 7 ∧ packGo b t 7 0 = packGo b t (7 - e) e) (fun e => 7 - e) (fun e R hI hR => ?_) 0 _ ⟨by omega, rfl⟩ (by omega)
  obtain ⟨hI, hG⟩ := hI
  conv => whnf
  refine sel_i (fun h2 => ?_) (fun h2 => ?_)
  · have he : e ≤ 6 := by simp at h2; omega
    rw [show 7 - e = (6 - e) + 1 by omega] at hG
    conv => whnf
    repeat' (refine chk_c ?_ ?_ <;> conv => whnf)
    any_goals (refine ⟨?_⟩; first | omega | (rw [p_wrap he]; exact Int.ne_of_gt (Int.pow_pos (by decide))))
    simp only [p_wrap he, quo_b he b1 (Int.le_trans b2 b3), quo_l he b1 b2 b3]
    refine sel_i (fun h3 => ?_) (fun h3 => ?_)
    · conv => whnf
      refine sel_i (fun h4 => ?_) (fun h4 => ?_)
      · rw [hG, packGo_t (by simp only [packOk, h3, h4, Bool.and_self])]
        conv => whnf
        exact ⟨rfl, rfl⟩
      · conv => whnf
        rw [wrap_id (by omega) (by omega)]
        exact hR (e + 1) ⟨by omega, by rw [hG, packGo_f (by simp only [packOk, h3, h4, Bool.and_false])]; rw [show 7 - (e + 1) = 6 - e by omega]⟩ (by omega)
    · conv => whnf
      rw [wrap_id (by omega) (by omega)]
      exact hR (e + 1) ⟨by omega, by rw [hG, packGo_f (by simp only [packOk, h3, Bool.false_and])]; rw [show 7 - (e + 1) = 6 - e by omega]⟩ (by omega)
  · have he : e = 7 := by simp at h2; omega
    subst he
    rw [hG]
    conv => whnf
    exact ⟨rfl, rfl⟩
theorem ok_impl_Pack : FunOk Tryz.prog c_impl_Pack := funOk (E := [c_impl_BoundsOk]) (envOk_cons ok_impl_BoundsOk (envOk_nil)) mixd Tryz.func145 (pf := pf_impl_Pack) (by kernel_rfl) fun ts K h => by
  obtain ⟨t0, t1, e0, h⟩ := as2_out h
  subst e0
  obtain ⟨b, e1, hq⟩ := arC_out (rd_int .i64) h
  clear h
  subst e1
  have h := hq
  clear hq
  obtain ⟨t, e1, hq⟩ := arC_out (rd_int .i64) h
  clear h
  subst e1
  have h := hq
  clear hq
  exact ⟨_, _, h, Nat.le_of_ble_eq_true (show Nat.ble 2 Tryz.f145.ntmps = true by kernel_rfl), _, run_impl_Pack b t⟩

def pf_spec_l1Min : PF := ⟨[.t 4], .seq (.reg [.s (.mv 4 (.k (.v (.c (.int .i64 0)))))]) (.seq (.seq (.reg [.s (.mv 5 (.t 0)), .s (.mv 6 (.t 1)), .s (.bin 7 .lss (.t 5) (.t 6))]) (.cond (.t 7) (.seq (.reg [.s (.mv 8 (.t 0)), .s (.mv 4 (.t 8))]) (.ret)) (.skip))) (.seq (.reg [.s (.mv 9 (.t 1)), .s (.mv 4 (.t 9))]) (.ret)))⟩
def c_spec_l1Min : Fun := ⟨147, [], fun ts K => as2 ts fun t0 t1 => arC (pI .i64) t0 fun a => arC (pI .i64) t1 fun b => K (tN (min a b)) []⟩
theorem run_spec_l1Min (a : Int) (b : Int) : runK [] (0) [] pf_spec_l1Min [tI .i64 a, tI .i64 b] fun r o => r = tN (min a b) ∧ o = [] := by
  conv => whnf
  refine sel_i (fun h => ?_) (fun h => ?_) <;> conv => whnf
  all_goals (refine ⟨?_, rfl⟩; simp at h; congr 3; omega)
theorem ok_spec_l1Min : FunOk Tryz.prog c_spec_l1Min := funOk (E := []) (envOk_nil) mixd Tryz.func147 (pf := pf_spec_l1Min) (by kernel_rfl) fun ts K h => by
  obtain ⟨t0, t1, e0, h⟩ := as2_out h
  subst e0
  obtain ⟨a, e1, hq⟩ := arC_out (rd_int .i64) h
  clear h
  subst e1
  have h := hq
  clear hq
  obtain ⟨b, e1, hq⟩ := arC_out (rd_int .i64) h
  clear h
  subst e1
  have h := hq
  clear hq
  exact ⟨_, _, h, Nat.le_of_ble_eq_true (show Nat.ble 2 Tryz.f147.ntmps = true by kernel_rfl), _, run_spec_l1Min a b⟩

def unpackOk (p : Packed) : Bool := inR p.e 0 6 && inR p.b 0 63 && inR p.l 0 63
def unpack (p : Packed) : Int × Int × Bool := if unpackOk p then (p.b * 2 ^ p.e.toNat, min 4096 ((p.b + p.l) * 2 ^ p.e.toNat), true) else (0, 0, false)
def unpackT (x : Int × Int × Bool) : Tree := .tup [.c (.int .i64 x.1), .c (.int .i64 x.2.1), .c (.bool x.2.2)]
theorem unpack_no {p : Packed} (h : unpackOk p = false) : unpack p = (0, 0, false) := by simp [unpack, h]
theorem unpack_yes {p : Packed} (h : unpackOk p = true) : unpack p = (p.b * 2 ^ p.e.toNat, min 4096 ((p.b + p.l) * 2 ^ p.e.toNat), true) := by simp [unpack, h]

theorem unpack_sh {p : Packed} (h : unpackOk p = true) : IntKind.i64.wrap (p.b * 2 ^ min p.e.toNat IntKind.i64.bits) = p.b * 2 ^ p.e.toNat ∧ IntKind.i64.wrap (IntKind.i64.wrap (p.b + p.l) * 2 ^ min p.e.toNat IntKind.i64.bits) = (p.b + p.l) * 2 ^ p.e.toNat := by
  obtain ⟨pe, pb, pl⟩ := p
  simp [unpackOk, inR] at h
  obtain ⟨e, he⟩ : ∃ e : Nat, pe = e := ⟨pe.toNat, by omega⟩
  subst he
  dsimp only
  have he6 : e ≤ 6 := by omega
  rw [e_min he6, wrap_id (n := pb + pl) (by omega) (by omega)]
  rcases e_cases he6 with rfl | rfl | rfl | rfl | rfl | rfl | rfl <;> simp only [Int.reducePow, Int.pow_zero, Int.toNat_natCast] <;> exact ⟨wrap_id (by omega) (by omega), wrap_id (by omega) (by omega)⟩
def wide (b t : Int) : Int × Int := if boundsOk b t then (if (pack b t).isSome then ((unpack ((pack b t).getD ⟨0, 0, 0⟩)).1, (unpack ((pack b t).getD ⟨0, 0, 0⟩)).2.1) else (0, 4096)) else (0, 0)
theorem pack_isSome {b t : Int} (h : (pack b t).isSome = true) : boundsOk b t = true := by
  by_cases hb : boundsOk b t = true
  · exact hb
  · rw [pack_no (by simpa using hb)] at h; simp at h
def wideT (x : Int × Int) : Tree := .tup [.c (.int .i64 x.1), .c (.int .i64 x.2)]
def exact_ (b t : Int) : Bool := boundsOk b t && decide ((wide b t).1 = b) && decide ((wide b t).2 = t)
def keyOk (k : Key) : Bool := exact_ k.base k.top && inR k.perms 0 63 && inR k.sealed 0 7
def wordOk (w : Word) : Bool := inR w.n 0 65535 && (if w.is then keyOk w.key else decide (w.key = ⟨0, 0, 0, 0⟩))

def pf_spec_Unpack : PF := ⟨[.t 2, .t 3, .t 4], .seq (.reg [.s (.box 1 (.t 0)), .s (.mv 2 (.k (.v (.c (.int .i64 0))))), .s (.mv 3 (.k (.v (.c (.int .i64 0))))), .s (.mv 4 (.k (.v (.c .ff))))]) (.seq (.seq (.reg [.s (.fa 5 (.t 1) 0), .s (.load 6 false 1 (.t 5)), .s (.call (some 7) 47 [(.t 6), (.k (.v (.c (.int .i64 0)))), (.k (.v (.c (.int .i64 6))))]), .s (.bnot 8 (.t 7)), .s (.mv 9 (.t 8)), .g 9 false (some 10) (.fa 10 (.t 1) 1), .g 9 false (some 11) (.load 11 false 1 (.t 10)), .g 9 false (some 12) (.call (some 12) 47 [(.t 11), (.k (.v (.c (.int .i64 0)))), (.k (.v (.c (.int .i64 63))))]), .g 9 false (some 13) (.bnot 13 (.t 12)), .s (.pick 14 (.t 9) (.k (.v (.c .tt))) (.t 13)), .s (.mv 15 (.t 14)), .g 15 false (some 16) (.fa 16 (.t 1) 2), .g 15 false (some 17) (.load 17 false 1 (.t 16)), .g 15 false (some 18) (.call (some 18) 47 [(.t 17), (.k (.v (.c (.int .i64 0)))), (.k (.v (.c (.int .i64 63))))]), .g 15 false (some 19) (.bnot 19 (.t 18)), .s (.pick 20 (.t 15) (.k (.v (.c .tt))) (.t 19))]) (.cond (.t 20) (.seq (.reg [.s (.mv 2 (.k (.v (.c (.int .i64 0))))), .s (.mv 3 (.k (.v (.c (.int .i64 0))))), .s (.mv 4 (.k (.v (.c .ff))))]) (.ret)) (.skip))) (.seq (.rgd [.s (.fa 21 (.t 1) 1), .s (.load 22 false 1 (.t 21)), .s (.fa 23 (.t 1) 0), .s (.load 24 false 1 (.t 23)), .s (.bin 25 .shl (.t 22) (.t 24)), .s (.fa 26 (.t 1) 1), .s (.load 27 false 1 (.t 26)), .s (.fa 28 (.t 1) 2), .s (.load 29 false 1 (.t 28)), .s (.bin 30 .add (.t 27) (.t 29)), .s (.fa 31 (.t 1) 0), .s (.load 32 false 1 (.t 31)), .s (.bin 33 .shl (.t 30) (.t 32)), .s (.call (some 34) 147 [(.t 33), (.k (.v (.c (.int .i64 4096))))]), .s (.mv 2 (.t 25)), .s (.mv 3 (.t 34)), .s (.mv 4 (.k (.v (.c .tt))))] (.tk 0 (.tk 1 (.tk 2 (.tk 3 (.tk 4 (.tk 5 (.tk 6 (.tk 7 (.tk 8 (.tk 9 (.tk 10 (.tk 11 (.tk 12 (.one 13 false (.tk 14 (.tk 15 (.tk 16 (.done none))))))))))))))))))) (.ret)))⟩
def c_spec_Unpack : Fun := ⟨144, [], fun ts K => as1 ts fun t0 => arG pPackedT t0 fun p => K (unpackT (unpack p)) []⟩
theorem run_spec_Unpack (p : Packed) : runK [c_spec_l1In, c_spec_l1Min] (0) [] pf_spec_Unpack [tG (p.tc [])] fun r o => r = unpackT (unpack p) ∧ o = [] := by
  conv => whnf
  repeat' (first | (refine sel_i (fun h => ?_) (fun h => ?_) <;> conv => whnf) | (refine chk_c ?_ ?_ <;> conv => whnf) | (refine And.intro ?_ rfl) | (refine And.intro ?_ ?_ <;> conv => whnf))
  all_goals first
    | (rw [unpack_no (by simp_all [unpackOk])]; rfl)
    | (refine ⟨?_⟩; simp_all [inR]; done)
    | (have hk : unpackOk p = true := by simp_all [unpackOk]
       rw [(unpack_sh hk).1, (unpack_sh hk).2, unpack_yes hk]; rfl)
    | (have hk : unpackOk p = true := by simp_all [unpackOk]
       rw [(unpack_sh hk).1, (unpack_sh hk).2, unpack_yes hk, Int.min_comm]; rfl)
theorem ok_spec_Unpack : FunOk Tryz.prog c_spec_Unpack := funOk (E := [c_spec_l1In, c_spec_l1Min]) (envOk_cons ok_spec_l1In (envOk_cons ok_spec_l1Min (envOk_nil))) mixd Tryz.func144 (pf := pf_spec_Unpack) (by kernel_rfl) fun ts K h => by
  obtain ⟨t0, e0, h⟩ := as1_out h
  subst e0
  obtain ⟨p, e1, hq⟩ := arG_out rd_packed h
  clear h
  subst e1
  have h := hq
  clear hq
  exact ⟨_, _, h, Nat.le_of_ble_eq_true (show Nat.ble 1 Tryz.f144.ntmps = true by kernel_rfl), _, run_spec_Unpack p⟩

def pf_impl_Unpack : PF := ⟨[.t 2, .t 3, .t 4], .seq (.reg [.s (.box 1 (.t 0)), .s (.mv 2 (.k (.v (.c (.int .i64 0))))), .s (.mv 3 (.k (.v (.c (.int .i64 0))))), .s (.mv 4 (.k (.v (.c .ff))))]) (.seq (.seq (.reg [.s (.fa 5 (.t 1) 0), .s (.load 6 false 1 (.t 5)), .s (.call (some 7) 52 [(.t 6), (.k (.v (.c (.int .i64 0)))), (.k (.v (.c (.int .i64 6))))]), .s (.bnot 8 (.t 7)), .s (.mv 9 (.t 8)), .g 9 false (some 10) (.fa 10 (.t 1) 1), .g 9 false (some 11) (.load 11 false 1 (.t 10)), .g 9 false (some 12) (.call (some 12) 52 [(.t 11), (.k (.v (.c (.int .i64 0)))), (.k (.v (.c (.int .i64 63))))]), .g 9 false (some 13) (.bnot 13 (.t 12)), .s (.pick 14 (.t 9) (.k (.v (.c .tt))) (.t 13)), .s (.mv 15 (.t 14)), .g 15 false (some 16) (.fa 16 (.t 1) 2), .g 15 false (some 17) (.load 17 false 1 (.t 16)), .g 15 false (some 18) (.call (some 18) 52 [(.t 17), (.k (.v (.c (.int .i64 0)))), (.k (.v (.c (.int .i64 63))))]), .g 15 false (some 19) (.bnot 19 (.t 18)), .s (.pick 20 (.t 15) (.k (.v (.c .tt))) (.t 19))]) (.cond (.t 20) (.seq (.reg [.s (.mv 2 (.k (.v (.c (.int .i64 0))))), .s (.mv 3 (.k (.v (.c (.int .i64 0))))), .s (.mv 4 (.k (.v (.c .ff))))]) (.ret)) (.skip))) (.seq (.rgd [.s (.fa 21 (.t 1) 1), .s (.load 22 false 1 (.t 21)), .s (.fa 23 (.t 1) 0), .s (.load 24 false 1 (.t 23)), .s (.bin 25 .shl (.t 22) (.t 24)), .s (.fa 26 (.t 1) 1), .s (.load 27 false 1 (.t 26)), .s (.fa 28 (.t 1) 2), .s (.load 29 false 1 (.t 28)), .s (.bin 30 .add (.t 27) (.t 29)), .s (.fa 31 (.t 1) 0), .s (.load 32 false 1 (.t 31)), .s (.bin 33 .shl (.t 30) (.t 32)), .s (.mm 34 false (.k (.v (.c (.int .i64 4096)))) (.t 33)), .s (.mv 2 (.t 25)), .s (.mv 3 (.t 34)), .s (.mv 4 (.k (.v (.c .tt))))] (.tk 0 (.tk 1 (.tk 2 (.tk 3 (.tk 4 (.tk 5 (.tk 6 (.tk 7 (.tk 8 (.tk 9 (.tk 10 (.tk 11 (.tk 12 (.tk 13 (.tk 14 (.tk 15 (.tk 16 (.done none))))))))))))))))))) (.ret)))⟩
def c_impl_Unpack : Fun := ⟨146, [], fun ts K => as1 ts fun t0 => arG pPackedT t0 fun p => K (unpackT (unpack p)) []⟩
theorem run_impl_Unpack (p : Packed) : runK [c_impl_in] (0) [] pf_impl_Unpack [tG (p.tc [])] fun r o => r = unpackT (unpack p) ∧ o = [] := by
  conv => whnf
  repeat' (first | (refine sel_i (fun h => ?_) (fun h => ?_) <;> conv => whnf) | (refine chk_c ?_ ?_ <;> conv => whnf) | (refine And.intro ?_ rfl) | (refine And.intro ?_ ?_ <;> conv => whnf))
  all_goals first
    | (rw [unpack_no (by simp_all [unpackOk])]; rfl)
    | (refine ⟨?_⟩; simp_all [inR]; done)
    | (have hk : unpackOk p = true := by simp_all [unpackOk]
       rw [(unpack_sh hk).1, (unpack_sh hk).2, unpack_yes hk]; rfl)
    | (have hk : unpackOk p = true := by simp_all [unpackOk]
       rw [(unpack_sh hk).1, (unpack_sh hk).2, unpack_yes hk, Int.min_comm]; rfl)
theorem ok_impl_Unpack : FunOk Tryz.prog c_impl_Unpack := funOk (E := [c_impl_in]) (envOk_cons ok_impl_in (envOk_nil)) mixd Tryz.func146 (pf := pf_impl_Unpack) (by kernel_rfl) fun ts K h => by
  obtain ⟨t0, e0, h⟩ := as1_out h
  subst e0
  obtain ⟨p, e1, hq⟩ := arG_out rd_packed h
  clear h
  subst e1
  have h := hq
  clear hq
  exact ⟨_, _, h, Nat.le_of_ble_eq_true (show Nat.ble 1 Tryz.f146.ntmps = true by kernel_rfl), _, run_impl_Unpack p⟩

def pf_spec_Wide : PF := ⟨[.t 4, .t 5], .seq (.reg [.s (.mv 4 (.k (.v (.c (.int .i64 0))))), .s (.mv 5 (.k (.v (.c (.int .i64 0)))))]) (.seq (.reg [.s (.mv 12 (.t 0)), .s (.mv 13 (.t 1)), .s (.call (some 14) 143 [(.t 12), (.t 13)]), .s (.mv 11 (.t 14)), .s (.ext 15 (.t 11) 0), .s (.ext 16 (.t 11) 1), .s (.alloc 6 [.int .i64 0, .int .i64 0, .int .i64 0]), .s (.store 3 (.t 6) (.t 15)), .s (.mv 7 (.t 16))]) (.seq (.seq (.reg [.s (.mv 17 (.t 7)), .s (.bnot 18 (.t 17))]) (.cond (.t 18) (.seq (.seq (.reg [.s (.mv 19 (.t 0)), .s (.mv 20 (.t 1)), .s (.call (some 21) 136 [(.t 19), (.t 20)])]) (.cond (.t 21) (.seq (.reg [.s (.mv 4 (.k (.v (.c (.int .i64 0))))), .s (.mv 5 (.k (.v (.c (.int .i64 4096)))))]) (.ret)) (.skip))) (.seq (.reg [.s (.mv 4 (.k (.v (.c (.int .i64 0))))), .s (.mv 5 (.k (.v (.c (.int .i64 0)))))]) (.ret))) (.skip))) (.seq (.reg [.s (.load 23 true 3 (.t 6)), .s (.call (some 24) 144 [(.t 23)]), .s (.mv 22 (.t 24)), .s (.ext 25 (.t 22) 0), .s (.ext 26 (.t 22) 1), .s (.ext 27 (.t 22) 2), .s (.mv 8 (.t 25)), .s (.mv 9 (.t 26)), .s (.mv 10 (.t 27))]) (.seq (.reg [.s (.mv 28 (.t 8)), .s (.mv 29 (.t 9)), .s (.mv 4 (.t 28)), .s (.mv 5 (.t 29))]) (.ret)))))⟩
def c_spec_Wide : Fun := ⟨135, [], fun ts K => as2 ts fun t0 t1 => arC (pI .i64) t0 fun b => arC (pI .i64) t1 fun t => K (wideT (wide b t)) []⟩
theorem run_spec_Wide (b : Int) (t : Int) : runK [c_spec_BoundsOk, c_spec_Pack, c_spec_Unpack] (0) [] pf_spec_Wide [tI .i64 b, tI .i64 t] fun r o => r = wideT (wide b t) ∧ o = [] := by
  conv => whnf
  repeat' (first | (refine sel_i (fun h => ?_) (fun h => ?_) <;> conv => whnf) | (refine chk_c ?_ ?_ <;> conv => whnf) | (refine And.intro ?_ rfl) | (refine And.intro ?_ ?_ <;> conv => whnf))
  all_goals ((try simp only [etaPacked]); first | (simp_all [wide, wideT]; done) | (have hb := pack_isSome (b := b) (t := t) (by simpa using h); simp_all [wide, wideT]; done))
theorem ok_spec_Wide : FunOk Tryz.prog c_spec_Wide := funOk (E := [c_spec_BoundsOk, c_spec_Pack, c_spec_Unpack]) (envOk_cons ok_spec_BoundsOk (envOk_cons ok_spec_Pack (envOk_cons ok_spec_Unpack (envOk_nil)))) mixd Tryz.func135 (pf := pf_spec_Wide) (by kernel_rfl) fun ts K h => by
  obtain ⟨t0, t1, e0, h⟩ := as2_out h
  subst e0
  obtain ⟨b, e1, hq⟩ := arC_out (rd_int .i64) h
  clear h
  subst e1
  have h := hq
  clear hq
  obtain ⟨t, e1, hq⟩ := arC_out (rd_int .i64) h
  clear h
  subst e1
  have h := hq
  clear hq
  exact ⟨_, _, h, Nat.le_of_ble_eq_true (show Nat.ble 2 Tryz.f135.ntmps = true by kernel_rfl), _, run_spec_Wide b t⟩

def pf_impl_Wide : PF := ⟨[.t 4, .t 5], .seq (.reg [.s (.mv 4 (.k (.v (.c (.int .i64 0))))), .s (.mv 5 (.k (.v (.c (.int .i64 0)))))]) (.seq (.seq (.reg [.s (.mv 11 (.t 0)), .s (.mv 12 (.t 1)), .s (.call (some 13) 140 [(.t 11), (.t 12)]), .s (.bnot 14 (.t 13))]) (.cond (.t 14) (.seq (.reg [.s (.mv 4 (.k (.v (.c (.int .i64 0))))), .s (.mv 5 (.k (.v (.c (.int .i64 0)))))]) (.ret)) (.skip))) (.seq (.reg [.s (.mv 16 (.t 0)), .s (.mv 17 (.t 1)), .s (.call (some 18) 145 [(.t 16), (.t 17)]), .s (.mv 15 (.t 18)), .s (.ext 19 (.t 15) 0), .s (.ext 20 (.t 15) 1), .s (.alloc 6 [.int .i64 0, .int .i64 0, .int .i64 0]), .s (.store 3 (.t 6) (.t 19)), .s (.mv 7 (.t 20))]) (.seq (.seq (.reg [.s (.mv 21 (.t 7)), .s (.bnot 22 (.t 21))]) (.cond (.t 22) (.seq (.reg [.s (.mv 4 (.k (.v (.c (.int .i64 0))))), .s (.mv 5 (.k (.v (.c (.int .i64 4096)))))]) (.ret)) (.skip))) (.seq (.reg [.s (.load 24 true 3 (.t 6)), .s (.call (some 25) 146 [(.t 24)]), .s (.mv 23 (.t 25)), .s (.ext 26 (.t 23) 0), .s (.ext 27 (.t 23) 1), .s (.ext 28 (.t 23) 2), .s (.mv 8 (.t 26)), .s (.mv 9 (.t 27)), .s (.mv 10 (.t 28))]) (.seq (.reg [.s (.mv 29 (.t 8)), .s (.mv 30 (.t 9)), .s (.mv 4 (.t 29)), .s (.mv 5 (.t 30))]) (.ret))))))⟩
def c_impl_Wide : Fun := ⟨139, [], fun ts K => as2 ts fun t0 t1 => arC (pI .i64) t0 fun b => arC (pI .i64) t1 fun t => K (wideT (wide b t)) []⟩
theorem run_impl_Wide (b : Int) (t : Int) : runK [c_impl_BoundsOk, c_impl_Pack, c_impl_Unpack] (0) [] pf_impl_Wide [tI .i64 b, tI .i64 t] fun r o => r = wideT (wide b t) ∧ o = [] := by
  conv => whnf
  repeat' (first | (refine sel_i (fun h => ?_) (fun h => ?_) <;> conv => whnf) | (refine chk_c ?_ ?_ <;> conv => whnf) | (refine And.intro ?_ rfl) | (refine And.intro ?_ ?_ <;> conv => whnf))
  all_goals ((try simp only [etaPacked]); first | (simp_all [wide, wideT]; done) | (have hb := pack_isSome (b := b) (t := t) (by simpa using h); simp_all [wide, wideT]; done))
theorem ok_impl_Wide : FunOk Tryz.prog c_impl_Wide := funOk (E := [c_impl_BoundsOk, c_impl_Pack, c_impl_Unpack]) (envOk_cons ok_impl_BoundsOk (envOk_cons ok_impl_Pack (envOk_cons ok_impl_Unpack (envOk_nil)))) mixd Tryz.func139 (pf := pf_impl_Wide) (by kernel_rfl) fun ts K h => by
  obtain ⟨t0, t1, e0, h⟩ := as2_out h
  subst e0
  obtain ⟨b, e1, hq⟩ := arC_out (rd_int .i64) h
  clear h
  subst e1
  have h := hq
  clear hq
  obtain ⟨t, e1, hq⟩ := arC_out (rd_int .i64) h
  clear h
  subst e1
  have h := hq
  clear hq
  exact ⟨_, _, h, Nat.le_of_ble_eq_true (show Nat.ble 2 Tryz.f139.ntmps = true by kernel_rfl), _, run_impl_Wide b t⟩

def pf_spec_Exact : PF := ⟨[.t 4], .seq (.reg [.s (.mv 4 (.k (.v (.c .ff))))]) (.seq (.reg [.s (.mv 8 (.t 0)), .s (.mv 9 (.t 1)), .s (.call (some 10) 135 [(.t 8), (.t 9)]), .s (.mv 7 (.t 10)), .s (.ext 11 (.t 7) 0), .s (.ext 12 (.t 7) 1), .s (.mv 5 (.t 11)), .s (.mv 6 (.t 12))]) (.seq (.reg [.s (.mv 13 (.t 0)), .s (.mv 14 (.t 1)), .s (.call (some 15) 136 [(.t 13), (.t 14)]), .s (.mv 16 (.t 15)), .g 16 true (some 17) (.mv 17 (.t 5)), .g 16 true (some 18) (.mv 18 (.t 0)), .g 16 true (some 19) (.bin 19 .eql (.t 17) (.t 18)), .s (.pick 20 (.t 16) (.t 19) (.k (.v (.c .ff)))), .s (.mv 21 (.t 20)), .g 21 true (some 22) (.mv 22 (.t 6)), .g 21 true (some 23) (.mv 23 (.t 1)), .g 21 true (some 24) (.bin 24 .eql (.t 22) (.t 23)), .s (.pick 25 (.t 21) (.t 24) (.k (.v (.c .ff)))), .s (.mv 4 (.t 25))]) (.ret)))⟩
def c_spec_Exact : Fun := ⟨112, [], fun ts K => as2 ts fun t0 t1 => arC (pI .i64) t0 fun b => arC (pI .i64) t1 fun t => K (tB (exact_ b t)) []⟩
theorem run_spec_Exact (b : Int) (t : Int) : runK [c_spec_Wide, c_spec_BoundsOk] (0) [] pf_spec_Exact [tI .i64 b, tI .i64 t] fun r o => r = tB (exact_ b t) ∧ o = [] := by
  conv => whnf
  repeat' (first | (refine sel_i (fun h => ?_) (fun h => ?_) <;> conv => whnf) | (refine chk_c ?_ ?_ <;> conv => whnf) | (refine And.intro ?_ rfl) | (refine And.intro ?_ ?_ <;> conv => whnf))
  all_goals ((try simp only [beqI]); simp_all [exact_]; done)
theorem ok_spec_Exact : FunOk Tryz.prog c_spec_Exact := funOk (E := [c_spec_Wide, c_spec_BoundsOk]) (envOk_cons ok_spec_Wide (envOk_cons ok_spec_BoundsOk (envOk_nil))) mixd Tryz.func112 (pf := pf_spec_Exact) (by kernel_rfl) fun ts K h => by
  obtain ⟨t0, t1, e0, h⟩ := as2_out h
  subst e0
  obtain ⟨b, e1, hq⟩ := arC_out (rd_int .i64) h
  clear h
  subst e1
  have h := hq
  clear hq
  obtain ⟨t, e1, hq⟩ := arC_out (rd_int .i64) h
  clear h
  subst e1
  have h := hq
  clear hq
  exact ⟨_, _, h, Nat.le_of_ble_eq_true (show Nat.ble 2 Tryz.f112.ntmps = true by kernel_rfl), _, run_spec_Exact b t⟩

def pf_impl_Exact : PF := ⟨[.t 4], .seq (.reg [.s (.mv 4 (.k (.v (.c .ff))))]) (.seq (.reg [.s (.mv 8 (.t 0)), .s (.mv 9 (.t 1)), .s (.call (some 10) 139 [(.t 8), (.t 9)]), .s (.mv 7 (.t 10)), .s (.ext 11 (.t 7) 0), .s (.ext 12 (.t 7) 1), .s (.mv 5 (.t 11)), .s (.mv 6 (.t 12))]) (.seq (.reg [.s (.mv 13 (.t 0)), .s (.mv 14 (.t 1)), .s (.call (some 15) 140 [(.t 13), (.t 14)]), .s (.mv 16 (.t 15)), .g 16 true (some 17) (.mv 17 (.t 5)), .g 16 true (some 18) (.mv 18 (.t 0)), .g 16 true (some 19) (.bin 19 .eql (.t 17) (.t 18)), .s (.pick 20 (.t 16) (.t 19) (.k (.v (.c .ff)))), .s (.mv 21 (.t 20)), .g 21 true (some 22) (.mv 22 (.t 6)), .g 21 true (some 23) (.mv 23 (.t 1)), .g 21 true (some 24) (.bin 24 .eql (.t 22) (.t 23)), .s (.pick 25 (.t 21) (.t 24) (.k (.v (.c .ff)))), .s (.mv 4 (.t 25))]) (.ret)))⟩
def c_impl_Exact : Fun := ⟨123, [], fun ts K => as2 ts fun t0 t1 => arC (pI .i64) t0 fun b => arC (pI .i64) t1 fun t => K (tB (exact_ b t)) []⟩
theorem run_impl_Exact (b : Int) (t : Int) : runK [c_impl_Wide, c_impl_BoundsOk] (0) [] pf_impl_Exact [tI .i64 b, tI .i64 t] fun r o => r = tB (exact_ b t) ∧ o = [] := by
  conv => whnf
  repeat' (first | (refine sel_i (fun h => ?_) (fun h => ?_) <;> conv => whnf) | (refine chk_c ?_ ?_ <;> conv => whnf) | (refine And.intro ?_ rfl) | (refine And.intro ?_ ?_ <;> conv => whnf))
  all_goals ((try simp only [beqI]); simp_all [exact_]; done)
theorem ok_impl_Exact : FunOk Tryz.prog c_impl_Exact := funOk (E := [c_impl_Wide, c_impl_BoundsOk]) (envOk_cons ok_impl_Wide (envOk_cons ok_impl_BoundsOk (envOk_nil))) mixd Tryz.func123 (pf := pf_impl_Exact) (by kernel_rfl) fun ts K h => by
  obtain ⟨t0, t1, e0, h⟩ := as2_out h
  subst e0
  obtain ⟨b, e1, hq⟩ := arC_out (rd_int .i64) h
  clear h
  subst e1
  have h := hq
  clear hq
  obtain ⟨t, e1, hq⟩ := arC_out (rd_int .i64) h
  clear h
  subst e1
  have h := hq
  clear hq
  exact ⟨_, _, h, Nat.le_of_ble_eq_true (show Nat.ble 2 Tryz.f123.ntmps = true by kernel_rfl), _, run_impl_Exact b t⟩

def pf_spec_KeyOk : PF := ⟨[.t 2], .seq (.reg [.s (.box 1 (.t 0)), .s (.mv 2 (.k (.v (.c .ff))))]) (.seq (.reg [.s (.fa 3 (.t 1) 0), .s (.load 4 false 1 (.t 3)), .s (.fa 5 (.t 1) 1), .s (.load 6 false 1 (.t 5)), .s (.call (some 7) 112 [(.t 4), (.t 6)]), .s (.mv 8 (.t 7)), .g 8 true (some 9) (.fa 9 (.t 1) 2), .g 8 true (some 10) (.load 10 false 1 (.t 9)), .g 8 true (some 11) (.call (some 11) 47 [(.t 10), (.k (.v (.c (.int .i64 0)))), (.k (.v (.c (.int .i64 63))))]), .s (.pick 12 (.t 8) (.t 11) (.k (.v (.c .ff)))), .s (.mv 13 (.t 12)), .g 13 true (some 14) (.fa 14 (.t 1) 3), .g 13 true (some 15) (.load 15 false 1 (.t 14)), .g 13 true (some 16) (.call (some 16) 47 [(.t 15), (.k (.v (.c (.int .i64 0)))), (.k (.v (.c (.int .i64 7))))]), .s (.pick 17 (.t 13) (.t 16) (.k (.v (.c .ff)))), .s (.mv 2 (.t 17))]) (.ret))⟩
def c_spec_KeyOk : Fun := ⟨92, [], fun ts K => as1 ts fun t0 => arG pKeyT t0 fun k => K (tB (keyOk k)) []⟩
theorem run_spec_KeyOk (k : Key) : runK [c_spec_l1In, c_spec_Exact] (0) [] pf_spec_KeyOk [tG (k.tc [])] fun r o => r = tB (keyOk k) ∧ o = [] := by
  conv => whnf
  repeat' (first | (refine sel_i (fun h => ?_) (fun h => ?_) <;> conv => whnf) | (refine chk_c ?_ ?_ <;> conv => whnf) | (refine And.intro ?_ rfl) | (refine And.intro ?_ ?_ <;> conv => whnf))
  all_goals (simp_all [keyOk]; done)
theorem ok_spec_KeyOk : FunOk Tryz.prog c_spec_KeyOk := funOk (E := [c_spec_l1In, c_spec_Exact]) (envOk_cons ok_spec_l1In (envOk_cons ok_spec_Exact (envOk_nil))) mixd Tryz.func92 (pf := pf_spec_KeyOk) (by kernel_rfl) fun ts K h => by
  obtain ⟨t0, e0, h⟩ := as1_out h
  subst e0
  obtain ⟨k, e1, hq⟩ := arG_out rd_key h
  clear h
  subst e1
  have h := hq
  clear hq
  exact ⟨_, _, h, Nat.le_of_ble_eq_true (show Nat.ble 1 Tryz.f92.ntmps = true by kernel_rfl), _, run_spec_KeyOk k⟩

def pf_impl_KeyOk : PF := ⟨[.t 2], .seq (.reg [.s (.box 1 (.t 0)), .s (.mv 2 (.k (.v (.c .ff))))]) (.seq (.reg [.s (.fa 3 (.t 1) 0), .s (.load 4 false 1 (.t 3)), .s (.fa 5 (.t 1) 1), .s (.load 6 false 1 (.t 5)), .s (.call (some 7) 123 [(.t 4), (.t 6)]), .s (.mv 8 (.t 7)), .g 8 true (some 9) (.fa 9 (.t 1) 2), .g 8 true (some 10) (.load 10 false 1 (.t 9)), .g 8 true (some 11) (.call (some 11) 52 [(.t 10), (.k (.v (.c (.int .i64 0)))), (.k (.v (.c (.int .i64 63))))]), .s (.pick 12 (.t 8) (.t 11) (.k (.v (.c .ff)))), .s (.mv 13 (.t 12)), .g 13 true (some 14) (.fa 14 (.t 1) 3), .g 13 true (some 15) (.load 15 false 1 (.t 14)), .g 13 true (some 16) (.call (some 16) 52 [(.t 15), (.k (.v (.c (.int .i64 0)))), (.k (.v (.c (.int .i64 7))))]), .s (.pick 17 (.t 13) (.t 16) (.k (.v (.c .ff)))), .s (.mv 2 (.t 17))]) (.ret))⟩
def c_impl_KeyOk : Fun := ⟨101, [], fun ts K => as1 ts fun t0 => arG pKeyT t0 fun k => K (tB (keyOk k)) []⟩
theorem run_impl_KeyOk (k : Key) : runK [c_impl_in, c_impl_Exact] (0) [] pf_impl_KeyOk [tG (k.tc [])] fun r o => r = tB (keyOk k) ∧ o = [] := by
  conv => whnf
  repeat' (first | (refine sel_i (fun h => ?_) (fun h => ?_) <;> conv => whnf) | (refine chk_c ?_ ?_ <;> conv => whnf) | (refine And.intro ?_ rfl) | (refine And.intro ?_ ?_ <;> conv => whnf))
  all_goals (simp_all [keyOk]; done)
theorem ok_impl_KeyOk : FunOk Tryz.prog c_impl_KeyOk := funOk (E := [c_impl_in, c_impl_Exact]) (envOk_cons ok_impl_in (envOk_cons ok_impl_Exact (envOk_nil))) mixd Tryz.func101 (pf := pf_impl_KeyOk) (by kernel_rfl) fun ts K h => by
  obtain ⟨t0, e0, h⟩ := as1_out h
  subst e0
  obtain ⟨k, e1, hq⟩ := arG_out rd_key h
  clear h
  subst e1
  have h := hq
  clear hq
  exact ⟨_, _, h, Nat.le_of_ble_eq_true (show Nat.ble 1 Tryz.f101.ntmps = true by kernel_rfl), _, run_impl_KeyOk k⟩

def pf_spec_WordOk : PF := ⟨[.t 2], .seq (.reg [.s (.box 1 (.t 0)), .s (.mv 2 (.k (.v (.c .ff))))]) (.seq (.reg [.s (.fa 3 (.t 1) 0), .s (.load 4 false 1 (.t 3)), .s (.call (some 5) 47 [(.t 4), (.k (.v (.c (.int .i64 0)))), (.k (.v (.c (.int .i64 65535))))]), .s (.mv 6 (.t 5)), .g 6 true (some 7) (.fa 7 (.t 1) 1), .g 6 true (some 8) (.load 8 false 1 (.t 7)), .g 6 true (some 9) (.mv 9 (.t 8)), .g 9 true (some 10) (.fa 10 (.t 1) 2), .g 9 true (some 11) (.load 11 true 4 (.t 10)), .g 9 true (some 12) (.call (some 12) 92 [(.t 11)]), .g 6 true (some 13) (.pick 13 (.t 9) (.t 12) (.k (.v (.c .ff)))), .g 6 true (some 14) (.mv 14 (.t 13)), .g 14 false (some 15) (.fa 15 (.t 1) 1), .g 14 false (some 16) (.load 16 false 1 (.t 15)), .g 14 false (some 17) (.bnot 17 (.t 16)), .g 14 false (some 18) (.mv 18 (.t 17)), .g 18 true (some 19) (.fa 19 (.t 1) 2), .g 18 true (some 20) (.load 20 true 4 (.t 19)), .g 18 true (some 21) (.build 21 [.int .i64 0, .int .i64 0, .int .i64 0, .int .i64 0] []), .g 18 true (some 22) (.eqs 22 true [.i, .i, .i, .i] false (.t 20) (.t 21)), .g 14 false (some 23) (.pick 23 (.t 18) (.t 22) (.k (.v (.c .ff)))), .g 6 true (some 24) (.pick 24 (.t 14) (.k (.v (.c .tt))) (.t 23)), .s (.pick 25 (.t 6) (.t 24) (.k (.v (.c .ff)))), .s (.mv 2 (.t 25))]) (.ret))⟩
def c_spec_WordOk : Fun := ⟨61, [], fun ts K => as1 ts fun t0 => arG pWordT t0 fun w => K (tB (wordOk w)) []⟩
theorem run_spec_WordOk (w : Word) : runK [c_spec_l1In, c_spec_KeyOk] (0) [] pf_spec_WordOk [tG (w.tc [])] fun r o => r = tB (wordOk w) ∧ o = [] := by
  conv => whnf
  repeat' (first | (refine sel_i (fun h => ?_) (fun h => ?_) <;> conv => whnf) | (refine chk_c ?_ ?_ <;> conv => whnf) | (refine And.intro ?_ rfl) | (refine And.intro ?_ ?_ <;> conv => whnf))
  all_goals (try simp only [etaKey, keyEq0] at *); first | rfl | (simp_all [wordOk]; done) | trace_state
theorem ok_spec_WordOk : FunOk Tryz.prog c_spec_WordOk := funOk (E := [c_spec_l1In, c_spec_KeyOk]) (envOk_cons ok_spec_l1In (envOk_cons ok_spec_KeyOk (envOk_nil))) mixd Tryz.func61 (pf := pf_spec_WordOk) (by kernel_rfl) fun ts K h => by
  obtain ⟨t0, e0, h⟩ := as1_out h
  subst e0
  obtain ⟨w, e1, hq⟩ := arG_out rd_word h
  clear h
  subst e1
  have h := hq
  clear hq
  exact ⟨_, _, h, Nat.le_of_ble_eq_true (show Nat.ble 1 Tryz.f61.ntmps = true by kernel_rfl), _, run_spec_WordOk w⟩

def pf_impl_WordOk : PF := ⟨[.t 2], .seq (.reg [.s (.box 1 (.t 0)), .s (.mv 2 (.k (.v (.c .ff))))]) (.seq (.seq (.reg [.s (.fa 3 (.t 1) 1), .s (.load 4 false 1 (.t 3))]) (.cond (.t 4) (.seq (.reg [.s (.fa 5 (.t 1) 0), .s (.load 6 false 1 (.t 5)), .s (.call (some 7) 52 [(.t 6), (.k (.v (.c (.int .i64 0)))), (.k (.v (.c (.int .i64 65535))))]), .s (.mv 8 (.t 7)), .g 8 true (some 9) (.fa 9 (.t 1) 2), .g 8 true (some 10) (.load 10 true 4 (.t 9)), .g 8 true (some 11) (.call (some 11) 101 [(.t 10)]), .s (.pick 12 (.t 8) (.t 11) (.k (.v (.c .ff)))), .s (.mv 2 (.t 12))]) (.ret)) (.skip))) (.seq (.reg [.s (.fa 13 (.t 1) 0), .s (.load 14 false 1 (.t 13)), .s (.call (some 15) 52 [(.t 14), (.k (.v (.c (.int .i64 0)))), (.k (.v (.c (.int .i64 65535))))]), .s (.mv 16 (.t 15)), .g 16 true (some 17) (.fa 17 (.t 1) 2), .g 16 true (some 18) (.load 18 true 4 (.t 17)), .g 16 true (some 19) (.build 19 [.int .i64 0, .int .i64 0, .int .i64 0, .int .i64 0] []), .g 16 true (some 20) (.eqs 20 true [.i, .i, .i, .i] false (.t 18) (.t 19)), .s (.pick 21 (.t 16) (.t 20) (.k (.v (.c .ff)))), .s (.mv 2 (.t 21))]) (.ret)))⟩
def c_impl_WordOk : Fun := ⟨73, [], fun ts K => as1 ts fun t0 => arG pWordT t0 fun w => K (tB (wordOk w)) []⟩
theorem run_impl_WordOk (w : Word) : runK [c_impl_in, c_impl_KeyOk] (0) [] pf_impl_WordOk [tG (w.tc [])] fun r o => r = tB (wordOk w) ∧ o = [] := by
  conv => whnf
  repeat' (first | (refine sel_i (fun h => ?_) (fun h => ?_) <;> conv => whnf) | (refine chk_c ?_ ?_ <;> conv => whnf) | (refine And.intro ?_ rfl) | (refine And.intro ?_ ?_ <;> conv => whnf))
  all_goals (try simp only [etaKey, keyEq0] at *); first | rfl | (simp_all [wordOk]; done) | trace_state
theorem ok_impl_WordOk : FunOk Tryz.prog c_impl_WordOk := funOk (E := [c_impl_in, c_impl_KeyOk]) (envOk_cons ok_impl_in (envOk_cons ok_impl_KeyOk (envOk_nil))) mixd Tryz.func73 (pf := pf_impl_WordOk) (by kernel_rfl) fun ts K h => by
  obtain ⟨t0, e0, h⟩ := as1_out h
  subst e0
  obtain ⟨w, e1, hq⟩ := arG_out rd_word h
  clear h
  subst e1
  have h := hq
  clear hq
  exact ⟨_, _, h, Nat.le_of_ble_eq_true (show Nat.ble 1 Tryz.f73.ntmps = true by kernel_rfl), _, run_impl_WordOk w⟩
end Go.Pi
