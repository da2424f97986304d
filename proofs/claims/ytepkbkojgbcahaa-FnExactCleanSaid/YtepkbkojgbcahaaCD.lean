/- Contracts of functions, each out of its run by PI. No conditions. -/
import Derived.Test.YtepkbkojgbcahaaCC
namespace Go.Pi
open Go.Proofs
set_option linter.unusedVariables false
set_option linter.unusedSimpArgs false
set_option maxRecDepth 100000
attribute [local irreducible] iterN
def szr (k : Int) (n : Nat) : Int := if k - n < 0 then -1 else k - n
theorem szr_t {k : Int} {n : Nat} (h : k - n < 0) : szr k n = -1 := if_pos h
theorem szr_f {k : Int} {n : Nat} (h : ¬ k - n < 0) : szr k n = k - n := if_neg h

def pf_laws_toKey : PF := ⟨[.c 2 true 4], .seq (.reg [.s (.box 1 (.t 0)), .s (.alloc 2 [.int .i64 0, .int .i64 0, .int .i64 0, .int .i64 0])]) (.seq (.reg [.s (.alloc 3 [.int .i64 0, .int .i64 0, .int .i64 0, .int .i64 0])]) (.seq (.reg [.s (.fa 4 (.t 1) 0), .s (.load 5 false 1 (.t 4)), .s (.fa 6 (.t 3) 0), .s (.store 1 (.t 6) (.t 5))]) (.seq (.reg [.s (.fa 7 (.t 1) 1), .s (.load 8 false 1 (.t 7)), .s (.fa 9 (.t 3) 1), .s (.store 1 (.t 9) (.t 8))]) (.seq (.reg [.s (.fa 10 (.t 1) 2), .s (.load 11 false 1 (.t 10)), .s (.fa 12 (.t 3) 2), .s (.store 1 (.t 12) (.t 11))]) (.seq (.reg [.s (.fa 13 (.t 1) 3), .s (.load 14 false 1 (.t 13)), .s (.fa 15 (.t 3) 3), .s (.store 1 (.t 15) (.t 14))]) (.seq (.reg [.s (.load 16 true 4 (.t 3)), .s (.store 4 (.t 2) (.t 16))]) (.ret)))))))⟩
def c_laws_toKey : Fun := ⟨108, [], fun ts K => as1 ts fun t0 => arG pKeyT t0 fun a => K (tG (a.tc [])) []⟩
theorem run_laws_toKey (a : Key) : runK [] (0) [] pf_laws_toKey [tG (a.tc [])] fun r o => r = tG (a.tc []) ∧ o = [] := by
  conv => whnf
  repeat' (first
    | exact rfl
    | exact trivial
    | (refine sel_i (fun h => ?_) (fun h => ?_) <;> conv => whnf)
    | (refine chk_c ?_ ?_ <;> conv => whnf)
    | (refine And.intro ?_ ?_ <;> conv => whnf))
theorem ok_laws_toKey : FunOk Try.prog c_laws_toKey := funOk (E := []) (envOk_nil) mixd Try.func108 (pf := pf_laws_toKey) (by kernel_rfl) fun ts K h => by
  obtain ⟨t0, e0, h⟩ := as1_out h
  subst e0
  obtain ⟨a, e1, hq⟩ := arG_out rd_key h
  clear h
  subst e1
  have h := hq
  clear hq
  exact ⟨_, _, h, Nat.le_of_ble_eq_true (show Nat.ble 1 Try.f108.ntmps = true by kernel_rfl), _, run_laws_toKey a⟩

def pf_laws_toWord : PF := ⟨[.c 2 true 6], .seq (.reg [.s (.box 1 (.t 0)), .s (.alloc 2 [.int .i64 0, .ff, .int .i64 0, .int .i64 0, .int .i64 0, .int .i64 0])]) (.seq (.reg [.s (.alloc 3 [.int .i64 0, .ff, .int .i64 0, .int .i64 0, .int .i64 0, .int .i64 0])]) (.seq (.reg [.s (.fa 4 (.t 1) 0), .s (.load 5 false 1 (.t 4)), .s (.fa 6 (.t 3) 0), .s (.store 1 (.t 6) (.t 5))]) (.seq (.reg [.s (.fa 7 (.t 1) 1), .s (.load 8 false 1 (.t 7)), .s (.fa 9 (.t 3) 1), .s (.store 1 (.t 9) (.t 8))]) (.seq (.reg [.s (.fa 10 (.t 1) 2), .s (.load 11 true 4 (.t 10)), .s (.call (some 12) 108 [(.t 11)]), .s (.fa 13 (.t 3) 2), .s (.store 4 (.t 13) (.t 12))]) (.seq (.reg [.s (.load 14 true 6 (.t 3)), .s (.store 6 (.t 2) (.t 14))]) (.ret))))))⟩
def c_laws_toWord : Fun := ⟨57, [], fun ts K => as1 ts fun t0 => arG pWordT t0 fun a => K (tG (a.tc [])) []⟩
theorem run_laws_toWord (a : Word) : runK [c_laws_toKey] (0) [] pf_laws_toWord [tG (a.tc [])] fun r o => r = tG (a.tc []) ∧ o = [] := by
  conv => whnf
  repeat' (first
    | exact rfl
    | exact trivial
    | (refine sel_i (fun h => ?_) (fun h => ?_) <;> conv => whnf)
    | (refine chk_c ?_ ?_ <;> conv => whnf)
    | (refine And.intro ?_ ?_ <;> conv => whnf))
theorem ok_laws_toWord : FunOk Try.prog c_laws_toWord := funOk (E := [c_laws_toKey]) (envOk_cons ok_laws_toKey (envOk_nil)) mixd Try.func57 (pf := pf_laws_toWord) (by kernel_rfl) fun ts K h => by
  obtain ⟨t0, e0, h⟩ := as1_out h
  subst e0
  obtain ⟨a, e1, hq⟩ := arG_out rd_word h
  clear h
  subst e1
  have h := hq
  clear hq
  exact ⟨_, _, h, Nat.le_of_ble_eq_true (show Nat.ble 1 Try.f57.ntmps = true by kernel_rfl), _, run_laws_toWord a⟩

def pf_laws_szWordS : PF := ⟨[.t 4], .seq (.reg [.s (.mv 4 (.k (.v (.c (.int .i64 0)))))]) (.seq (.reg [.s (.mv 5 (.t 1)), .s (.mv 6 (.t 0)), .s (.len 7 false (.t 6)), .s (.bin 8 .sub (.t 5) (.t 7)), .s (.mv 1 (.t 8))]) (.seq (.seq (.reg [.s (.mv 9 (.t 1)), .s (.bin 10 .lss (.t 9) (.k (.v (.c (.int .i64 0)))))]) (.cond (.t 10) (.seq (.reg [.s (.mv 4 (.k (.v (.c (.int .i64 (-1))))))]) (.ret)) (.skip))) (.seq (.reg [.s (.mv 11 (.t 1)), .s (.mv 4 (.t 11))]) (.ret))))⟩
def c_laws_szWordS : Fun := ⟨13, [], fun ts K => as2 ts fun t0 t1 => arC (pL .word) t0 fun a => arC (pI .i64) t1 fun k => chk (a.length ≤ 9223372036854775807 ∧ 0 ≤ k ∧ k ≤ 1048576) (K (tN (szr k a.length)) [])⟩
theorem run_laws_szWordS (a : List (FT.Ty .word)) (k : Int) (hpre : a.length ≤ 9223372036854775807 ∧ 0 ≤ k ∧ k ≤ 1048576) : runK [] (0) [] pf_laws_szWordS [tL false .word a, tI .i64 k] fun r o => r = tN (szr k a.length) ∧ o = [] := by
  conv => whnf
  rw [wrap_id (by omega) (by omega)]
  refine sel_i (fun h => ?_) (fun h => ?_) <;> conv => whnf
  · refine ⟨?_, rfl⟩; rw [szr_t (by simpa using h)]
  · refine ⟨?_, rfl⟩; rw [szr_f (by simpa using h)]
theorem ok_laws_szWordS : FunOk Try.prog c_laws_szWordS := funOk (E := []) (envOk_nil) mixd Try.func13 (pf := pf_laws_szWordS) (by kernel_rfl) fun ts K h => by
  obtain ⟨t0, t1, e0, h⟩ := as2_out h
  subst e0
  obtain ⟨a, e1, hq⟩ := arC_out (rd_l .word) h
  clear h
  subst e1
  have h := hq
  clear hq
  obtain ⟨k, e1, hq⟩ := arC_out (rd_int .i64) h
  clear h
  subst e1
  have h := hq
  clear hq
  obtain ⟨hpre, h⟩ := chk_o h
  exact ⟨_, _, h, Nat.le_of_ble_eq_true (show Nat.ble 2 Try.f13.ntmps = true by kernel_rfl), _, run_laws_szWordS a k hpre⟩

def lb_laws_toWordS_0 : PC := .seq (.seq (.reg [.s (.mv 8 (.t 4)), .s (.mv 9 (.t 0)), .s (.len 10 false (.t 9)), .s (.bin 11 .lss (.t 8) (.t 10))]) (.cond (.t 11) (.skip) (.exit 0))) (.seq (.blk 1 (.reg [.s (.mv 14 (.t 3)), .s (.mv 15 (.t 4)), .s (.mv 16 (.t 0)), .s (.mv 17 (.t 4)), .s (.ia 18 .word (.t 16) (.t 17)), .s (.load 19 true 6 (.t 18)), .s (.call (some 20) 57 [(.t 19)]), .s (.ia 21 .word (.t 14) (.t 15)), .s (.store 6 (.t 21) (.t 20))])) (.reg [.s (.mv 12 (.t 4)), .s (.bin 13 .add (.t 12) (.k (.v (.c (.int .i64 1))))), .s (.mv 4 (.t 13))]))
def pf_laws_toWordS : PF := ⟨[.t 2], .seq (.reg [.s (.mv 2 (.k (.v (.c (.nils .word)))))]) (.seq (.reg [.s (.mv 5 (.t 0)), .s (.len 6 false (.t 5)), .s (.mkS 7 .word (.t 6)), .s (.mv 3 (.t 7))]) (.seq (.seq (.reg [.s (.mv 4 (.k (.v (.c (.int .i64 0)))))]) (.blk 0 (.loop [0, 3, 4] lb_laws_toWordS_0))) (.seq (.reg [.s (.mv 22 (.t 3)), .s (.mv 2 (.t 22))]) (.ret))))⟩
def c_laws_toWordS : Fun := ⟨16, [], fun ts K => as1 ts fun t0 => arC (pL .word) t0 fun a => chk (a.length ≤ 2147483647) (K (tL true .word a) [])⟩
theorem run_laws_toWordS (a : List (FT.Ty .word)) (hpre : a.length ≤ 2147483647) : runK [c_laws_toWord] (a.length + 1) [] pf_laws_toWordS [tL false .word a] fun r o => r = tL true .word a ∧ o = [] := by
  conv => whnf
  refine chk_i ⟨by omega, by omega⟩ ?_
  conv => whnf
  refine loop (α := Nat × List (FT.Ty .word)) (fun p => ⟨[(0, .v (.c (.sl false .word 0))), (3, .v (.c (.sl true .word 1))), (4, .v (.c (.int .i64 (p.1 : Int))))], [(1, some (.flat true .word none p.2)), (0, some (.flat false .word none a))], nums.tail.tail, [], false, []⟩)
      (fun p => p.1 ≤ a.length ∧ p.2 = a.take p.1 ++ (List.replicate a.length (FT.zero .word)).drop p.1) (fun p => a.length - p.1) (fun p R hI hR => ?_) (0, List.replicate a.length (FT.zero .word)) _ ⟨by simp, by simp⟩ (by simp)
  obtain ⟨i, xs⟩ := p
  obtain ⟨hi, hx⟩ := hI
  dsimp only at hi hx
  have hlen : xs.length = a.length := by rw [hx]; simp; omega
  dsimp only
  conv => whnf
  refine sel_i (fun h2 => ?_) (fun h2 => ?_)
  · have hlt : i < a.length := by simp at h2; omega
    have hge : a[i]? = some (a.getD i (FT.zero .word)) := by simp [List.getD_eq_getElem?_getD, hlt]
    conv => whnf
    repeat' (refine chk_c ?_ ?_ <;> conv => whnf)
    all_goals first
      | (refine ⟨?_⟩; omega)
      | (refine ⟨?_⟩; simp; done)
      | (refine ⟨?_⟩; simp; omega)
      | skip
    simp (disch := omega) only [wrap_id, Int.toNat_natCast]
    exact hR (i + 1, xs.set i (a.getD i (FT.zero .word))) ⟨by omega, by rw [hx]; exact set_mid (by simp) (by simpa using hlt) hge⟩ (by simp; omega)
  · have hge : i = a.length := by simp at h2; omega
    subst hge
    conv => whnf
    refine ⟨?_, rfl⟩
    rw [hx, List.take_of_length_le (by omega), List.drop_eq_nil_of_le (by simp), List.append_nil]
theorem ok_laws_toWordS : FunOk Try.prog c_laws_toWordS := funOk (E := [c_laws_toWord]) (envOk_cons ok_laws_toWord (envOk_nil)) mixd Try.func16 (pf := pf_laws_toWordS) (by kernel_rfl) fun ts K h => by
  obtain ⟨t0, e0, h⟩ := as1_out h
  subst e0
  obtain ⟨a, e1, hq⟩ := arC_out (rd_l .word) h
  clear h
  subst e1
  have h := hq
  clear hq
  obtain ⟨hpre, h⟩ := chk_o h
  exact ⟨_, _, h, Nat.le_of_ble_eq_true (show Nat.ble 1 Try.f16.ntmps = true by kernel_rfl), _, run_laws_toWordS a hpre⟩

def pf_laws_szBoolS : PF := ⟨[.t 4], .seq (.reg [.s (.mv 4 (.k (.v (.c (.int .i64 0)))))]) (.seq (.reg [.s (.mv 5 (.t 1)), .s (.mv 6 (.t 0)), .s (.len 7 false (.t 6)), .s (.bin 8 .sub (.t 5) (.t 7)), .s (.mv 1 (.t 8))]) (.seq (.seq (.reg [.s (.mv 9 (.t 1)), .s (.bin 10 .lss (.t 9) (.k (.v (.c (.int .i64 0)))))]) (.cond (.t 10) (.seq (.reg [.s (.mv 4 (.k (.v (.c (.int .i64 (-1))))))]) (.ret)) (.skip))) (.seq (.reg [.s (.mv 11 (.t 1)), .s (.mv 4 (.t 11))]) (.ret))))⟩
def c_laws_szBoolS : Fun := ⟨51, [], fun ts K => as2 ts fun t0 t1 => arC (pL .bool) t0 fun a => arC (pI .i64) t1 fun k => chk (a.length ≤ 9223372036854775807 ∧ 0 ≤ k ∧ k ≤ 1048576) (K (tN (szr k a.length)) [])⟩
theorem run_laws_szBoolS (a : List (FT.Ty .bool)) (k : Int) (hpre : a.length ≤ 9223372036854775807 ∧ 0 ≤ k ∧ k ≤ 1048576) : runK [] (0) [] pf_laws_szBoolS [tL false .bool a, tI .i64 k] fun r o => r = tN (szr k a.length) ∧ o = [] := by
  conv => whnf
  rw [wrap_id (by omega) (by omega)]
  refine sel_i (fun h => ?_) (fun h => ?_) <;> conv => whnf
  · refine ⟨?_, rfl⟩; rw [szr_t (by simpa using h)]
  · refine ⟨?_, rfl⟩; rw [szr_f (by simpa using h)]
theorem ok_laws_szBoolS : FunOk Try.prog c_laws_szBoolS := funOk (E := []) (envOk_nil) mixd Try.func51 (pf := pf_laws_szBoolS) (by kernel_rfl) fun ts K h => by
  obtain ⟨t0, t1, e0, h⟩ := as2_out h
  subst e0
  obtain ⟨a, e1, hq⟩ := arC_out (rd_l .bool) h
  clear h
  subst e1
  have h := hq
  clear hq
  obtain ⟨k, e1, hq⟩ := arC_out (rd_int .i64) h
  clear h
  subst e1
  have h := hq
  clear hq
  obtain ⟨hpre, h⟩ := chk_o h
  exact ⟨_, _, h, Nat.le_of_ble_eq_true (show Nat.ble 2 Try.f51.ntmps = true by kernel_rfl), _, run_laws_szBoolS a k hpre⟩

def lb_laws_toBoolS_0 : PC := .seq (.seq (.reg [.s (.mv 8 (.t 4)), .s (.mv 9 (.t 0)), .s (.len 10 false (.t 9)), .s (.bin 11 .lss (.t 8) (.t 10))]) (.cond (.t 11) (.skip) (.exit 0))) (.seq (.blk 1 (.reg [.s (.mv 14 (.t 3)), .s (.mv 15 (.t 4)), .s (.mv 16 (.t 0)), .s (.mv 17 (.t 4)), .s (.ia 18 .bool (.t 16) (.t 17)), .s (.load 19 false 1 (.t 18)), .s (.ia 20 .bool (.t 14) (.t 15)), .s (.store 1 (.t 20) (.t 19))])) (.reg [.s (.mv 12 (.t 4)), .s (.bin 13 .add (.t 12) (.k (.v (.c (.int .i64 1))))), .s (.mv 4 (.t 13))]))
def pf_laws_toBoolS : PF := ⟨[.t 2], .seq (.reg [.s (.mv 2 (.k (.v (.c (.nils .bool)))))]) (.seq (.reg [.s (.mv 5 (.t 0)), .s (.len 6 false (.t 5)), .s (.mkS 7 .bool (.t 6)), .s (.mv 3 (.t 7))]) (.seq (.seq (.reg [.s (.mv 4 (.k (.v (.c (.int .i64 0)))))]) (.blk 0 (.loop [0, 3, 4] lb_laws_toBoolS_0))) (.seq (.reg [.s (.mv 21 (.t 3)), .s (.mv 2 (.t 21))]) (.ret))))⟩
def c_laws_toBoolS : Fun := ⟨56, [], fun ts K => as1 ts fun t0 => arC (pL .bool) t0 fun a => chk (a.length ≤ 2147483647) (K (tL true .bool a) [])⟩
theorem run_laws_toBoolS (a : List (FT.Ty .bool)) (hpre : a.length ≤ 2147483647) : runK [] (a.length + 1) [] pf_laws_toBoolS [tL false .bool a] fun r o => r = tL true .bool a ∧ o = [] := by
  conv => whnf
  refine chk_i ⟨by omega, by omega⟩ ?_
  conv => whnf
  refine loop (α := Nat × List (FT.Ty .bool)) (fun p => ⟨[(0, .v (.c (.sl false .bool 0))), (3, .v (.c (.sl true .bool 1))), (4, .v (.c (.int .i64 (p.1 : Int))))], [(1, some (.flat true .bool none p.2)), (0, some (.flat false .bool none a))], nums.tail.tail, [], false, []⟩)
      (fun p => p.1 ≤ a.length ∧ p.2 = a.take p.1 ++ (List.replicate a.length (FT.zero .bool)).drop p.1) (fun p => a.length - p.1) (fun p R hI hR => ?_) (0, List.replicate a.length (FT.zero .bool)) _ ⟨by simp, by simp⟩ (by simp)
  obtain ⟨i, xs⟩ := p
  obtain ⟨hi, hx⟩ := hI
  dsimp only at hi hx
  have hlen : xs.length = a.length := by rw [hx]; simp; omega
  dsimp only
  conv => whnf
  refine sel_i (fun h2 => ?_) (fun h2 => ?_)
  · have hlt : i < a.length := by simp at h2; omega
    have hge : a[i]? = some (a.getD i (FT.zero .bool)) := by simp [List.getD_eq_getElem?_getD, hlt]
    conv => whnf
    repeat' (refine chk_c ?_ ?_ <;> conv => whnf)
    all_goals first
      | (refine ⟨?_⟩; omega)
      | (refine ⟨?_⟩; simp; done)
      | (refine ⟨?_⟩; simp; omega)
      | skip
    simp (disch := omega) only [wrap_id, Int.toNat_natCast]
    exact hR (i + 1, xs.set i (a.getD i (FT.zero .bool))) ⟨by omega, by rw [hx]; exact set_mid (by simp) (by simpa using hlt) hge⟩ (by simp; omega)
  · have hge : i = a.length := by simp at h2; omega
    subst hge
    conv => whnf
    refine ⟨?_, rfl⟩
    rw [hx, List.take_of_length_le (by omega), List.drop_eq_nil_of_le (by simp), List.append_nil]
theorem ok_laws_toBoolS : FunOk Try.prog c_laws_toBoolS := funOk (E := []) (envOk_nil) mixd Try.func56 (pf := pf_laws_toBoolS) (by kernel_rfl) fun ts K h => by
  obtain ⟨t0, e0, h⟩ := as1_out h
  subst e0
  obtain ⟨a, e1, hq⟩ := arC_out (rd_l .bool) h
  clear h
  subst e1
  have h := hq
  clear hq
  obtain ⟨hpre, h⟩ := chk_o h
  exact ⟨_, _, h, Nat.le_of_ble_eq_true (show Nat.ble 1 Try.f56.ntmps = true by kernel_rfl), _, run_laws_toBoolS a hpre⟩

def pf_slices_Clone_Word : PF := ⟨[.t 2], .seq (.reg [.s (.mv 2 (.k (.v (.c (.nils .word)))))]) (.seq (.seq (.reg [.s (.mv 3 (.t 0)), .s (.isnil 4 (.t 3))]) (.cond (.t 4) (.seq (.reg [.s (.mv 2 (.k (.v (.c (.nils .word)))))]) (.ret)) (.skip))) (.seq (.reg [.s (.bs 5 .word []), .s (.mv 6 (.t 0)), .s (.app 7 .word (.t 5) (.t 6)), .s (.mv 2 (.t 7))]) (.ret)))⟩
def c_slices_Clone_Word : Fun := ⟨91, [], fun ts K => as1 ts fun t0 => arC (pL .word) t0 fun a => chk (a.length ≤ 2147483647) (K (tL true .word a) [])⟩
theorem ok_slices_Clone_Word : FunOk Try.prog c_slices_Clone_Word := funOkN (E := []) envOk_nil mixd Try.func91 (pf := pf_slices_Clone_Word) (by kernel_rfl) rfl (Nat.le_of_ble_eq_true (show Nat.ble 1 Try.f91.ntmps = true by kernel_rfl)) fun ts K h => by
  obtain ⟨t0, e0, h⟩ := as1_out h
  subst e0
  obtain ⟨a, e1, h⟩ := arC_out (rd_l .word) h
  subst e1
  obtain ⟨hpre, h⟩ := chk_o h
  refine ⟨.word, a, _, rfl, h, 0, fun e => ?_, ?_⟩
  · subst e
    conv => whnf
    exact ⟨rfl, rfl⟩
  · conv => whnf
    repeat' (refine chk_c ?_ ?_ <;> conv => whnf)
    all_goals first
      | (refine ⟨?_⟩; simp; omega)
      | exact ⟨rfl, rfl⟩

def pf_slices_Clone_bool : PF := ⟨[.t 2], .seq (.reg [.s (.mv 2 (.k (.v (.c (.nils .bool)))))]) (.seq (.seq (.reg [.s (.mv 3 (.t 0)), .s (.isnil 4 (.t 3))]) (.cond (.t 4) (.seq (.reg [.s (.mv 2 (.k (.v (.c (.nils .bool)))))]) (.ret)) (.skip))) (.seq (.reg [.s (.bs 5 .bool []), .s (.mv 6 (.t 0)), .s (.app 7 .bool (.t 5) (.t 6)), .s (.mv 2 (.t 7))]) (.ret)))⟩
def c_slices_Clone_bool : Fun := ⟨141, [], fun ts K => as1 ts fun t0 => arC (pL .bool) t0 fun a => chk (a.length ≤ 2147483647) (K (tL true .bool a) [])⟩
theorem ok_slices_Clone_bool : FunOk Try.prog c_slices_Clone_bool := funOkN (E := []) envOk_nil mixd Try.func141 (pf := pf_slices_Clone_bool) (by kernel_rfl) rfl (Nat.le_of_ble_eq_true (show Nat.ble 1 Try.f141.ntmps = true by kernel_rfl)) fun ts K h => by
  obtain ⟨t0, e0, h⟩ := as1_out h
  subst e0
  obtain ⟨a, e1, h⟩ := arC_out (rd_l .bool) h
  subst e1
  obtain ⟨hpre, h⟩ := chk_o h
  refine ⟨.bool, a, _, rfl, h, 0, fun e => ?_, ?_⟩
  · subst e
    conv => whnf
    exact ⟨rfl, rfl⟩
  · conv => whnf
    repeat' (refine chk_c ?_ ?_ <;> conv => whnf)
    all_goals first
      | (refine ⟨?_⟩; simp; omega)
      | exact ⟨rfl, rfl⟩

def szB (x : Int) (f : Int → Int) : Int := if x < 0 then -1 else f x
theorem szr_le {k : Int} {n : Nat} (h : 0 ≤ k) : szr k n ≤ k := by unfold szr; split <;> omega
theorem szr_ge {k : Int} {n : Nat} : -1 ≤ szr k n := by unfold szr; split <;> omega
theorem szr_n {k : Int} {n : Nat} (h : 0 ≤ szr k n) : (n : Int) ≤ k ∧ szr k n = k - n := by unfold szr at *; split at h <;> omega
def szMem (m : Mem) (k : Int) : Int := szB (szr k m.words.length) fun k => szr k m.gone.length
theorem szB_pos {x : Int} {f : Int → Int} (h : 0 ≤ szB x f) : 0 ≤ x ∧ 0 ≤ f x ∧ szB x f = f x := by
  unfold szB at h ⊢; split at h
  · omega
  · rename_i hx; rw [if_neg hx]; exact ⟨by omega, h, rfl⟩
theorem szMem_pos {m : Mem} {k : Int} (h : 0 ≤ szMem m k) : 0 ≤ szr k m.words.length ∧ 0 ≤ szr (szr k m.words.length) m.gone.length ∧ szMem m k = szr (szr k m.words.length) m.gone.length := szB_pos h
theorem szMem_le {m : Mem} {k : Int} (h : 0 ≤ k) : szMem m k ≤ k := by
  by_cases hp : 0 ≤ szMem m k
  · obtain ⟨h1, h2, h3⟩ := szMem_pos hp
    have := szr_le (n := m.words.length) h; have := szr_le (n := m.gone.length) h1; omega
  · omega
def szTwo (t : Two) (k : Int) : Int := szB (szMem t.mem k) fun k => szB (szr k t.a.regs.length) fun k => szr k t.b.regs.length
def LMem (m : Mem) (n : Nat) : Prop := m.words.length ≤ n ∧ m.gone.length ≤ n
def LTwo (t : Two) (n : Nat) : Prop := LMem t.mem n ∧ t.a.regs.length ≤ n ∧ t.b.regs.length ≤ n
theorem szMem_n {m : Mem} {k : Int} (h0 : k ≤ 1048576) (h : 0 ≤ szMem m k) : LMem m 1048576 ∧ szMem m k ≤ k := by
  obtain ⟨h1, h2, h3⟩ := szMem_pos h
  have h4 := szr_n h1; have h5 := szr_n h2
  exact ⟨⟨by omega, by omega⟩, by omega⟩
theorem szTwo_n {t : Two} {k : Int} (h0 : k ≤ 1048576) (h : 0 ≤ szTwo t k) : LTwo t 1048576 := by
  obtain ⟨h1, h2, _⟩ := szB_pos h
  obtain ⟨h3, h4, _⟩ := szB_pos h2
  have h5 := szMem_n h0 h1; have h6 := szr_n h3; have h7 := szr_n h4
  exact ⟨h5.1, by omega, by omega⟩

def pf_laws_szMemory : PF := ⟨[.t 4], .seq (.reg [.s (.box 2 (.t 0)), .s (.mv 4 (.k (.v (.c (.int .i64 0)))))]) (.seq (.reg [.s (.fa 5 (.t 2) 0), .s (.load 6 false 1 (.t 5)), .s (.mv 7 (.t 1)), .s (.call (some 8) 13 [(.t 6), (.t 7)]), .s (.mv 1 (.t 8))]) (.seq (.seq (.reg [.s (.mv 9 (.t 1)), .s (.bin 10 .lss (.t 9) (.k (.v (.c (.int .i64 0)))))]) (.cond (.t 10) (.seq (.reg [.s (.mv 4 (.k (.v (.c (.int .i64 (-1))))))]) (.ret)) (.skip))) (.seq (.reg [.s (.fa 11 (.t 2) 1), .s (.load 12 false 1 (.t 11)), .s (.mv 13 (.t 1)), .s (.call (some 14) 51 [(.t 12), (.t 13)]), .s (.mv 1 (.t 14))]) (.seq (.seq (.reg [.s (.mv 15 (.t 1)), .s (.bin 16 .lss (.t 15) (.k (.v (.c (.int .i64 0)))))]) (.cond (.t 16) (.seq (.reg [.s (.mv 4 (.k (.v (.c (.int .i64 (-1))))))]) (.ret)) (.skip))) (.seq (.reg [.s (.mv 17 (.t 1)), .s (.mv 4 (.t 17))]) (.ret))))))⟩
def c_laws_szMemory : Fun := ⟨12, [], fun ts K => as2 ts fun t0 t1 => arG pMemT t0 fun m => arC (pI .i64) t1 fun k => chk (LMem m 9223372036854775807 ∧ 0 ≤ k ∧ k ≤ 1048576) (K (tN (szMem m k)) [])⟩
theorem run_laws_szMemory (m : Mem) (k : Int) (hpre : LMem m 9223372036854775807 ∧ 0 ≤ k ∧ k ≤ 1048576) : runK [c_laws_szWordS, c_laws_szBoolS] (0) [] pf_laws_szMemory [tG (m.tc false []), tI .i64 k] fun r o => r = tN (szMem m k) ∧ o = [] := by
  obtain ⟨⟨l1, l2⟩, hk, hk2⟩ := hpre
  have h0 := szr_le (n := m.words.length) hk
  conv => whnf
  refine chk_i ⟨l1, hk, hk2⟩ ?_
  conv => whnf
  refine sel_i (fun h => ?_) (fun h => ?_)
  · conv => whnf
    refine ⟨?_, rfl⟩; simp at h; simp [szMem, szB, h]
  · simp at h
    conv => whnf
    refine chk_i ⟨l2, h, by omega⟩ ?_
    conv => whnf
    refine sel_i (fun h2 => ?_) (fun h2 => ?_) <;> conv => whnf
    · refine ⟨?_, rfl⟩; simp at h2; have := szr_ge (k := szr k m.words.length) (n := m.gone.length); simp [szMem, szB, show ¬ szr k m.words.length < 0 by omega]; omega
    · refine ⟨?_, rfl⟩; simp [szMem, szB, show ¬ szr k m.words.length < 0 by omega]
theorem ok_laws_szMemory : FunOk Try.prog c_laws_szMemory := funOk (E := [c_laws_szWordS, c_laws_szBoolS]) (envOk_cons ok_laws_szWordS (envOk_cons ok_laws_szBoolS (envOk_nil))) mixd Try.func12 (pf := pf_laws_szMemory) (by kernel_rfl) fun ts K h => by
  obtain ⟨t0, t1, e0, h⟩ := as2_out h
  subst e0
  obtain ⟨m, e1, hq⟩ := arG_out rd_mem h
  clear h
  subst e1
  have h := hq
  clear hq
  obtain ⟨k, e1, hq⟩ := arC_out (rd_int .i64) h
  clear h
  subst e1
  have h := hq
  clear hq
  obtain ⟨hpre, h⟩ := chk_o h
  exact ⟨_, _, h, Nat.le_of_ble_eq_true (show Nat.ble 2 Try.f12.ntmps = true by kernel_rfl), _, run_laws_szMemory m k hpre⟩

def pf_laws_szSide : PF := ⟨[.t 4], .seq (.reg [.s (.box 2 (.t 0)), .s (.mv 4 (.k (.v (.c (.int .i64 0)))))]) (.seq (.reg [.s (.fa 5 (.t 2) 0), .s (.load 6 false 1 (.t 5)), .s (.mv 7 (.t 1)), .s (.call (some 8) 13 [(.t 6), (.t 7)]), .s (.mv 1 (.t 8))]) (.seq (.seq (.reg [.s (.mv 9 (.t 1)), .s (.bin 10 .lss (.t 9) (.k (.v (.c (.int .i64 0)))))]) (.cond (.t 10) (.seq (.reg [.s (.mv 4 (.k (.v (.c (.int .i64 (-1))))))]) (.ret)) (.skip))) (.seq (.reg [.s (.mv 11 (.t 1)), .s (.mv 4 (.t 11))]) (.ret))))⟩
def c_laws_szSide : Fun := ⟨76, [], fun ts K => as2 ts fun t0 t1 => arG pSideT t0 fun s => arC (pI .i64) t1 fun k => chk (s.regs.length ≤ 9223372036854775807 ∧ 0 ≤ k ∧ k ≤ 1048576) (K (tN (szr k s.regs.length)) [])⟩
theorem run_laws_szSide (s : Side) (k : Int) (hpre : s.regs.length ≤ 9223372036854775807 ∧ 0 ≤ k ∧ k ≤ 1048576) : runK [c_laws_szWordS] (0) [] pf_laws_szSide [tG (s.tc false []), tI .i64 k] fun r o => r = tN (szr k s.regs.length) ∧ o = [] := by
  conv => whnf
  refine chk_i hpre ?_
  conv => whnf
  refine sel_i (fun h => ?_) (fun h => ?_) <;> conv => whnf
  · refine ⟨?_, rfl⟩; simp at h; have := szr_ge (k := k) (n := s.regs.length); rw [show szr k s.regs.length = -1 by omega]
  · exact ⟨rfl, rfl⟩
theorem ok_laws_szSide : FunOk Try.prog c_laws_szSide := funOk (E := [c_laws_szWordS]) (envOk_cons ok_laws_szWordS (envOk_nil)) mixd Try.func76 (pf := pf_laws_szSide) (by kernel_rfl) fun ts K h => by
  obtain ⟨t0, t1, e0, h⟩ := as2_out h
  subst e0
  obtain ⟨s, e1, hq⟩ := arG_out rd_side h
  clear h
  subst e1
  have h := hq
  clear hq
  obtain ⟨k, e1, hq⟩ := arC_out (rd_int .i64) h
  clear h
  subst e1
  have h := hq
  clear hq
  obtain ⟨hpre, h⟩ := chk_o h
  exact ⟨_, _, h, Nat.le_of_ble_eq_true (show Nat.ble 2 Try.f76.ntmps = true by kernel_rfl), _, run_laws_szSide s k hpre⟩

def pf_laws_szTwo : PF := ⟨[.t 4], .seq (.reg [.s (.box 2 (.t 0)), .s (.mv 4 (.k (.v (.c (.int .i64 0)))))]) (.seq (.reg [.s (.fa 5 (.t 2) 0), .s (.load 6 true 2 (.t 5)), .s (.mv 7 (.t 1)), .s (.call (some 8) 12 [(.t 6), (.t 7)]), .s (.mv 1 (.t 8))]) (.seq (.seq (.reg [.s (.mv 9 (.t 1)), .s (.bin 10 .lss (.t 9) (.k (.v (.c (.int .i64 0)))))]) (.cond (.t 10) (.seq (.reg [.s (.mv 4 (.k (.v (.c (.int .i64 (-1))))))]) (.ret)) (.skip))) (.seq (.reg [.s (.fa 11 (.t 2) 2), .s (.load 12 true 8 (.t 11)), .s (.mv 13 (.t 1)), .s (.call (some 14) 76 [(.t 12), (.t 13)]), .s (.mv 1 (.t 14))]) (.seq (.seq (.reg [.s (.mv 15 (.t 1)), .s (.bin 16 .lss (.t 15) (.k (.v (.c (.int .i64 0)))))]) (.cond (.t 16) (.seq (.reg [.s (.mv 4 (.k (.v (.c (.int .i64 (-1))))))]) (.ret)) (.skip))) (.seq (.reg [.s (.fa 17 (.t 2) 10), .s (.load 18 true 8 (.t 17)), .s (.mv 19 (.t 1)), .s (.call (some 20) 76 [(.t 18), (.t 19)]), .s (.mv 1 (.t 20))]) (.seq (.seq (.reg [.s (.mv 21 (.t 1)), .s (.bin 22 .lss (.t 21) (.k (.v (.c (.int .i64 0)))))]) (.cond (.t 22) (.seq (.reg [.s (.mv 4 (.k (.v (.c (.int .i64 (-1))))))]) (.ret)) (.skip))) (.seq (.reg [.s (.mv 23 (.t 1)), .s (.mv 4 (.t 23))]) (.ret))))))))⟩
def c_laws_szTwo : Fun := ⟨37, [], fun ts K => as2 ts fun t0 t1 => arG pTwoT t0 fun t => arC (pI .i64) t1 fun k => chk (LTwo t 9223372036854775807 ∧ 0 ≤ k ∧ k ≤ 1048576) (K (tN (szTwo t k)) [])⟩
theorem run_laws_szTwo (t : Two) (k : Int) (hpre : LTwo t 9223372036854775807 ∧ 0 ≤ k ∧ k ≤ 1048576) : runK [c_laws_szMemory, c_laws_szSide] (0) [] pf_laws_szTwo [tG (t.tc false []), tI .i64 k] fun r o => r = tN (szTwo t k) ∧ o = [] := by
  obtain ⟨⟨l1, l2, l3⟩, hk, hk2⟩ := hpre
  have h0 := szMem_le (m := t.mem) hk
  conv => whnf
  refine chk_i ⟨l1, hk, hk2⟩ ?_
  conv => whnf
  refine sel_i (fun h => ?_) (fun h => ?_)
  · have h : szMem t.mem k < 0 := by simpa using h
    conv => whnf
    refine ⟨?_, rfl⟩; simp [szTwo, szB, h]
  · have h : 0 ≤ szMem t.mem k := by simpa using h
    have h1 := szr_le (n := t.a.regs.length) h
    conv => whnf
    refine chk_i ⟨l2, h, show szMem t.mem k ≤ _ by omega⟩ ?_
    conv => whnf
    refine sel_i (fun h2 => ?_) (fun h2 => ?_)
    · have h2 : szr (szMem t.mem k) t.a.regs.length < 0 := by simpa using h2
      conv => whnf
      refine ⟨?_, rfl⟩; simp [szTwo, szB, h2, show ¬ szMem t.mem k < 0 by omega]
    · have h2 : 0 ≤ szr (szMem t.mem k) t.a.regs.length := by simpa using h2
      conv => whnf
      refine chk_i ⟨l3, h2, show szr (szMem t.mem k) t.a.regs.length ≤ _ by omega⟩ ?_
      conv => whnf
      have h3 := szr_ge (k := szr (szMem t.mem k) t.a.regs.length) (n := t.b.regs.length)
      refine sel_i (fun h4 => ?_) (fun h4 => ?_) <;> conv => whnf
      · have h4 : szr (szr (szMem t.mem k) t.a.regs.length) t.b.regs.length < 0 := by simpa using h4
        refine ⟨?_, rfl⟩; simp [szTwo, szB, show ¬ szMem t.mem k < 0 by omega, show ¬ szr (szMem t.mem k) t.a.regs.length < 0 by omega]; omega
      · refine ⟨?_, rfl⟩; simp [szTwo, szB, show ¬ szMem t.mem k < 0 by omega, show ¬ szr (szMem t.mem k) t.a.regs.length < 0 by omega]
theorem ok_laws_szTwo : FunOk Try.prog c_laws_szTwo := funOk (E := [c_laws_szMemory, c_laws_szSide]) (envOk_cons ok_laws_szMemory (envOk_cons ok_laws_szSide (envOk_nil))) mixd Try.func37 (pf := pf_laws_szTwo) (by kernel_rfl) fun ts K h => by
  obtain ⟨t0, t1, e0, h⟩ := as2_out h
  subst e0
  obtain ⟨t, e1, hq⟩ := arG_out rd_two h
  clear h
  subst e1
  have h := hq
  clear hq
  obtain ⟨k, e1, hq⟩ := arC_out (rd_int .i64) h
  clear h
  subst e1
  have h := hq
  clear hq
  obtain ⟨hpre, h⟩ := chk_o h
  exact ⟨_, _, h, Nat.le_of_ble_eq_true (show Nat.ble 2 Try.f37.ntmps = true by kernel_rfl), _, run_laws_szTwo t k hpre⟩

def pf_laws_toMemory : PF := ⟨[.c 2 true 2], .seq (.reg [.s (.box 1 (.t 0)), .s (.alloc 2 [.nils .word, .nils .bool])]) (.seq (.reg [.s (.alloc 3 [.nils .word, .nils .bool])]) (.seq (.reg [.s (.fa 4 (.t 1) 0), .s (.load 5 false 1 (.t 4)), .s (.call (some 6) 16 [(.t 5)]), .s (.fa 7 (.t 3) 0), .s (.store 1 (.t 7) (.t 6))]) (.seq (.reg [.s (.fa 8 (.t 1) 1), .s (.load 9 false 1 (.t 8)), .s (.call (some 10) 56 [(.t 9)]), .s (.fa 11 (.t 3) 1), .s (.store 1 (.t 11) (.t 10))]) (.seq (.reg [.s (.load 12 true 2 (.t 3)), .s (.store 2 (.t 2) (.t 12))]) (.ret)))))⟩
def c_laws_toMemory : Fun := ⟨15, [], fun ts K => as1 ts fun t0 => arG pMemT t0 fun m => chk (LMem m 2147483647) (K (tG (m.tc true [])) [])⟩
theorem run_laws_toMemory (m : Mem) (hpre : LMem m 2147483647) : runK [c_laws_toWordS, c_laws_toBoolS] (0) [] pf_laws_toMemory [tG (m.tc false [])] fun r o => r = tG (m.tc true []) ∧ o = [] := by
  obtain ⟨l1, l2⟩ := hpre
  conv => whnf
  repeat' (first | (refine chk_c ?_ ?_ <;> conv => whnf) | (refine And.intro ?_ ?_ <;> conv => whnf))
  all_goals first
    | (refine ⟨?_⟩; omega)
    | (refine ⟨?_⟩; simp; done)
    | (refine ⟨?_⟩; simp [LMem, LTwo] at *; omega)
    | rfl
    | exact True.intro
    | exact ⟨rfl, rfl⟩
theorem ok_laws_toMemory : FunOk Try.prog c_laws_toMemory := funOk (E := [c_laws_toWordS, c_laws_toBoolS]) (envOk_cons ok_laws_toWordS (envOk_cons ok_laws_toBoolS (envOk_nil))) mixd Try.func15 (pf := pf_laws_toMemory) (by kernel_rfl) fun ts K h => by
  obtain ⟨t0, e0, h⟩ := as1_out h
  subst e0
  obtain ⟨m, e1, hq⟩ := arG_out rd_mem h
  clear h
  subst e1
  have h := hq
  clear hq
  obtain ⟨hpre, h⟩ := chk_o h
  exact ⟨_, _, h, Nat.le_of_ble_eq_true (show Nat.ble 1 Try.f15.ntmps = true by kernel_rfl), _, run_laws_toMemory m hpre⟩

def pf_laws_toSide : PF := ⟨[.c 2 true 8], .seq (.reg [.s (.box 1 (.t 0)), .s (.alloc 2 [.nils .word, .int .i64 0, .ff, .int .i64 0, .int .i64 0, .int .i64 0, .int .i64 0, .int .i64 0])]) (.seq (.reg [.s (.alloc 3 [.nils .word, .int .i64 0, .ff, .int .i64 0, .int .i64 0, .int .i64 0, .int .i64 0, .int .i64 0])]) (.seq (.reg [.s (.fa 4 (.t 1) 0), .s (.load 5 false 1 (.t 4)), .s (.call (some 6) 16 [(.t 5)]), .s (.fa 7 (.t 3) 0), .s (.store 1 (.t 7) (.t 6))]) (.seq (.reg [.s (.fa 8 (.t 1) 1), .s (.load 9 true 6 (.t 8)), .s (.call (some 10) 57 [(.t 9)]), .s (.fa 11 (.t 3) 1), .s (.store 6 (.t 11) (.t 10))]) (.seq (.reg [.s (.fa 12 (.t 1) 7), .s (.load 13 false 1 (.t 12)), .s (.fa 14 (.t 3) 7), .s (.store 1 (.t 14) (.t 13))]) (.seq (.reg [.s (.load 15 true 8 (.t 3)), .s (.store 8 (.t 2) (.t 15))]) (.ret))))))⟩
def c_laws_toSide : Fun := ⟨81, [], fun ts K => as1 ts fun t0 => arG pSideT t0 fun s => chk (s.regs.length ≤ 2147483647) (K (tG (s.tc true [])) [])⟩
theorem run_laws_toSide (s : Side) (hpre : s.regs.length ≤ 2147483647) : runK [c_laws_toWordS, c_laws_toWord] (0) [] pf_laws_toSide [tG (s.tc false [])] fun r o => r = tG (s.tc true []) ∧ o = [] := by
  conv => whnf
  repeat' (first | (refine chk_c ?_ ?_ <;> conv => whnf) | (refine And.intro ?_ ?_ <;> conv => whnf))
  all_goals first
    | (refine ⟨?_⟩; omega)
    | (refine ⟨?_⟩; simp; done)
    | (refine ⟨?_⟩; simp [LMem, LTwo] at *; omega)
    | rfl
    | exact True.intro
    | exact ⟨rfl, rfl⟩
theorem ok_laws_toSide : FunOk Try.prog c_laws_toSide := funOk (E := [c_laws_toWordS, c_laws_toWord]) (envOk_cons ok_laws_toWordS (envOk_cons ok_laws_toWord (envOk_nil))) mixd Try.func81 (pf := pf_laws_toSide) (by kernel_rfl) fun ts K h => by
  obtain ⟨t0, e0, h⟩ := as1_out h
  subst e0
  obtain ⟨s, e1, hq⟩ := arG_out rd_side h
  clear h
  subst e1
  have h := hq
  clear hq
  obtain ⟨hpre, h⟩ := chk_o h
  exact ⟨_, _, h, Nat.le_of_ble_eq_true (show Nat.ble 1 Try.f81.ntmps = true by kernel_rfl), _, run_laws_toSide s hpre⟩

def pf_laws_toTwo : PF := ⟨[.c 2 true 18], .seq (.reg [.s (.box 1 (.t 0)), .s (.alloc 2 [.nils .word, .nils .bool, .nils .word, .int .i64 0, .ff, .int .i64 0, .int .i64 0, .int .i64 0, .int .i64 0, .int .i64 0, .nils .word, .int .i64 0, .ff, .int .i64 0, .int .i64 0, .int .i64 0, .int .i64 0, .int .i64 0])]) (.seq (.reg [.s (.alloc 3 [.nils .word, .nils .bool, .nils .word, .int .i64 0, .ff, .int .i64 0, .int .i64 0, .int .i64 0, .int .i64 0, .int .i64 0, .nils .word, .int .i64 0, .ff, .int .i64 0, .int .i64 0, .int .i64 0, .int .i64 0, .int .i64 0])]) (.seq (.reg [.s (.fa 4 (.t 1) 0), .s (.load 5 true 2 (.t 4)), .s (.call (some 6) 15 [(.t 5)]), .s (.fa 7 (.t 3) 0), .s (.store 2 (.t 7) (.t 6))]) (.seq (.reg [.s (.fa 8 (.t 1) 2), .s (.load 9 true 8 (.t 8)), .s (.call (some 10) 81 [(.t 9)]), .s (.fa 11 (.t 3) 2), .s (.store 8 (.t 11) (.t 10))]) (.seq (.reg [.s (.fa 12 (.t 1) 10), .s (.load 13 true 8 (.t 12)), .s (.call (some 14) 81 [(.t 13)]), .s (.fa 15 (.t 3) 10), .s (.store 8 (.t 15) (.t 14))]) (.seq (.reg [.s (.load 16 true 18 (.t 3)), .s (.store 18 (.t 2) (.t 16))]) (.ret))))))⟩
def c_laws_toTwo : Fun := ⟨39, [], fun ts K => as1 ts fun t0 => arG pTwoT t0 fun t => chk (LTwo t 2147483647) (K (tG (t.tc true [])) [])⟩
theorem run_laws_toTwo (t : Two) (hpre : LTwo t 2147483647) : runK [c_laws_toMemory, c_laws_toSide] (0) [] pf_laws_toTwo [tG (t.tc false [])] fun r o => r = tG (t.tc true []) ∧ o = [] := by
  obtain ⟨⟨l1, l4⟩, l2, l3⟩ := hpre
  conv => whnf
  repeat' (first | (refine chk_c ?_ ?_ <;> conv => whnf) | (refine And.intro ?_ ?_ <;> conv => whnf))
  all_goals first
    | (refine ⟨?_⟩; omega)
    | (refine ⟨?_⟩; simp; done)
    | (refine ⟨?_⟩; simp [LMem, LTwo] at *; omega)
    | rfl
    | exact True.intro
    | exact ⟨rfl, rfl⟩
theorem ok_laws_toTwo : FunOk Try.prog c_laws_toTwo := funOk (E := [c_laws_toMemory, c_laws_toSide]) (envOk_cons ok_laws_toMemory (envOk_cons ok_laws_toSide (envOk_nil))) mixd Try.func39 (pf := pf_laws_toTwo) (by kernel_rfl) fun ts K h => by
  obtain ⟨t0, e0, h⟩ := as1_out h
  subst e0
  obtain ⟨t, e1, hq⟩ := arG_out rd_two h
  clear h
  subst e1
  have h := hq
  clear hq
  obtain ⟨hpre, h⟩ := chk_o h
  exact ⟨_, _, h, Nat.le_of_ble_eq_true (show Nat.ble 1 Try.f39.ntmps = true by kernel_rfl), _, run_laws_toTwo t hpre⟩

def pf_spec_l8Copy : PF := ⟨[.c 2 true 2], .seq (.reg [.s (.box 1 (.t 0)), .s (.alloc 2 [.nils .word, .nils .bool])]) (.seq (.rgd [.s (.bs 3 .word []), .s (.fa 4 (.t 1) 0), .s (.load 5 false 1 (.t 4)), .s (.app 6 .word (.t 3) (.t 5)), .s (.bs 7 .bool []), .s (.fa 8 (.t 1) 1), .s (.load 9 false 1 (.t 8)), .s (.app 10 .bool (.t 7) (.t 9)), .s (.build 11 [.nils .word, .nils .bool] [(0, 1, (.t 6)), (1, 1, (.t 10))]), .s (.store 2 (.t 2) (.t 11))] (.tk 1 (.tk 2 (.tk 5 (.tk 6 (.alt 0 (.alt 3 (.one 4 false (.one 7 true (.tk 8 (.one 9 true (.done (some [2])))))) (.alt 4 (.one 3 false (.one 7 true (.tk 8 (.one 9 true (.done (some [2])))))) (.nil))) (.alt 4 (.one 0 false (.one 3 false (.one 7 true (.tk 8 (.one 9 true (.done (some [2]))))))) (.nil)))))))) (.ret))⟩
def c_spec_l8Copy : Fun := ⟨125, [], fun ts K => as1 ts fun t0 => arG pMemT t0 fun m => chk (LMem m 2147483647) (K (tG (m.tc true [])) [])⟩
theorem run_spec_l8Copy (m : Mem) (hpre : LMem m 2147483647) : runK [] (0) [] pf_spec_l8Copy [tG (m.tc false [])] fun r o => r = tG (m.tc true []) ∧ o = [] := by
  obtain ⟨l1, l2⟩ := hpre
  conv => whnf
  repeat' (first | (refine chk_c ?_ ?_ <;> conv => whnf) | (refine And.intro ?_ ?_ <;> conv => whnf))
  all_goals first
    | (refine ⟨?_⟩; omega)
    | (refine ⟨?_⟩; simp; done)
    | (refine ⟨?_⟩; simp [LMem, LTwo] at *; omega)
    | rfl
    | exact True.intro
    | exact ⟨rfl, rfl⟩
theorem ok_spec_l8Copy : FunOk Try.prog c_spec_l8Copy := funOk (E := []) (envOk_nil) mixd Try.func125 (pf := pf_spec_l8Copy) (by kernel_rfl) fun ts K h => by
  obtain ⟨t0, e0, h⟩ := as1_out h
  subst e0
  obtain ⟨m, e1, hq⟩ := arG_out rd_mem h
  clear h
  subst e1
  have h := hq
  clear hq
  obtain ⟨hpre, h⟩ := chk_o h
  exact ⟨_, _, h, Nat.le_of_ble_eq_true (show Nat.ble 1 Try.f125.ntmps = true by kernel_rfl), _, run_spec_l8Copy m hpre⟩

def pf_impl_cloneMemory : PF := ⟨[.c 2 true 2], .seq (.reg [.s (.box 1 (.t 0)), .s (.alloc 2 [.nils .word, .nils .bool])]) (.seq (.rgd [.s (.fa 3 (.t 1) 0), .s (.load 4 false 1 (.t 3)), .s (.call (some 5) 91 [(.t 4)]), .s (.fa 6 (.t 1) 1), .s (.load 7 false 1 (.t 6)), .s (.call (some 8) 141 [(.t 7)]), .s (.build 9 [.nils .word, .nils .bool] [(0, 1, (.t 5)), (1, 1, (.t 8))]), .s (.store 2 (.t 2) (.t 9))] (.tk 0 (.tk 1 (.tk 3 (.tk 4 (.one 2 false (.one 5 true (.tk 6 (.one 7 true (.done none)))))))))) (.ret))⟩
def c_impl_cloneMemory : Fun := ⟨127, [], fun ts K => as1 ts fun t0 => arG pMemT t0 fun m => chk (LMem m 2147483647) (K (tG (m.tc true [])) [])⟩
theorem run_impl_cloneMemory (m : Mem) (hpre : LMem m 2147483647) : runK [c_slices_Clone_Word, c_slices_Clone_bool] (0) [] pf_impl_cloneMemory [tG (m.tc false [])] fun r o => r = tG (m.tc true []) ∧ o = [] := by
  obtain ⟨l1, l2⟩ := hpre
  conv => whnf
  repeat' (first | (refine chk_c ?_ ?_ <;> conv => whnf) | (refine And.intro ?_ ?_ <;> conv => whnf))
  all_goals first
    | (refine ⟨?_⟩; omega)
    | (refine ⟨?_⟩; simp; done)
    | (refine ⟨?_⟩; simp [LMem, LTwo] at *; omega)
    | rfl
    | exact True.intro
    | exact ⟨rfl, rfl⟩
theorem ok_impl_cloneMemory : FunOk Try.prog c_impl_cloneMemory := funOk (E := [c_slices_Clone_Word, c_slices_Clone_bool]) (envOk_cons ok_slices_Clone_Word (envOk_cons ok_slices_Clone_bool (envOk_nil))) mixd Try.func127 (pf := pf_impl_cloneMemory) (by kernel_rfl) fun ts K h => by
  obtain ⟨t0, e0, h⟩ := as1_out h
  subst e0
  obtain ⟨m, e1, hq⟩ := arG_out rd_mem h
  clear h
  subst e1
  have h := hq
  clear hq
  obtain ⟨hpre, h⟩ := chk_o h
  exact ⟨_, _, h, Nat.le_of_ble_eq_true (show Nat.ble 1 Try.f127.ntmps = true by kernel_rfl), _, run_impl_cloneMemory m hpre⟩

def sideState (t : Two) (who : Int) : State :=
  if who = 0 then ⟨t.a.regs, t.a.pc, t.mem, t.a.trap⟩ else if who = 1 then ⟨t.b.regs, t.b.pc, t.mem, t.b.trap⟩ else ⟨[], ⟨0, false, ⟨0, 0, 0, 0⟩⟩, ⟨[], []⟩, 0⟩

theorem sideState_0 {t : Two} {who : Int} (h : who = 0) : sideState t who = ⟨t.a.regs, t.a.pc, t.mem, t.a.trap⟩ := by simp [sideState, h]
theorem sideState_1 {t : Two} {who : Int} (h : who = 1) : sideState t who = ⟨t.b.regs, t.b.pc, t.mem, t.b.trap⟩ := by simp [sideState, h]
theorem sideState_x {t : Two} {who : Int} (h : who ≠ 0) (h1 : who ≠ 1) : sideState t who = ⟨[], ⟨0, false, ⟨0, 0, 0, 0⟩⟩, ⟨[], []⟩, 0⟩ := by simp [sideState, h, h1]
theorem sideState_len {t : Two} {who : Int} {n : Nat} (h : LTwo t n) : (sideState t who).regs.length ≤ n ∧ LMem (sideState t who).mem n := by
  obtain ⟨⟨l1, l4⟩, l2, l3⟩ := h
  unfold sideState
  split
  · exact ⟨l2, l1, l4⟩
  · split
    · exact ⟨l3, l1, l4⟩
    · exact ⟨Nat.zero_le _, Nat.zero_le _, Nat.zero_le _⟩

def pf_spec_SideState : PF := ⟨[.c 4 true 10], .seq (.reg [.s (.box 2 (.t 0)), .s (.alloc 4 [.nils .word, .int .i64 0, .ff, .int .i64 0, .int .i64 0, .int .i64 0, .int .i64 0, .nils .word, .nils .bool, .int .i64 0])]) (.seq (.seq (.reg [.s (.mv 6 (.t 1)), .s (.call (some 7) 101 [(.t 6), (.k (.v (.c (.int .i64 0)))), (.k (.v (.c (.int .i64 1))))]), .s (.bnot 8 (.t 7))]) (.cond (.t 8) (.seq (.reg [.s (.build 9 [.nils .word, .int .i64 0, .ff, .int .i64 0, .int .i64 0, .int .i64 0, .int .i64 0, .nils .word, .nils .bool, .int .i64 0] []), .s (.store 10 (.t 4) (.t 9))]) (.ret)) (.skip))) (.seq (.reg [.s (.fa 10 (.t 2) 2), .s (.load 11 true 8 (.t 10)), .s (.alloc 5 [.nils .word, .int .i64 0, .ff, .int .i64 0, .int .i64 0, .int .i64 0, .int .i64 0, .int .i64 0]), .s (.store 8 (.t 5) (.t 11))]) (.seq (.seq (.reg [.s (.mv 12 (.t 1)), .s (.bin 13 .eql (.t 12) (.k (.v (.c (.int .i64 1)))))]) (.cond (.t 13) (.reg [.s (.fa 14 (.t 2) 10), .s (.load 15 true 8 (.t 14)), .s (.store 8 (.t 5) (.t 15))]) (.skip))) (.seq (.rgd [.s (.bs 16 .word []), .s (.fa 17 (.t 5) 0), .s (.load 18 false 1 (.t 17)), .s (.app 19 .word (.t 16) (.t 18)), .s (.fa 20 (.t 5) 1), .s (.load 21 true 6 (.t 20)), .s (.fa 22 (.t 2) 0), .s (.load 23 true 2 (.t 22)), .s (.call (some 24) 125 [(.t 23)]), .s (.fa 25 (.t 5) 7), .s (.load 26 false 1 (.t 25)), .s (.build 27 [.nils .word, .int .i64 0, .ff, .int .i64 0, .int .i64 0, .int .i64 0, .int .i64 0, .nils .word, .nils .bool, .int .i64 0] [(0, 1, (.t 19)), (1, 6, (.t 21)), (7, 2, (.t 24)), (9, 1, (.t 26))]), .s (.store 10 (.t 4) (.t 27))] (.tk 1 (.tk 2 (.tk 4 (.tk 5 (.tk 6 (.tk 7 (.tk 9 (.tk 10 (.one 0 false (.one 3 false (.one 8 false (.tk 11 (.one 12 true (.done none))))))))))))))) (.ret)))))⟩
def c_spec_SideState : Fun := ⟨118, [], fun ts K => as2 ts fun t0 t1 => arG pTwoT t0 fun t => arC (pI .i64) t1 fun who => chk (LTwo t 2147483647) (K (tG ((sideState t who).tc true [])) [])⟩
theorem run_spec_SideState (t : Two) (who : Int) (hpre : LTwo t 2147483647) : runK [c_spec_l1In, c_spec_l8Copy] (0) [] pf_spec_SideState [tG (t.tc false []), tI .i64 who] fun r o => r = tG ((sideState t who).tc true []) ∧ o = [] := by
  obtain ⟨⟨l1, l4⟩, l2, l3⟩ := hpre
  conv => whnf
  refine sel_i (fun h => ?_) (fun h => ?_)
  · rw [sideState_x (by rintro rfl; simp [inR] at h) (by rintro rfl; simp [inR] at h)]
    conv => whnf
    exact ⟨rfl, rfl⟩
  · conv => whnf
    refine sel_i (fun h2 => ?_) (fun h2 => ?_)
    · rw [sideState_1 (by simpa using h2)]
      conv => whnf
      repeat' (first | (refine chk_c ?_ ?_ <;> conv => whnf) | (refine And.intro ?_ ?_ <;> conv => whnf))
      all_goals first
        | (refine ⟨?_⟩; omega)
        | (refine ⟨?_⟩; simp; done)
        | (refine ⟨?_⟩; simp [LMem, LTwo] at *; omega)
        | rfl
        | exact True.intro
        | exact ⟨rfl, rfl⟩
    · have h2 : who ≠ 1 := by simpa using h2
      rw [sideState_0 (by simp [inR] at h; omega)]
      conv => whnf
      repeat' (first | (refine chk_c ?_ ?_ <;> conv => whnf) | (refine And.intro ?_ ?_ <;> conv => whnf))
      all_goals first
        | (refine ⟨?_⟩; omega)
        | (refine ⟨?_⟩; simp; done)
        | (refine ⟨?_⟩; simp [LMem, LTwo] at *; omega)
        | rfl
        | exact True.intro
        | exact ⟨rfl, rfl⟩
theorem ok_spec_SideState : FunOk Try.prog c_spec_SideState := funOk (E := [c_spec_l1In, c_spec_l8Copy]) (envOk_cons ok_spec_l1In (envOk_cons ok_spec_l8Copy (envOk_nil))) mixd Try.func118 (pf := pf_spec_SideState) (by kernel_rfl) fun ts K h => by
  obtain ⟨t0, t1, e0, h⟩ := as2_out h
  subst e0
  obtain ⟨t, e1, hq⟩ := arG_out rd_two h
  clear h
  subst e1
  have h := hq
  clear hq
  obtain ⟨who, e1, hq⟩ := arC_out (rd_int .i64) h
  clear h
  subst e1
  have h := hq
  clear hq
  obtain ⟨hpre, h⟩ := chk_o h
  exact ⟨_, _, h, Nat.le_of_ble_eq_true (show Nat.ble 2 Try.f118.ntmps = true by kernel_rfl), _, run_spec_SideState t who hpre⟩

def pf_impl_SideState : PF := ⟨[.c 4 true 10], .seq (.reg [.s (.box 2 (.t 0)), .s (.alloc 4 [.nils .word, .int .i64 0, .ff, .int .i64 0, .int .i64 0, .int .i64 0, .int .i64 0, .nils .word, .nils .bool, .int .i64 0])]) (.seq (.reg [.s (.fa 6 (.t 2) 2), .s (.load 7 true 8 (.t 6)), .s (.alloc 5 [.nils .word, .int .i64 0, .ff, .int .i64 0, .int .i64 0, .int .i64 0, .int .i64 0, .int .i64 0]), .s (.store 8 (.t 5) (.t 7))]) (.seq (.seq (.reg [.s (.mv 8 (.t 1))]) (.blk 0 (.seq (.reg [.s (.bin 11 .eql (.t 8) (.k (.v (.c (.int .i64 0))))), .s (.mv 10 (.t 11))]) (.cond (.t 10) (.skip) (.seq (.reg [.s (.bin 13 .eql (.t 8) (.k (.v (.c (.int .i64 1))))), .s (.mv 12 (.t 13))]) (.cond (.t 12) (.reg [.s (.fa 14 (.t 2) 10), .s (.load 15 true 8 (.t 14)), .s (.store 8 (.t 5) (.t 15))]) (.seq (.reg [.s (.build 9 [.nils .word, .int .i64 0, .ff, .int .i64 0, .int .i64 0, .int .i64 0, .int .i64 0, .nils .word, .nils .bool, .int .i64 0] []), .s (.store 10 (.t 4) (.t 9))]) (.ret)))))))) (.seq (.rgd [.s (.fa 16 (.t 5) 0), .s (.load 17 false 1 (.t 16)), .s (.call (some 18) 91 [(.t 17)]), .s (.fa 19 (.t 5) 1), .s (.load 20 true 6 (.t 19)), .s (.fa 21 (.t 2) 0), .s (.load 22 true 2 (.t 21)), .s (.call (some 23) 127 [(.t 22)]), .s (.fa 24 (.t 5) 7), .s (.load 25 false 1 (.t 24)), .s (.build 26 [.nils .word, .int .i64 0, .ff, .int .i64 0, .int .i64 0, .int .i64 0, .int .i64 0, .nils .word, .nils .bool, .int .i64 0] [(0, 1, (.t 18)), (1, 6, (.t 20)), (7, 2, (.t 23)), (9, 1, (.t 25))]), .s (.store 10 (.t 4) (.t 26))] (.tk 0 (.tk 1 (.tk 3 (.tk 4 (.tk 5 (.tk 6 (.tk 8 (.tk 9 (.one 2 false (.one 7 false (.tk 10 (.one 11 true (.done none)))))))))))))) (.ret))))⟩
def c_impl_SideState : Fun := ⟨120, [], fun ts K => as2 ts fun t0 t1 => arG pTwoT t0 fun t => arC (pI .i64) t1 fun who => chk (LTwo t 2147483647) (K (tG ((sideState t who).tc true [])) [])⟩
theorem run_impl_SideState (t : Two) (who : Int) (hpre : LTwo t 2147483647) : runK [c_slices_Clone_Word, c_impl_cloneMemory] (0) [] pf_impl_SideState [tG (t.tc false []), tI .i64 who] fun r o => r = tG ((sideState t who).tc true []) ∧ o = [] := by
  obtain ⟨⟨l1, l4⟩, l2, l3⟩ := hpre
  conv => whnf
  refine sel_i (fun h => ?_) (fun h => ?_)
  · rw [sideState_0 (by simpa using h)]
    conv => whnf
    repeat' (first | (refine chk_c ?_ ?_ <;> conv => whnf) | (refine And.intro ?_ ?_ <;> conv => whnf))
    all_goals first
      | (refine ⟨?_⟩; omega)
      | (refine ⟨?_⟩; simp; done)
      | (refine ⟨?_⟩; simp [LMem, LTwo] at *; omega)
      | rfl
      | exact True.intro
      | exact ⟨rfl, rfl⟩
  · conv => whnf
    refine sel_i (fun h2 => ?_) (fun h2 => ?_)
    · rw [sideState_1 (by simpa using h2)]
      conv => whnf
      repeat' (first | (refine chk_c ?_ ?_ <;> conv => whnf) | (refine And.intro ?_ ?_ <;> conv => whnf))
      all_goals first
        | (refine ⟨?_⟩; omega)
        | (refine ⟨?_⟩; simp; done)
        | (refine ⟨?_⟩; simp [LMem, LTwo] at *; omega)
        | rfl
        | exact True.intro
        | exact ⟨rfl, rfl⟩
    · rw [sideState_x (by simpa using h) (by simpa using h2)]
      conv => whnf
      repeat' (first | (refine chk_c ?_ ?_ <;> conv => whnf) | (refine And.intro ?_ ?_ <;> conv => whnf))
      all_goals first
        | (refine ⟨?_⟩; omega)
        | (refine ⟨?_⟩; simp; done)
        | (refine ⟨?_⟩; simp [LMem, LTwo] at *; omega)
        | rfl
        | exact True.intro
        | exact ⟨rfl, rfl⟩
theorem ok_impl_SideState : FunOk Try.prog c_impl_SideState := funOk (E := [c_slices_Clone_Word, c_impl_cloneMemory]) (envOk_cons ok_slices_Clone_Word (envOk_cons ok_impl_cloneMemory (envOk_nil))) mixd Try.func120 (pf := pf_impl_SideState) (by kernel_rfl) fun ts K h => by
  obtain ⟨t0, t1, e0, h⟩ := as2_out h
  subst e0
  obtain ⟨t, e1, hq⟩ := arG_out rd_two h
  clear h
  subst e1
  have h := hq
  clear hq
  obtain ⟨who, e1, hq⟩ := arC_out (rd_int .i64) h
  clear h
  subst e1
  have h := hq
  clear hq
  obtain ⟨hpre, h⟩ := chk_o h
  exact ⟨_, _, h, Nat.le_of_ble_eq_true (show Nat.ble 2 Try.f120.ntmps = true by kernel_rfl), _, run_impl_SideState t who hpre⟩

def LState (s : State) (n : Nat) : Prop := s.regs.length ≤ n ∧ LMem s.mem n

def pf_laws_eqSide : PF := ⟨[.t 4], .seq (.reg [.s (.box 2 (.t 0)), .s (.box 3 (.t 1)), .s (.mv 4 (.k (.v (.c .ff))))]) (.seq (.seq (.reg [.s (.fa 5 (.t 2) 0), .s (.load 6 false 1 (.t 5)), .s (.fa 7 (.t 3) 0), .s (.load 8 false 1 (.t 7)), .s (.call (some 9) 18 [(.t 6), (.t 8)]), .s (.bnot 10 (.t 9))]) (.cond (.t 10) (.seq (.reg [.s (.mv 4 (.k (.v (.c .ff))))]) (.ret)) (.skip))) (.seq (.seq (.reg [.s (.fa 11 (.t 2) 1), .s (.load 12 true 6 (.t 11)), .s (.fa 13 (.t 3) 1), .s (.load 14 true 6 (.t 13)), .s (.call (some 15) 50 [(.t 12), (.t 14)]), .s (.bnot 16 (.t 15))]) (.cond (.t 16) (.seq (.reg [.s (.mv 4 (.k (.v (.c .ff))))]) (.ret)) (.skip))) (.seq (.seq (.reg [.s (.fa 17 (.t 2) 7), .s (.load 18 false 1 (.t 17)), .s (.fa 19 (.t 3) 7), .s (.load 20 false 1 (.t 19)), .s (.bin 21 .neq (.t 18) (.t 20))]) (.cond (.t 21) (.seq (.reg [.s (.mv 4 (.k (.v (.c .ff))))]) (.ret)) (.skip))) (.seq (.reg [.s (.mv 4 (.k (.v (.c .tt))))]) (.ret)))))⟩
def c_laws_eqSide : Fun := ⟨86, [], fun ts K => as2 ts fun t0 t1 => arG pSideT t0 fun a => arG pSideT t1 fun b => chk (a.regs.length ≤ 2147483647) (K (tB (decide (a = b))) [])⟩
theorem run_laws_eqSide (a : Side) (b : Side) (hpre : a.regs.length ≤ 2147483647) : runK [c_laws_eqWordS, c_laws_eqWord] (0) [] pf_laws_eqSide [tG (a.tc false []), tG (b.tc false [])] fun r o => r = tB (decide (a = b)) ∧ o = [] := by
  obtain ⟨a1, ⟨a2n, a2i, ⟨a2a, a2b, a2c, a2d⟩⟩, a4⟩ := a
  obtain ⟨b1, ⟨b2n, b2i, ⟨b2a, b2b, b2c, b2d⟩⟩, b4⟩ := b
  dsimp only at hpre
  conv => whnf
  repeat' (first | (refine sel_i (fun h => ?_) (fun h => ?_) <;> conv => whnf) | (refine chk_c ?_ ?_ <;> conv => whnf))
  all_goals first
    | (refine ⟨?_⟩; assumption)
    | (refine ⟨?_, rfl⟩; simp_all; done)
    | (refine ⟨?_, rfl⟩; simp_all; intros; simp_all; done)
theorem ok_laws_eqSide : FunOk Try.prog c_laws_eqSide := funOk (E := [c_laws_eqWordS, c_laws_eqWord]) (envOk_cons ok_laws_eqWordS (envOk_cons ok_laws_eqWord (envOk_nil))) mixd Try.func86 (pf := pf_laws_eqSide) (by kernel_rfl) fun ts K h => by
  obtain ⟨t0, t1, e0, h⟩ := as2_out h
  subst e0
  obtain ⟨a, e1, hq⟩ := arG_out rd_side h
  clear h
  subst e1
  have h := hq
  clear hq
  obtain ⟨b, e1, hq⟩ := arG_out rd_side h
  clear h
  subst e1
  have h := hq
  clear hq
  obtain ⟨hpre, h⟩ := chk_o h
  exact ⟨_, _, h, Nat.le_of_ble_eq_true (show Nat.ble 2 Try.f86.ntmps = true by kernel_rfl), _, run_laws_eqSide a b hpre⟩

def pf_laws_eqTwo : PF := ⟨[.t 4], .seq (.reg [.s (.box 2 (.t 0)), .s (.box 3 (.t 1)), .s (.mv 4 (.k (.v (.c .ff))))]) (.seq (.seq (.reg [.s (.fa 5 (.t 2) 0), .s (.load 6 true 2 (.t 5)), .s (.fa 7 (.t 3) 0), .s (.load 8 true 2 (.t 7)), .s (.call (some 9) 19 [(.t 6), (.t 8)]), .s (.bnot 10 (.t 9))]) (.cond (.t 10) (.seq (.reg [.s (.mv 4 (.k (.v (.c .ff))))]) (.ret)) (.skip))) (.seq (.seq (.reg [.s (.fa 11 (.t 2) 2), .s (.load 12 true 8 (.t 11)), .s (.fa 13 (.t 3) 2), .s (.load 14 true 8 (.t 13)), .s (.call (some 15) 86 [(.t 12), (.t 14)]), .s (.bnot 16 (.t 15))]) (.cond (.t 16) (.seq (.reg [.s (.mv 4 (.k (.v (.c .ff))))]) (.ret)) (.skip))) (.seq (.seq (.reg [.s (.fa 17 (.t 2) 10), .s (.load 18 true 8 (.t 17)), .s (.fa 19 (.t 3) 10), .s (.load 20 true 8 (.t 19)), .s (.call (some 21) 86 [(.t 18), (.t 20)]), .s (.bnot 22 (.t 21))]) (.cond (.t 22) (.seq (.reg [.s (.mv 4 (.k (.v (.c .ff))))]) (.ret)) (.skip))) (.seq (.reg [.s (.mv 4 (.k (.v (.c .tt))))]) (.ret)))))⟩
def c_laws_eqTwo : Fun := ⟨41, [], fun ts K => as2 ts fun t0 t1 => arG pTwoT t0 fun a => arG pTwoT t1 fun b => chk (LTwo a 2147483647) (K (tB (decide (a = b))) [])⟩
theorem run_laws_eqTwo (a : Two) (b : Two) (hpre : LTwo a 2147483647) : runK [c_laws_eqMemory, c_laws_eqSide] (0) [] pf_laws_eqTwo [tG (a.tc false []), tG (b.tc false [])] fun r o => r = tB (decide (a = b)) ∧ o = [] := by
  obtain ⟨⟨l1, l4⟩, l2, l3⟩ := hpre
  obtain ⟨⟨a1, a4⟩, ⟨a2, ⟨a5n, a5i, ⟨a5a, a5b, a5c, a5d⟩⟩, a6⟩, ⟨a3, ⟨a7n, a7i, ⟨a7a, a7b, a7c, a7d⟩⟩, a8⟩⟩ := a
  obtain ⟨⟨b1, b4⟩, ⟨b2, ⟨b5n, b5i, ⟨b5a, b5b, b5c, b5d⟩⟩, b6⟩, ⟨b3, ⟨b7n, b7i, ⟨b7a, b7b, b7c, b7d⟩⟩, b8⟩⟩ := b
  dsimp only at l1 l2 l3 l4
  conv => whnf
  repeat' (first | (refine sel_i (fun h => ?_) (fun h => ?_) <;> conv => whnf) | (refine chk_c ?_ ?_ <;> conv => whnf))
  all_goals first
    | (refine ⟨?_⟩; assumption)
    | (refine ⟨?_⟩; exact ⟨by assumption, by assumption⟩)
    | (refine ⟨?_, rfl⟩; simp_all; done)
    | (refine ⟨?_, rfl⟩; simp_all; intros; simp_all; done)
theorem ok_laws_eqTwo : FunOk Try.prog c_laws_eqTwo := funOk (E := [c_laws_eqMemory, c_laws_eqSide]) (envOk_cons ok_laws_eqMemory (envOk_cons ok_laws_eqSide (envOk_nil))) mixd Try.func41 (pf := pf_laws_eqTwo) (by kernel_rfl) fun ts K h => by
  obtain ⟨t0, t1, e0, h⟩ := as2_out h
  subst e0
  obtain ⟨a, e1, hq⟩ := arG_out rd_two h
  clear h
  subst e1
  have h := hq
  clear hq
  obtain ⟨b, e1, hq⟩ := arG_out rd_two h
  clear h
  subst e1
  have h := hq
  clear hq
  obtain ⟨hpre, h⟩ := chk_o h
  exact ⟨_, _, h, Nat.le_of_ble_eq_true (show Nat.ble 2 Try.f41.ntmps = true by kernel_rfl), _, run_laws_eqTwo a b hpre⟩

def endSide (m : Side) (k : Int) : Int := k + 6 * m.regs.length
def markSide (m : Side) (k : Int) : Side := { m with regs := mkWordS m.regs.length (k) }
def SzSide (m : Side) : Prop := m.regs.length ≤ 2147483647
theorem sz_markSide (m : Side) (k : Int) (h : SzSide m) : SzSide (markSide m k) := by
  simp only [SzSide, endSide, markSide, mkWordS_length] at h ⊢; omega
theorem endSide_le (m : Side) (k : Int) (h : SzSide m) : k ≤ endSide m k ∧ endSide m k ≤ k + 1099511627776 := by
  simp only [SzSide, endSide, markSide] at h ⊢; omega
theorem mark_markSide (m : Side) (k : Int) : markSide (markSide m k) k = markSide m k := by
  simp [SzSide, endSide, markSide, mkWordS_length]
theorem end_markSide (m : Side) (k : Int) : endSide (markSide m k) k = endSide m k := by
  simp [SzSide, endSide, markSide, mkWordS_length]
theorem etaSide (m : Side) : (⟨m.regs, m.pc, m.trap⟩ : Side) = m := rfl

def endState (m : State) (k : Int) : Int := endMemory m.mem (k + 6 * m.regs.length)
def markState (m : State) (k : Int) : State := { m with regs := mkWordS m.regs.length (k), mem := markMemory m.mem (k + 6 * m.regs.length) }
def SzState (m : State) : Prop := m.regs.length ≤ 2147483647 ∧ SzMemory m.mem
theorem sz_markState (m : State) (k : Int) (h : SzState m) : SzState (markState m k) := by
  simp only [SzState, endState, markState, SzMemory, endMemory, markMemory, mkWordS_length, mkBoolS_length] at h ⊢; omega
theorem endState_le (m : State) (k : Int) (h : SzState m) : k ≤ endState m k ∧ endState m k ≤ k + 1099511627776 := by
  simp only [SzState, endState, markState, SzMemory, endMemory, markMemory] at h ⊢; omega
theorem mark_markState (m : State) (k : Int) : markState (markState m k) k = markState m k := by
  simp [SzState, endState, markState, SzMemory, endMemory, markMemory, mkWordS_length, mkBoolS_length]
theorem end_markState (m : State) (k : Int) : endState (markState m k) k = endState m k := by
  simp [SzState, endState, markState, SzMemory, endMemory, markMemory, mkWordS_length, mkBoolS_length]
theorem etaState (m : State) : (⟨m.regs, m.pc, m.mem, m.trap⟩ : State) = m := rfl

def endTwo (m : Two) (k : Int) : Int := endSide m.b (endSide m.a (endMemory m.mem (k)))
def markTwo (m : Two) (k : Int) : Two := { m with mem := markMemory m.mem (k), a := markSide m.a (endMemory m.mem (k)), b := markSide m.b (endSide m.a (endMemory m.mem (k))) }
def SzTwo (m : Two) : Prop := SzMemory m.mem ∧ SzSide m.a ∧ SzSide m.b
theorem sz_markTwo (m : Two) (k : Int) (h : SzTwo m) : SzTwo (markTwo m k) := by
  simp only [SzTwo, endTwo, markTwo, SzMemory, endMemory, markMemory, SzSide, endSide, markSide, mkWordS_length, mkBoolS_length] at h ⊢; omega
theorem endTwo_le (m : Two) (k : Int) (h : SzTwo m) : k ≤ endTwo m k ∧ endTwo m k ≤ k + 1099511627776 := by
  simp only [SzTwo, endTwo, markTwo, SzMemory, endMemory, markMemory, SzSide, endSide, markSide] at h ⊢; omega
theorem mark_markTwo (m : Two) (k : Int) : markTwo (markTwo m k) k = markTwo m k := by
  simp [SzTwo, endTwo, markTwo, SzMemory, endMemory, markMemory, SzSide, endSide, markSide, mkWordS_length, mkBoolS_length]
theorem end_markTwo (m : Two) (k : Int) : endTwo (markTwo m k) k = endTwo m k := by
  simp [SzTwo, endTwo, markTwo, SzMemory, endMemory, markMemory, SzSide, endSide, markSide, mkWordS_length, mkBoolS_length]
theorem etaTwo (m : Two) : (⟨m.mem, m.a, m.b⟩ : Two) = m := rfl

theorem LTwo.mono {t : Two} {n m : Nat} (h : LTwo t n) (k : n ≤ m) : LTwo t m := ⟨⟨Nat.le_trans h.1.1 k, Nat.le_trans h.1.2 k⟩, Nat.le_trans h.2.1 k, Nat.le_trans h.2.2 k⟩
theorem lTwo_of {t : Two} (h : WTwo t) : LTwo t 9223372036854775807 := ⟨⟨h.1.1.2, h.1.2.2⟩, h.2.1.1.2, h.2.2.1.2⟩
theorem etaMState (m : State) (k : Int) : (⟨(markState m k).regs, m.pc, (markState m k).mem, m.trap⟩ : State) = markState m k := rfl
end Go.Pi
