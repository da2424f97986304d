/- Contracts of functions, each out of its run by PI. No conditions. -/
import Derived.Test.YtkiokbkbgjomeaaGreatC1
namespace Go.Pi
open Go.Proofs
set_option linter.unusedVariables false
set_option linter.unusedSimpArgs false
set_option maxRecDepth 100000
attribute [local irreducible] iterN
def orI (a b : Int) : Int := IntKind.i64.wrap (BitVec.ofInt IntKind.i64.bits a ||| BitVec.ofInt IntKind.i64.bits b).toNat
theorem orI_eq (a b : Int) : IntKind.i64.wrap (BitVec.ofInt IntKind.i64.bits a ||| BitVec.ofInt IntKind.i64.bits b).toNat = orI a b := rfl
def U8s (b : List Int) : Prop := ∀ x ∈ b, 0 ≤ x ∧ x ≤ 255
theorem wfU8 {x : Int} (h : wfI .u8 x) : 0 ≤ x ∧ x ≤ 255 := by
  have h : (decide (IntKind.u8.min ≤ x) && decide (x ≤ IntKind.u8.max)) = true := h
  simp at h
  have e1 : IntKind.u8.min = 0 := rfl
  have e2 : IntKind.u8.max = 255 := rfl
  omega
theorem U8s.at {b : List Int} (h : U8s b) (i : Nat) : 0 ≤ b.getD i 0 ∧ b.getD i 0 ≤ 255 := by
  rw [List.getD_eq_getElem?_getD]
  cases e : b[i]? with
  | none => simp
  | some x => exact h x (List.mem_of_getElem? e)
theorem orI_add {x y : Int} (hx : 0 ≤ x ∧ x ≤ 255) (hy : 0 ≤ y ∧ y ≤ 255) : orI (x * 256) y = x * 256 + y := by
  obtain ⟨m, rfl⟩ := Int.eq_ofNat_of_zero_le hx.1
  obtain ⟨n, rfl⟩ := Int.eq_ofNat_of_zero_le hy.1
  have e : (m * 256 : Nat) ||| n = m * 256 + n := by
    have := Nat.two_pow_add_eq_or_of_lt (i := 8) (b := n) (by omega) m
    rw [Nat.mul_comm]; exact this.symm
  unfold orI
  rw [show ((m : Int) * 256) = ((m * 256 : Nat) : Int) by omega, BitVec.ofInt_natCast, BitVec.ofInt_natCast, BitVec.toNat_or, BitVec.toNat_ofNat, BitVec.toNat_ofNat]
  rw [Nat.mod_eq_of_lt (a := m * 256) (by show _ < 2 ^ 64; omega), Nat.mod_eq_of_lt (a := n) (by show _ < 2 ^ 64; omega), e]
  rw [wrap_id (by omega) (by omega)]; omega
theorem andI_255 {n : Int} (h : 0 ≤ n ∧ n ≤ 65535) : andI n 255 = n % 256 := by
  obtain ⟨m, rfl⟩ := Int.eq_ofNat_of_zero_le h.1
  have e : m &&& 255 = m % 256 := Nat.and_two_pow_sub_one_eq_mod m 8
  unfold andI
  rw [show (255 : Int) = ((255 : Nat) : Int) by rfl, BitVec.ofInt_natCast, BitVec.ofInt_natCast, BitVec.toNat_and, BitVec.toNat_ofNat, BitVec.toNat_ofNat]
  rw [Nat.mod_eq_of_lt (a := m) (by show _ < 2 ^ 64; omega), Nat.mod_eq_of_lt (a := 255) (by decide), e]
  rw [wrap_id (by omega) (by omega)]; omega
theorem u8_id {n : Int} (h : 0 ≤ n ∧ n ≤ 255) : IntKind.u8.wrap n = n := by
  show n % 256 = n
  omega
theorem hi8 {n : Int} (h : 0 ≤ n ∧ n ≤ 65535) : IntKind.u8.wrap (n.fdiv (2 ^ min (Int.toNat 8) IntKind.i64.bits)) = n / 256 := by
  rw [show (2 ^ min (Int.toNat 8) IntKind.i64.bits : Int) = 256 by decide, Int.fdiv_eq_ediv_of_nonneg _ (by decide), u8_id (by omega)]
theorem lo8 {n : Int} (h : 0 ≤ n ∧ n ≤ 65535) : IntKind.u8.wrap (andI n 255) = n % 256 := by
  rw [andI_255 h, u8_id (by omega)]
theorem two8 {x y : Int} (hx : 0 ≤ x ∧ x ≤ 255) (hy : 0 ≤ y ∧ y ≤ 255) : orI (IntKind.i64.wrap (IntKind.i64.wrap x * 2 ^ min (Int.toNat 8) IntKind.i64.bits)) (IntKind.i64.wrap y) = x * 256 + y := by
  rw [show (2 ^ min (Int.toNat 8) IntKind.i64.bits : Int) = 256 by decide, wrap_id (n := x) (by omega) (by omega), wrap_id (n := y) (by omega) (by omega), wrap_id (by omega) (by omega), orI_add hx hy]
def wordBytes (w : Word) : List Int :=
  if wordOk w then (if w.is then [w.n / 256, w.n % 256, 1, w.key.base / 256, w.key.base % 256, w.key.top / 256, w.key.top % 256, w.key.perms, w.key.sealed] else [w.n / 256, w.n % 256, 0]) else []
theorem wordOk_n {w : Word} (h : wordOk w = true) : 0 ≤ w.n ∧ w.n ≤ 65535 := by
  simp only [wordOk, Bool.and_eq_true] at h; simpa [inR] using h.1
theorem wordOk_key {w : Word} (h : wordOk w = true) (h2 : w.is = true) : 0 ≤ w.key.base ∧ w.key.base ≤ w.key.top ∧ w.key.top ≤ 4096 ∧ 0 ≤ w.key.perms ∧ w.key.perms ≤ 63 ∧ 0 ≤ w.key.sealed ∧ w.key.sealed ≤ 7 := by
  simp only [wordOk, h2, if_true, Bool.and_eq_true, keyOk, exact_] at h
  have := bounds_n h.2.1.1.1.1
  have h3 := h.2.1.2
  have h4 := h.2.2
  simp [inR] at h3 h4
  omega
theorem zu8 : FT.zero (.int .u8) = (0 : Int) := rfl
theorem win_at {b : List Int} {o n i : Nat} (h : i < n) : (win b o n).getD i 0 = b.getD (o + i) 0 := by
  simp [win, List.getD_eq_getElem?_getD, List.getElem?_take, h]
theorem win_len {α : Type} {b : List α} {o n : Nat} (h : o + n ≤ b.length) : (win b o n).length = n := by
  simp [win]; omega
theorem U8s.win {b : List Int} (h : U8s b) (o n : Nat) : U8s (win b o n) := fun x hx => h x (List.mem_of_mem_drop (List.mem_of_mem_take hx))
theorem tn2 : Int.toNat 2 = 2 := rfl
theorem tn3 : Int.toNat 3 = 3 := rfl
theorem tn5 : Int.toNat 5 = 5 := rfl
theorem tn7 : Int.toNat 7 = 7 := rfl
theorem tn8 : Int.toNat 8 = 8 := rfl

def pf_spec_WordBytes : PF := ⟨[.t 2], .seq (.reg [.s (.box 1 (.t 0)), .s (.mv 2 (.k (.v (.c (.nils (.int .u8))))))]) (.seq (.seq (.reg [.s (.load 5 true 6 (.t 1)), .s (.call (some 6) 154 [(.t 5)]), .s (.bnot 7 (.t 6))]) (.cond (.t 7) (.seq (.reg [.s (.bs 8 (.int .u8) []), .s (.mv 2 (.t 8))]) (.ret)) (.skip))) (.seq (.reg [.s (.fa 9 (.t 1) 0), .s (.load 10 false 1 (.t 9)), .s (.bin 11 .shr (.t 10) (.k (.v (.c (.int .u64 8))))), .s (.conv 12 .u8 (.t 11)), .s (.fa 13 (.t 1) 0), .s (.load 14 false 1 (.t 13)), .s (.bin 15 .and (.t 14) (.k (.v (.c (.int .i64 255))))), .s (.conv 16 .u8 (.t 15)), .s (.bs 17 (.int .u8) [(.t 12), (.t 16)]), .s (.mv 3 (.t 17))]) (.seq (.seq (.reg [.s (.fa 18 (.t 1) 1), .s (.load 19 false 1 (.t 18)), .s (.bnot 20 (.t 19))]) (.cond (.t 20) (.seq (.reg [.s (.mv 21 (.t 3)), .s (.bs 22 (.int .u8) [(.k (.v (.c (.int .u8 0))))]), .s (.app 23 (.int .u8) (.t 21) (.t 22)), .s (.mv 2 (.t 23))]) (.ret)) (.skip))) (.seq (.reg [.s (.fa 24 (.t 1) 2), .s (.load 25 true 4 (.t 24)), .s (.alloc 4 [.int .i64 0, .int .i64 0, .int .i64 0, .int .i64 0]), .s (.store 4 (.t 4) (.t 25))]) (.seq (.reg [.s (.mv 26 (.t 3)), .s (.fa 27 (.t 4) 0), .s (.load 28 false 1 (.t 27)), .s (.bin 29 .shr (.t 28) (.k (.v (.c (.int .u64 8))))), .s (.conv 30 .u8 (.t 29)), .s (.fa 31 (.t 4) 0), .s (.load 32 false 1 (.t 31)), .s (.bin 33 .and (.t 32) (.k (.v (.c (.int .i64 255))))), .s (.conv 34 .u8 (.t 33)), .s (.fa 35 (.t 4) 1), .s (.load 36 false 1 (.t 35)), .s (.bin 37 .shr (.t 36) (.k (.v (.c (.int .u64 8))))), .s (.conv 38 .u8 (.t 37)), .s (.fa 39 (.t 4) 1), .s (.load 40 false 1 (.t 39)), .s (.bin 41 .and (.t 40) (.k (.v (.c (.int .i64 255))))), .s (.conv 42 .u8 (.t 41)), .s (.fa 43 (.t 4) 2), .s (.load 44 false 1 (.t 43)), .s (.conv 45 .u8 (.t 44)), .s (.fa 46 (.t 4) 3), .s (.load 47 false 1 (.t 46)), .s (.conv 48 .u8 (.t 47)), .s (.bs 49 (.int .u8) [(.k (.v (.c (.int .u8 1)))), (.t 30), (.t 34), (.t 38), (.t 42), (.t 45), (.t 48)]), .s (.app 50 (.int .u8) (.t 26) (.t 49)), .s (.mv 2 (.t 50))]) (.ret))))))⟩
def c_spec_WordBytes : Fun := ⟨165, [], fun ts K => as1 ts fun t0 => arG pWordT t0 fun w => K (tL true (.int .u8) (wordBytes w)) []⟩
theorem run_spec_WordBytes (w : Word) : runK [c_spec_WordOk] (0) [] pf_spec_WordBytes [tG (w.tc [])] fun r o => r = tL true (.int .u8) (wordBytes w) ∧ o = [] := by
  conv => whnf
  repeat' (first | (refine sel_i (fun h => ?_) (fun h => ?_) <;> conv => whnf) | (refine chk_c ?_ ?_ <;> conv => whnf) | (refine And.intro ?_ rfl) | (refine And.intro ?_ ?_ <;> conv => whnf))
  all_goals (try simp only [etaKey, etaWord, Bool.not_eq_true', Bool.not_eq_false', andI_eq] at *)
  all_goals first
    | (refine ⟨?_⟩; decide)
    | (refine ⟨?_⟩; show 3 ≤ 2147483647; decide)
    | (refine ⟨?_⟩; show 9 ≤ 2147483647; decide)
    | (simp only [wordBytes, *]; rfl)
    | (rename_i h1
       have h2 := h
       have hn := wordOk_n h1
       rw [hi8 hn, lo8 hn]
       simp only [wordBytes, h1, h2, if_true, Bool.false_eq_true, if_false]; rfl)
    | (rename_i h1
       have h2 := h
       have hn := wordOk_n h1
       have hk := wordOk_key h1 h2
       rw [hi8 hn, lo8 hn, hi8 (by omega), lo8 (by omega), hi8 (by omega), lo8 (by omega), u8_id (by omega), u8_id (by omega)]
       simp only [wordBytes, h1, h2, if_true]; rfl)
    | trace_state
theorem ok_spec_WordBytes : FunOk Tryz.prog c_spec_WordBytes := funOk (E := [c_spec_WordOk]) (envOk_cons ok_spec_WordOk (envOk_nil)) mixd Tryz.func165 (pf := pf_spec_WordBytes) (by kernel_rfl) fun ts K h => by
  obtain ⟨t0, e0, h⟩ := as1_out h
  subst e0
  obtain ⟨w, e1, hq⟩ := arG_out rd_word h
  clear h
  subst e1
  have h := hq
  clear hq
  exact ⟨_, _, h, Nat.le_of_ble_eq_true (show Nat.ble 1 Tryz.f165.ntmps = true by kernel_rfl), _, run_spec_WordBytes w⟩

def pf_impl_twoOf : PF := ⟨[.t 2], .seq (.reg [.s (.mv 2 (.k (.v (.c (.int .i64 0)))))]) (.seq (.rgd [] [.s (.mv 3 (.t 0)), .s (.ia 4 (.int .u8) (.t 3) (.k (.v (.c (.int .i64 0))))), .s (.load 5 false 1 (.t 4)), .s (.conv 6 .i64 (.t 5)), .s (.bin 7 .shl (.t 6) (.k (.v (.c (.int .u64 8))))), .s (.mv 8 (.t 0)), .s (.ia 9 (.int .u8) (.t 8) (.k (.v (.c (.int .i64 1))))), .s (.load 10 false 1 (.t 9)), .s (.conv 11 .i64 (.t 10)), .s (.bin 12 .or (.t 7) (.t 11)), .s (.mv 2 (.t 12))] (.tk 0 (.tk 1 (.tk 2 (.tk 3 (.tk 4 (.tk 5 (.tk 6 (.tk 7 (.tk 8 (.tk 9 (.tk 10 (.done none))))))))))))) (.ret))⟩
def c_impl_twoOf : Fun := ⟨168, [], fun ts K => as1 ts fun t0 => arC (pL (.int .u8)) t0 fun b => chk (2 ≤ b.length ∧ U8s b) (K (tN (b.getD 0 0 * 256 + b.getD 1 0)) [])⟩
theorem run_impl_twoOf (b : List (FT.Ty (.int .u8))) (hpre : 2 ≤ b.length ∧ U8s b) : runK [] (0) [] pf_impl_twoOf [tL false (.int .u8) b] fun r o => r = tN (b.getD 0 0 * 256 + b.getD 1 0) ∧ o = [] := by
  obtain ⟨l1, l2⟩ := hpre
  conv => whnf
  repeat' (first | (refine sel_i (fun h => ?_) (fun h => ?_) <;> conv => whnf) | (refine chk_c ?_ ?_ <;> conv => whnf) | (refine And.intro ?_ rfl) | (refine And.intro ?_ ?_ <;> conv => whnf))
  all_goals first
    | (refine ⟨?_⟩; decide)
    | (refine ⟨?_⟩; show (0 : Int) ≤ 0 ∧ 0 < (b.length : Int); omega)
    | (refine ⟨?_⟩; show (0 : Int) ≤ 1 ∧ 1 < (b.length : Int); omega)
    | (refine ⟨?_⟩; show 0 < b.length; omega)
    | (refine ⟨?_⟩; show 1 < b.length; omega)
    | (simp only [orI_eq, zu8]; rw [two8 (l2.at _) (l2.at _)]; rfl)
    | trace_state
theorem ok_impl_twoOf : FunOk Tryz.prog c_impl_twoOf := funOk (E := []) (envOk_nil) mixd Tryz.func168 (pf := pf_impl_twoOf) (by kernel_rfl) fun ts K h => by
  obtain ⟨t0, e0, h⟩ := as1_out h
  subst e0
  obtain ⟨b, e1, hq⟩ := arC_out (rd_l (.int .u8)) h
  clear h
  subst e1
  have h := hq
  clear hq
  obtain ⟨hpre, h⟩ := chk_o h
  exact ⟨_, _, h, Nat.le_of_ble_eq_true (show Nat.ble 1 Tryz.f168.ntmps = true by kernel_rfl), _, run_impl_twoOf b hpre⟩

def wordAt (b : List Int) (i : Nat) : Word := ⟨b.getD i 0 * 256 + b.getD (i + 1) 0, true, ⟨b.getD (i + 3) 0 * 256 + b.getD (i + 4) 0, b.getD (i + 5) 0 * 256 + b.getD (i + 6) 0, b.getD (i + 7) 0, b.getD (i + 8) 0⟩⟩
def wordOf (b : List Int) (a : Int) : Option (Word × Int) :=
  if inR a 0 (b.length - 3) then
    (if b.getD (a.toNat + 2) 0 = 0 then some (⟨b.getD a.toNat 0 * 256 + b.getD (a.toNat + 1) 0, false, ⟨0, 0, 0, 0⟩⟩, a + 3)
     else if b.getD (a.toNat + 2) 0 = 1 ∧ a + 9 ≤ b.length ∧ wordOk (wordAt b a.toNat) = true then some (wordAt b a.toNat, a + 9) else none)
  else none
def wordOfT (o : Option (Word × Int)) : Tree := .tup [.g ((o.getD (⟨0, false, ⟨0, 0, 0, 0⟩⟩, 0)).1.tc []), .c (.int .i64 (o.getD (⟨0, false, ⟨0, 0, 0, 0⟩⟩, 0)).2), .c (.bool o.isSome)]
theorem wordOf_out {b : List Int} {a : Int} (h : inR a 0 (b.length - 3) = false) : wordOf b a = none := by simp [wordOf, h]
theorem wordOf_plain {b : List Int} {a : Int} (h : inR a 0 (b.length - 3) = true) (h2 : b.getD (a.toNat + 2) 0 = 0) : wordOf b a = some (⟨b.getD a.toNat 0 * 256 + b.getD (a.toNat + 1) 0, false, ⟨0, 0, 0, 0⟩⟩, a + 3) := by simp only [wordOf, h, h2, if_true]
theorem wordOf_key {b : List Int} {a : Int} (h : inR a 0 (b.length - 3) = true) (h2 : b.getD (a.toNat + 2) 0 = 1) (h3 : a + 9 ≤ b.length) (h4 : wordOk (wordAt b a.toNat) = true) : wordOf b a = some (wordAt b a.toNat, a + 9) := by
  simp only [wordOf, h, h2, h3, h4, if_true]; rfl
theorem wordOf_no {b : List Int} {a : Int} (h2 : b.getD (a.toNat + 2) 0 ≠ 0) (h3 : ¬ (b.getD (a.toNat + 2) 0 = 1 ∧ a + 9 ≤ b.length ∧ wordOk (wordAt b a.toNat) = true)) : wordOf b a = none := by
  simp only [wordOf, h2, h3, if_false]; simp
theorem strI_inj {xs ys : List Int} (hx : U8s xs) (hy : U8s ys) (h : strI xs = strI ys) : xs = ys := by
  have h1 : xs.map (fun n => UInt8.ofNat n.toNat) = ys.map (fun n => UInt8.ofNat n.toNat) := by
    have := congrArg (fun s => s.data.toList) h
    simpa [strI] using this
  clear h
  induction xs generalizing ys with
  | nil => cases ys with
    | nil => rfl
    | cons y ys => simp at h1
  | cons x xs ih => cases ys with
    | nil => simp at h1
    | cons y ys =>
      simp only [List.map_cons, List.cons.injEq] at h1
      have e := ih (fun z hz => hx z (by simp [hz])) (fun z hz => hy z (by simp [hz])) h1.2
      have a1 := hx x (by simp)
      have a2 := hy y (by simp)
      have h2 := congrArg UInt8.toNat h1.1
      simp only [UInt8.toNat_ofNat'] at h2
      rw [e, show x = y by omega]
theorem beqS (a b : ByteArray) : (a == b) = decide (a = b) := by
  obtain ⟨a⟩ := a
  obtain ⟨b⟩ := b
  rw [Bool.eq_iff_iff]
  simp only [decide_eq_true_eq, ByteArray.mk.injEq]
  show (a == b) = true ↔ _
  exact beq_iff_eq
theorem strI_eq {xs ys : List Int} (hx : U8s xs) (hy : U8s ys) : (strI xs == strI ys) = decide (xs = ys) := by
  rw [beqS, Bool.eq_iff_iff]; simp only [decide_eq_true_eq]
  exact ⟨strI_inj hx hy, fun h => by rw [h]⟩
theorem wordBytes_u8 (w : Word) : U8s (wordBytes w) := by
  intro x hx
  unfold wordBytes at hx
  split at hx
  · rename_i h
    have hn := wordOk_n h
    split at hx
    · rename_i h2
      have hk := wordOk_key h h2
      simp at hx
      omega
    · simp at hx
      omega
  · cases hx
theorem win3 {b : List Int} {a : Nat} (h : a + 3 ≤ b.length) : win b a 3 = [b.getD a 0, b.getD (a + 1) 0, b.getD (a + 2) 0] := by
  apply List.ext_getElem
  · rw [win_len h]; rfl
  · intro i h1 h2
    have hi : i < 3 := by simpa using h2
    have e := win_at (b := b) (o := a) hi
    rw [List.getD_eq_getElem?_getD, List.getElem?_eq_getElem h1, Option.getD_some] at e
    rw [e]
    match i, hi with
    | 0, _ => rfl
    | 1, _ => rfl
    | 2, _ => rfl
theorem win9 {b : List Int} {a : Nat} (h : a + 9 ≤ b.length) : win b a 9 = [b.getD a 0, b.getD (a + 1) 0, b.getD (a + 2) 0, b.getD (a + 3) 0, b.getD (a + 4) 0, b.getD (a + 5) 0, b.getD (a + 6) 0, b.getD (a + 7) 0, b.getD (a + 8) 0] := by
  apply List.ext_getElem
  · rw [win_len h]; rfl
  · intro i h1 h2
    have hi : i < 9 := by simpa using h2
    have e := win_at (b := b) (o := a) hi
    rw [List.getD_eq_getElem?_getD, List.getElem?_eq_getElem h1, Option.getD_some] at e
    rw [e]
    match i, hi with
    | 0, _ => rfl
    | 1, _ => rfl
    | 2, _ => rfl
    | 3, _ => rfl
    | 4, _ => rfl
    | 5, _ => rfl
    | 6, _ => rfl
    | 7, _ => rfl
    | 8, _ => rfl
theorem wordOk_plain {b : List Int} (h : U8s b) (i j : Nat) : wordOk ⟨b.getD i 0 * 256 + b.getD j 0, false, ⟨0, 0, 0, 0⟩⟩ = true := by
  have := h.at i; have := h.at j
  generalize b.getD i 0 = x at *
  generalize b.getD j 0 = y at *
  simp [wordOk, inR]; omega
theorem wordBytes_plain {b : List Int} (h : U8s b) (i j : Nat) : wordBytes ⟨b.getD i 0 * 256 + b.getD j 0, false, ⟨0, 0, 0, 0⟩⟩ = [b.getD i 0, b.getD j 0, 0] := by
  have := h.at i; have := h.at j
  simp only [wordBytes, wordOk_plain h, if_true, Bool.false_eq_true, if_false]
  rw [show (b.getD i 0 * 256 + b.getD j 0) / 256 = b.getD i 0 by omega, show (b.getD i 0 * 256 + b.getD j 0) % 256 = b.getD j 0 by omega]
theorem wordBytes_at {b : List Int} (h : U8s b) {a : Nat} (hw : wordOk (wordAt b a) = true) : wordBytes (wordAt b a) = [b.getD a 0, b.getD (a + 1) 0, 1, b.getD (a + 3) 0, b.getD (a + 4) 0, b.getD (a + 5) 0, b.getD (a + 6) 0, b.getD (a + 7) 0, b.getD (a + 8) 0] := by
  have := h.at a; have := h.at (a + 1); have := h.at (a + 3); have := h.at (a + 4); have := h.at (a + 5); have := h.at (a + 6)
  unfold wordBytes
  rw [if_pos hw]
  simp only [wordAt, if_true]
  rw [show (b.getD a 0 * 256 + b.getD (a + 1) 0) / 256 = b.getD a 0 by omega, show (b.getD a 0 * 256 + b.getD (a + 1) 0) % 256 = b.getD (a + 1) 0 by omega,
    show (b.getD (a + 3) 0 * 256 + b.getD (a + 4) 0) / 256 = b.getD (a + 3) 0 by omega, show (b.getD (a + 3) 0 * 256 + b.getD (a + 4) 0) % 256 = b.getD (a + 4) 0 by omega,
    show (b.getD (a + 5) 0 * 256 + b.getD (a + 6) 0) / 256 = b.getD (a + 5) 0 by omega, show (b.getD (a + 5) 0 * 256 + b.getD (a + 6) 0) % 256 = b.getD (a + 6) 0 by omega]

def pf_impl_WordOf : PF := ⟨[.c 4 true 6, .t 5, .t 6], .seq (.reg [.s (.alloc 4 [.int .i64 0, .ff, .int .i64 0, .int .i64 0, .int .i64 0, .int .i64 0]), .s (.mv 5 (.k (.v (.c (.int .i64 0))))), .s (.mv 6 (.k (.v (.c .ff))))]) (.seq (.seq (.reg [.s (.mv 9 (.t 1)), .s (.mv 10 (.t 0)), .s (.len 11 false (.t 10)), .s (.bin 12 .sub (.t 11) (.k (.v (.c (.int .i64 3))))), .s (.call (some 13) 71 [(.t 9), (.k (.v (.c (.int .i64 0)))), (.t 12)]), .s (.bnot 14 (.t 13))]) (.cond (.t 14) (.seq (.reg [.s (.build 15 [.int .i64 0, .ff, .int .i64 0, .int .i64 0, .int .i64 0, .int .i64 0] []), .s (.store 6 (.t 4) (.t 15)), .s (.mv 5 (.k (.v (.c (.int .i64 0))))), .s (.mv 6 (.k (.v (.c .ff))))]) (.ret)) (.skip))) (.seq (.reg [.s (.mv 16 (.t 0)), .s (.mv 17 (.t 1)), .s (.slc 18 (.int .u8) (.t 16) (some (.t 17)) none), .s (.mv 7 (.t 18))]) (.seq (.reg [.s (.mv 19 (.t 7)), .s (.call (some 20) 168 [(.t 19)]), .s (.build 21 [.int .i64 0, .ff, .int .i64 0, .int .i64 0, .int .i64 0, .int .i64 0] [(0, 1, (.t 20))]), .s (.alloc 8 [.int .i64 0, .ff, .int .i64 0, .int .i64 0, .int .i64 0, .int .i64 0]), .s (.store 6 (.t 8) (.t 21))]) (.seq (.blk 0 (.seq (.reg [.s (.mv 23 (.t 7)), .s (.ia 24 (.int .u8) (.t 23) (.k (.v (.c (.int .i64 2))))), .s (.load 25 false 1 (.t 24)), .s (.bin 26 .eql (.t 25) (.k (.v (.c (.int .u8 0))))), .s (.mv 22 (.t 26))]) (.cond (.t 22) (.seq (.reg [.s (.load 27 true 6 (.t 8)), .s (.mv 28 (.t 1)), .s (.bin 29 .add (.t 28) (.k (.v (.c (.int .i64 3))))), .s (.store 6 (.t 4) (.t 27)), .s (.mv 5 (.t 29)), .s (.mv 6 (.k (.v (.c .tt))))]) (.ret)) (.seq (.reg [.s (.mv 31 (.t 7)), .s (.ia 32 (.int .u8) (.t 31) (.k (.v (.c (.int .i64 2))))), .s (.load 33 false 1 (.t 32)), .s (.bin 34 .neq (.t 33) (.k (.v (.c (.int .u8 1))))), .s (.mv 35 (.t 34)), .g 35 false (some 36) (.mv 36 (.t 7)), .g 35 false (some 37) (.len 37 false (.t 36)), .g 35 false (some 38) (.bin 38 .lss (.t 37) (.k (.v (.c (.int .i64 9))))), .s (.pick 39 (.t 35) (.k (.v (.c .tt))) (.t 38)), .s (.mv 30 (.t 39))]) (.cond (.t 30) (.seq (.reg [.s (.build 40 [.int .i64 0, .ff, .int .i64 0, .int .i64 0, .int .i64 0, .int .i64 0] []), .s (.store 6 (.t 4) (.t 40)), .s (.mv 5 (.k (.v (.c (.int .i64 0))))), .s (.mv 6 (.k (.v (.c .ff))))]) (.ret)) (.skip)))))) (.seq (.reg [.s (.fa 41 (.t 8) 1), .s (.store 1 (.t 41) (.k (.v (.c .tt))))]) (.seq (.rgd [] [.s (.mv 42 (.t 7)), .s (.slc 43 (.int .u8) (.t 42) (some (.k (.v (.c (.int .i64 3))))) none), .s (.call (some 44) 168 [(.t 43)]), .s (.mv 45 (.t 7)), .s (.slc 46 (.int .u8) (.t 45) (some (.k (.v (.c (.int .i64 5))))) none), .s (.call (some 47) 168 [(.t 46)]), .s (.mv 48 (.t 7)), .s (.ia 49 (.int .u8) (.t 48) (.k (.v (.c (.int .i64 7))))), .s (.load 50 false 1 (.t 49)), .s (.conv 51 .i64 (.t 50)), .s (.mv 52 (.t 7)), .s (.ia 53 (.int .u8) (.t 52) (.k (.v (.c (.int .i64 8))))), .s (.load 54 false 1 (.t 53)), .s (.conv 55 .i64 (.t 54)), .s (.build 56 [.int .i64 0, .int .i64 0, .int .i64 0, .int .i64 0] [(0, 1, (.t 44)), (1, 1, (.t 47)), (2, 1, (.t 51)), (3, 1, (.t 55))]), .s (.fa 57 (.t 8) 2), .s (.store 4 (.t 57) (.t 56))] (.tk 0 (.tk 3 (.tk 6 (.tk 7 (.tk 8 (.tk 9 (.tk 10 (.tk 11 (.tk 12 (.tk 13 (.alt 1 false (.alt 2 false (.one 4 false (.one 5 false (.tk 14 (.tk 15 (.one 16 true (.done (some [1, 4, 8]))))))) (.alt 4 false (.one 2 false (.one 5 false (.tk 14 (.tk 15 (.one 16 true (.done (some [1, 4, 8]))))))) (.nil))) (.alt 4 false (.one 1 false (.one 2 false (.one 5 false (.tk 14 (.tk 15 (.one 16 true (.done (some [1, 4, 8])))))))) (.nil)))))))))))))) (.seq (.seq (.reg [.s (.load 58 true 6 (.t 8)), .s (.call (some 59) 69 [(.t 58)]), .s (.bnot 60 (.t 59))]) (.cond (.t 60) (.seq (.reg [.s (.build 61 [.int .i64 0, .ff, .int .i64 0, .int .i64 0, .int .i64 0, .int .i64 0] []), .s (.store 6 (.t 4) (.t 61)), .s (.mv 5 (.k (.v (.c (.int .i64 0))))), .s (.mv 6 (.k (.v (.c .ff))))]) (.ret)) (.skip))) (.seq (.reg [.s (.load 62 true 6 (.t 8)), .s (.mv 63 (.t 1)), .s (.bin 64 .add (.t 63) (.k (.v (.c (.int .i64 9))))), .s (.store 6 (.t 4) (.t 62)), .s (.mv 5 (.t 64)), .s (.mv 6 (.k (.v (.c .tt))))]) (.ret)))))))))⟩
def c_impl_WordOf : Fun := ⟨95, [], fun ts K => as2 ts fun t0 t1 => arC (pL (.int .u8)) t0 fun b => arC (pI .i64) t1 fun at_ => chk (b.length ≤ 1048576 ∧ U8s b ∧ wfI .i64 at_) (K (wordOfT (wordOf b at_)) [])⟩
theorem run_impl_WordOf (b : List (FT.Ty (.int .u8))) (at_ : Int) (hpre : b.length ≤ 1048576 ∧ U8s b ∧ wfI .i64 at_) : runK [c_impl_WordOk, c_impl_in, c_impl_twoOf] (0) [] pf_impl_WordOf [tL false (.int .u8) b, tI .i64 at_] fun r o => r = wordOfT (wordOf b at_) ∧ o = [] := by
  obtain ⟨l1, l2, l3⟩ := hpre
  conv => whnf
  rw [wrap_id (n := (b.length : Int) - 3) (by omega) (by omega)]
  refine sel_i (fun h => ?_) (fun h => ?_)
  · conv => whnf
    rw [wordOf_out (by simpa using h)]
    exact ⟨rfl, rfl⟩
  have hr : inR at_ 0 (b.length - 3) = true := by simpa using h
  clear h
  have hb : 0 ≤ at_ ∧ at_ ≤ b.length - 3 := by simpa [inR] using hr
  clear l3
  obtain ⟨a, rfl⟩ := Int.eq_ofNat_of_zero_le hb.1
  have e1 : ((b.length : Int) - (a : Int)).toNat = b.length - a := by omega
  conv => whnf
  repeat' (first | (refine sel_i (fun h => ?_) (fun h => ?_) <;> conv => whnf) | (refine chk_c ?_ ?_ <;> conv => whnf) | (refine And.intro ?_ rfl) | (refine And.intro ?_ ?_ <;> conv => whnf))
  all_goals simp only [e1, zu8, tn2, tn3, tn5, tn7, tn8, Nat.zero_add, Int.toNat_natCast, etaKey, etaWord, beqI, decide_eq_true_eq, decide_eq_false_iff_not] at *
  all_goals first
    | (refine ⟨?_⟩; omega)
    | (refine ⟨?_⟩; exact ⟨by rw [win_len (by omega)]; omega, l2.win _ _⟩)
    | (rw [win_at (by omega), win_at (by omega), wrap_id (n := (a : Int) + 3) (by omega) (by omega), wordOf_plain hr (by assumption)]; rfl)
    | (rename_i g1
       rw [wordOf_no (b := b) (a := (a : Int)) g1 (fun q => by have := q.1; simp only [Int.toNat_natCast] at this; rw [this] at h; cases h)]; rfl)
    | (rename_i g1 g2; rw [wordOf_no (b := b) (a := (a : Int)) g1 (fun q => by omega)]; rfl)
    | skip
  all_goals
    (rename_i g1 g2 g3
     have g2 : b.getD (a + 2) 0 = 1 := by simpa using g2
     rw [wrap_id (n := b.getD (a + 7) 0) (by have := l2.at (a + 7); omega) (by have := l2.at (a + 7); omega), wrap_id (n := b.getD (a + 8) 0) (by have := l2.at (a + 8); omega) (by have := l2.at (a + 8); omega)] at h
     simp (disch := omega) only [win_at] at h)
  · have h' : (!wordOk (wordAt b a)) = true := h
    rw [wordOf_no (b := b) (a := (a : Int)) g1 (fun q => by have := q.2.2; simp only [Int.toNat_natCast] at this; rw [this] at h'; cases h')]; rfl
  · have h' : (!wordOk (wordAt b a)) = false := h
    rw [wrap_id (n := b.getD (a + 7) 0) (by have := l2.at (a + 7); omega) (by have := l2.at (a + 7); omega), wrap_id (n := b.getD (a + 8) 0) (by have := l2.at (a + 8); omega) (by have := l2.at (a + 8); omega), wrap_id (n := (a : Int) + 9) (by omega) (by omega)]
    simp (disch := omega) only [win_at]
    rw [wordOf_key hr g2 (by omega) (by simpa using h')]; rfl
theorem ok_impl_WordOf : FunOk Tryz.prog c_impl_WordOf := funOk (E := [c_impl_WordOk, c_impl_in, c_impl_twoOf]) (envOk_cons ok_impl_WordOk (envOk_cons ok_impl_in (envOk_cons ok_impl_twoOf (envOk_nil)))) mixd Tryz.func95 (pf := pf_impl_WordOf) (by kernel_rfl) fun ts K h => by
  obtain ⟨t0, t1, e0, h⟩ := as2_out h
  subst e0
  obtain ⟨b, e1, hq⟩ := arC_out (rd_l (.int .u8)) h
  clear h
  subst e1
  have h := hq
  clear hq
  obtain ⟨at_, e1, hq⟩ := arC_out (rd_int .i64) h
  clear h
  subst e1
  have h := hq
  clear hq
  obtain ⟨hpre, h⟩ := chk_o h
  exact ⟨_, _, h, Nat.le_of_ble_eq_true (show Nat.ble 2 Tryz.f95.ntmps = true by kernel_rfl), _, run_impl_WordOf b at_ hpre⟩

def pf_spec_WordOf : PF := ⟨[.c 4 true 6, .t 5, .t 6], .seq (.reg [.s (.alloc 4 [.int .i64 0, .ff, .int .i64 0, .int .i64 0, .int .i64 0, .int .i64 0]), .s (.mv 5 (.k (.v (.c (.int .i64 0))))), .s (.mv 6 (.k (.v (.c .ff))))]) (.seq (.seq (.reg [.s (.mv 9 (.t 1)), .s (.bin 10 .lss (.t 9) (.k (.v (.c (.int .i64 0))))), .s (.mv 11 (.t 10)), .g 11 false (some 12) (.mv 12 (.t 1)), .g 11 false (some 13) (.mv 13 (.t 0)), .g 11 false (some 14) (.len 14 false (.t 13)), .g 11 false (some 15) (.bin 15 .sub (.t 14) (.k (.v (.c (.int .i64 3))))), .g 11 false (some 16) (.bin 16 .gtr (.t 12) (.t 15)), .s (.pick 17 (.t 11) (.k (.v (.c .tt))) (.t 16))]) (.cond (.t 17) (.seq (.reg [.s (.build 18 [.int .i64 0, .ff, .int .i64 0, .int .i64 0, .int .i64 0, .int .i64 0] []), .s (.store 6 (.t 4) (.t 18)), .s (.mv 5 (.k (.v (.c (.int .i64 0))))), .s (.mv 6 (.k (.v (.c .ff))))]) (.ret)) (.skip))) (.seq (.rgd [] [.s (.mv 19 (.t 0)), .s (.mv 20 (.t 1)), .s (.ia 21 (.int .u8) (.t 19) (.t 20)), .s (.load 22 false 1 (.t 21)), .s (.conv 23 .i64 (.t 22)), .s (.bin 24 .shl (.t 23) (.k (.v (.c (.int .u64 8))))), .s (.mv 25 (.t 0)), .s (.mv 26 (.t 1)), .s (.bin 27 .add (.t 26) (.k (.v (.c (.int .i64 1))))), .s (.ia 28 (.int .u8) (.t 25) (.t 27)), .s (.load 29 false 1 (.t 28)), .s (.conv 30 .i64 (.t 29)), .s (.bin 31 .or (.t 24) (.t 30)), .s (.build 32 [.int .i64 0, .ff, .int .i64 0, .int .i64 0, .int .i64 0, .int .i64 0] [(0, 1, (.t 31))]), .s (.alloc 7 [.int .i64 0, .ff, .int .i64 0, .int .i64 0, .int .i64 0, .int .i64 0]), .s (.store 6 (.t 7) (.t 32))] (.tk 0 (.tk 1 (.tk 2 (.tk 3 (.tk 4 (.tk 5 (.tk 6 (.tk 7 (.tk 8 (.tk 9 (.tk 10 (.tk 11 (.tk 12 (.tk 13 (.one 14 false (.one 15 true (.done none)))))))))))))))))) (.seq (.reg [.s (.mv 33 (.t 1)), .s (.bin 34 .add (.t 33) (.k (.v (.c (.int .i64 3))))), .s (.mv 8 (.t 34))]) (.seq (.seq (.reg [.s (.mv 35 (.t 0)), .s (.mv 36 (.t 1)), .s (.bin 37 .add (.t 36) (.k (.v (.c (.int .i64 2))))), .s (.ia 38 (.int .u8) (.t 35) (.t 37)), .s (.load 39 false 1 (.t 38)), .s (.bin 40 .neq (.t 39) (.k (.v (.c (.int .u8 0)))))]) (.cond (.t 40) (.seq (.seq (.reg [.s (.mv 41 (.t 1)), .s (.mv 42 (.t 0)), .s (.len 43 false (.t 42)), .s (.bin 44 .sub (.t 43) (.k (.v (.c (.int .i64 9))))), .s (.bin 45 .gtr (.t 41) (.t 44))]) (.cond (.t 45) (.seq (.reg [.s (.build 46 [.int .i64 0, .ff, .int .i64 0, .int .i64 0, .int .i64 0, .int .i64 0] []), .s (.store 6 (.t 4) (.t 46)), .s (.mv 5 (.k (.v (.c (.int .i64 0))))), .s (.mv 6 (.k (.v (.c .ff))))]) (.ret)) (.skip))) (.seq (.reg [.s (.fa 47 (.t 7) 1), .s (.store 1 (.t 47) (.k (.v (.c .tt))))]) (.seq (.rgd [] [.s (.mv 48 (.t 0)), .s (.mv 49 (.t 1)), .s (.bin 50 .add (.t 49) (.k (.v (.c (.int .i64 3))))), .s (.ia 51 (.int .u8) (.t 48) (.t 50)), .s (.load 52 false 1 (.t 51)), .s (.conv 53 .i64 (.t 52)), .s (.bin 54 .shl (.t 53) (.k (.v (.c (.int .u64 8))))), .s (.mv 55 (.t 0)), .s (.mv 56 (.t 1)), .s (.bin 57 .add (.t 56) (.k (.v (.c (.int .i64 4))))), .s (.ia 58 (.int .u8) (.t 55) (.t 57)), .s (.load 59 false 1 (.t 58)), .s (.conv 60 .i64 (.t 59)), .s (.bin 61 .or (.t 54) (.t 60)), .s (.mv 62 (.t 0)), .s (.mv 63 (.t 1)), .s (.bin 64 .add (.t 63) (.k (.v (.c (.int .i64 5))))), .s (.ia 65 (.int .u8) (.t 62) (.t 64)), .s (.load 66 false 1 (.t 65)), .s (.conv 67 .i64 (.t 66)), .s (.bin 68 .shl (.t 67) (.k (.v (.c (.int .u64 8))))), .s (.mv 69 (.t 0)), .s (.mv 70 (.t 1)), .s (.bin 71 .add (.t 70) (.k (.v (.c (.int .i64 6))))), .s (.ia 72 (.int .u8) (.t 69) (.t 71)), .s (.load 73 false 1 (.t 72)), .s (.conv 74 .i64 (.t 73)), .s (.bin 75 .or (.t 68) (.t 74)), .s (.mv 76 (.t 0)), .s (.mv 77 (.t 1)), .s (.bin 78 .add (.t 77) (.k (.v (.c (.int .i64 7))))), .s (.ia 79 (.int .u8) (.t 76) (.t 78)), .s (.load 80 false 1 (.t 79)), .s (.conv 81 .i64 (.t 80)), .s (.mv 82 (.t 0)), .s (.mv 83 (.t 1)), .s (.bin 84 .add (.t 83) (.k (.v (.c (.int .i64 8))))), .s (.ia 85 (.int .u8) (.t 82) (.t 84)), .s (.load 86 false 1 (.t 85)), .s (.conv 87 .i64 (.t 86)), .s (.build 88 [.int .i64 0, .int .i64 0, .int .i64 0, .int .i64 0] [(0, 1, (.t 61)), (1, 1, (.t 75)), (2, 1, (.t 81)), (3, 1, (.t 87))]), .s (.fa 89 (.t 7) 2), .s (.store 4 (.t 89) (.t 88))] (.tk 0 (.tk 1 (.tk 2 (.tk 3 (.tk 4 (.tk 5 (.tk 6 (.tk 7 (.tk 8 (.tk 9 (.tk 10 (.tk 11 (.tk 12 (.tk 13 (.tk 14 (.tk 15 (.tk 16 (.tk 17 (.tk 18 (.tk 19 (.tk 20 (.tk 21 (.tk 22 (.tk 23 (.tk 24 (.tk 25 (.tk 26 (.tk 27 (.tk 28 (.tk 29 (.tk 30 (.tk 31 (.tk 32 (.tk 33 (.tk 34 (.tk 35 (.tk 36 (.tk 37 (.tk 38 (.tk 39 (.tk 40 (.tk 41 (.one 42 true (.done none))))))))))))))))))))))))))))))))))))))))))))) (.reg [.s (.mv 90 (.t 1)), .s (.bin 91 .add (.t 90) (.k (.v (.c (.int .i64 9))))), .s (.mv 8 (.t 91))])))) (.skip))) (.seq (.seq (.rgd [] [.s (.load 92 true 6 (.t 7)), .s (.call (some 93) 154 [(.t 92)]), .s (.bnot 94 (.t 93)), .s (.mv 95 (.t 94)), .g 95 false (some 96) (.load 96 true 6 (.t 7)), .g 95 false (some 97) (.call (some 97) 165 [(.t 96)]), .g 95 false (some 98) (.b2s 98 (.t 97)), .g 95 false (some 99) (.mv 99 (.t 0)), .g 95 false (some 100) (.mv 100 (.t 1)), .g 95 false (some 101) (.mv 101 (.t 8)), .g 95 false (some 102) (.slc 102 (.int .u8) (.t 99) (some (.t 100)) (some (.t 101))), .g 95 false (some 103) (.b2s 103 (.t 102)), .g 95 false (some 104) (.eqs 104 false [.s] true (.t 98) (.t 103)), .s (.pick 105 (.t 95) (.k (.v (.c .tt))) (.t 104))] (.tk 0 (.one 1 true (.tk 2 (.tk 3 (.tk 4 (.tk 7 (.tk 8 (.tk 9 (.alt 5 false (.alt 6 false (.one 10 false (.one 11 false (.tk 12 (.tk 13 (.done (some [4, 7, 8, 105])))))) (.alt 10 false (.alt 6 false (.one 11 false (.tk 12 (.tk 13 (.done (some [4, 7, 8, 105]))))) (.alt 11 false (.one 6 true (.tk 12 (.tk 13 (.done (some [4, 7, 8, 105]))))) (.nil))) (.nil))) (.alt 10 false (.alt 5 false (.alt 6 false (.one 11 false (.tk 12 (.tk 13 (.done (some [4, 7, 8, 105]))))) (.alt 11 false (.one 6 true (.tk 12 (.tk 13 (.done (some [4, 7, 8, 105]))))) (.nil))) (.alt 11 false (.one 5 true (.one 6 true (.tk 12 (.tk 13 (.done (some [4, 7, 8, 105])))))) (.nil))) (.nil)))))))))))) (.cond (.t 105) (.seq (.reg [.s (.build 106 [.int .i64 0, .ff, .int .i64 0, .int .i64 0, .int .i64 0, .int .i64 0] []), .s (.store 6 (.t 4) (.t 106)), .s (.mv 5 (.k (.v (.c (.int .i64 0))))), .s (.mv 6 (.k (.v (.c .ff))))]) (.ret)) (.skip))) (.seq (.reg [.s (.load 107 true 6 (.t 7)), .s (.mv 108 (.t 8)), .s (.store 6 (.t 4) (.t 107)), .s (.mv 5 (.t 108)), .s (.mv 6 (.k (.v (.c .tt))))]) (.ret)))))))⟩
def c_spec_WordOf : Fun := ⟨167, [], fun ts K => as2 ts fun t0 t1 => arC (pL (.int .u8)) t0 fun b => arC (pI .i64) t1 fun at_ => chk (b.length ≤ 1048576 ∧ U8s b ∧ wfI .i64 at_) (K (wordOfT (wordOf b at_)) [])⟩
theorem run_spec_WordOf (b : List (FT.Ty (.int .u8))) (at_ : Int) (hpre : b.length ≤ 1048576 ∧ U8s b ∧ wfI .i64 at_) : runK [c_spec_WordOk, c_spec_WordBytes] (0) [] pf_spec_WordOf [tL false (.int .u8) b, tI .i64 at_] fun r o => r = wordOfT (wordOf b at_) ∧ o = [] := by
  obtain ⟨l1, l2, l3⟩ := hpre
  conv => whnf
  refine sel_i (fun h => ?_) (fun h => ?_)
  · conv => whnf
    rw [wordOf_out (by simp [inR]; simp at h; omega)]
    exact ⟨rfl, rfl⟩
  simp only [decide_eq_false_iff_not, Int.not_lt] at h
  obtain ⟨a, rfl⟩ := Int.eq_ofNat_of_zero_le h
  conv => whnf
  rw [wrap_id (n := (b.length : Int) - 3) (by omega) (by omega)]
  refine sel_i (fun h2 => ?_) (fun h2 => ?_)
  · conv => whnf
    rw [wordOf_out (by simp [inR]; simp at h2; omega)]
    exact ⟨rfl, rfl⟩
  have hb : (a : Int) ≤ b.length - 3 := by simpa using h2
  have hr : inR (a : Int) 0 (b.length - 3) = true := by simp [inR]; omega
  clear h h2
  have w9 : IntKind.i64.wrap ((b.length : Int) - 9) = (b.length : Int) - 9 := wrap_id (by omega) (by omega)
  have w7 : IntKind.i64.wrap (b.getD (a + 7) 0) = b.getD (a + 7) 0 := wrap_id (by have := l2.at (a + 7); omega) (by have := l2.at (a + 7); omega)
  have w8 : IntKind.i64.wrap (b.getD (a + 8) 0) = b.getD (a + 8) 0 := wrap_id (by have := l2.at (a + 8); omega) (by have := l2.at (a + 8); omega)
  have c9 : (strI (wordBytes (wordAt b a)) == strI (win b a 9)) = decide (wordBytes (wordAt b a) = win b a 9) := by rw [strI_eq (wordBytes_u8 _) (l2.win _ _)]
  have c3 : (strI (wordBytes ⟨b.getD a 0 * 256 + b.getD (a + 1) 0, false, ⟨0, 0, 0, 0⟩⟩) == strI (win b a 3)) = decide (wordBytes ⟨b.getD a 0 * 256 + b.getD (a + 1) 0, false, ⟨0, 0, 0, 0⟩⟩ = win b a 3) := by rw [strI_eq (wordBytes_u8 _) (l2.win _ _)]
  have ew : (⟨b.getD a 0 * 256 + b.getD (a + 1) 0, true, ⟨b.getD (a + 3) 0 * 256 + b.getD (a + 4) 0, b.getD (a + 5) 0 * 256 + b.getD (a + 6) 0, b.getD (a + 7) 0, b.getD (a + 8) 0⟩⟩ : Word) = wordAt b a := rfl
  conv => whnf
  repeat' (first | (refine sel_i (fun h => ?_) (fun h => ?_) <;> conv => whnf) | (refine chk_c ?_ ?_ <;> conv => whnf) | (refine And.intro ?_ rfl) | (refine And.intro ?_ ?_ <;> conv => whnf))
  all_goals (try simp only [w9, zu8, Int.toNat_natCast, orI_eq, etaKey, etaWord, wrap_id (n := (a : Int) + 1) (by omega) (by omega), wrap_id (n := (a : Int) + 2) (by omega) (by omega), wrap_id (n := (a : Int) + 3) (by omega) (by omega), wrap_id (n := (a : Int) + 4) (by omega) (by omega), wrap_id (n := (a : Int) + 5) (by omega) (by omega), wrap_id (n := (a : Int) + 6) (by omega) (by omega), wrap_id (n := (a : Int) + 7) (by omega) (by omega), wrap_id (n := (a : Int) + 8) (by omega) (by omega), wrap_id (n := (a : Int) + 9) (by omega) (by omega)] at *)
  all_goals (try simp only [show ((a : Int) + 1).toNat = a + 1 by omega, show ((a : Int) + 2).toNat = a + 2 by omega, show ((a : Int) + 3).toNat = a + 3 by omega, show ((a : Int) + 4).toNat = a + 4 by omega, show ((a : Int) + 5).toNat = a + 5 by omega, show ((a : Int) + 6).toNat = a + 6 by omega, show ((a : Int) + 7).toNat = a + 7 by omega, show ((a : Int) + 8).toNat = a + 8 by omega] at *)
  all_goals (try simp only [two8 (l2.at _) (l2.at _)] at *)
  all_goals (try simp only [w7, w8, Nat.zero_add, show ((a : Int) + 9 - a).toNat = 9 by omega, show ((a : Int) + 3 - a).toNat = 3 by omega] at *)
  all_goals (try simp only [ew] at *)
  all_goals (try simp only [c9, c3, decide_eq_true_eq, decide_eq_false_iff_not, bne_iff_ne, bne_eq_false_iff_eq, Bool.not_eq_true', Bool.not_eq_false'] at *)
  all_goals try (refine ⟨?_⟩; first | omega | decide)
  · rw [wordOf_no (b := b) (a := (a : Int)) h (fun q => by omega)]; rfl
  · rename_i g1 g2
    rw [wordOf_no (b := b) (a := (a : Int)) g2 (fun q => by have := q.2.2; simp only [Int.toNat_natCast] at this; rw [this] at h; cases h)]; rfl
  · rename_i g1 g2 g3
    rw [wordOf_no (b := b) (a := (a : Int)) g2 (fun q => h (by rw [wordBytes_at l2 g3, win9 (by omega), show b.getD (a + 2) 0 = 1 from q.1]))]; rfl
  · rename_i g1 g2 g3
    rw [wordBytes_at l2 g3, win9 (by omega)] at h
    have g4 : b.getD (a + 2) 0 = 1 := by
      simp only [List.cons.injEq] at h
      exact h.2.2.1.symm
    rw [wordOf_key hr g4 (by omega) g3]; rfl
  · rename_i g1
    rw [wordOk_plain l2] at h; cases h
  · rename_i g1 g2
    exact absurd (by rw [wordBytes_plain l2, win3 (by omega), g1]) h
  · rename_i g1 g2
    rw [wordOf_plain hr g1]; rfl
theorem ok_spec_WordOf : FunOk Tryz.prog c_spec_WordOf := funOk (E := [c_spec_WordOk, c_spec_WordBytes]) (envOk_cons ok_spec_WordOk (envOk_cons ok_spec_WordBytes (envOk_nil))) mixd Tryz.func167 (pf := pf_spec_WordOf) (by kernel_rfl) fun ts K h => by
  obtain ⟨t0, t1, e0, h⟩ := as2_out h
  subst e0
  obtain ⟨b, e1, hq⟩ := arC_out (rd_l (.int .u8)) h
  clear h
  subst e1
  have h := hq
  clear hq
  obtain ⟨at_, e1, hq⟩ := arC_out (rd_int .i64) h
  clear h
  subst e1
  have h := hq
  clear hq
  obtain ⟨hpre, h⟩ := chk_o h
  exact ⟨_, _, h, Nat.le_of_ble_eq_true (show Nat.ble 2 Tryz.f167.ntmps = true by kernel_rfl), _, run_spec_WordOf b at_ hpre⟩


def filt (f : Nat → Bool) (n : Nat) : List Int := ((List.range n).filter f).map (fun c : Nat => (c : Int))
theorem filt_yes {f : Nat → Bool} {n : Nat} (h : f n = true) : filt f (n + 1) = filt f n ++ [(n : Int)] := by simp [filt, List.range_succ, List.filter_append, h]
theorem filt_no {f : Nat → Bool} {n : Nat} (h : f n = false) : filt f (n + 1) = filt f n := by simp [filt, List.range_succ, List.filter_append, h]
theorem filt_len (f : Nat → Bool) (n : Nat) : (filt f n).length ≤ n := by
  have := List.length_filter_le f (List.range n)
  simp [filt] at this ⊢; exact this
def coverP (ws : List Word) (p : Int) (c : Nat) : Bool := ws.any (fun w => hasP w p && inR c w.key.base (w.key.top - 1))
def cellsBy (m : Mem) (l : List Word) (p : Int) : List Int := filt (coverP (closure m l) p) 24
theorem any_take {α : Type} (p : α → Bool) {xs : List α} {i : Nat} (z : α) (h : i < xs.length) : (xs.take (i + 1)).any p = ((xs.take i).any p || p (xs.getD i z)) := by
  have e : xs.getD i z = xs[i] := by simp [List.getD_eq_getElem?_getD, h]
  rw [List.take_add_one, List.getElem?_eq_getElem h, List.any_append, e]; simp
theorem getD_set {α : Type} (xs : List α) (i j : Nat) (v d : α) (h : j < xs.length) : (xs.set i v).getD j d = if i = j then v else xs.getD j d := by
  simp only [List.getD_eq_getElem?_getD, List.getElem?_set]
  by_cases e : i = j
  · subst e; simp [h]
  · simp [e]
theorem rep_getD {α : Type} {n c : Nat} {x d : α} (h : c < n) : (List.replicate n x).getD c d = x := by
  simp only [List.getD_eq_getElem?_getD, List.getElem?_replicate, if_pos h, Option.getD_some]

def lb_impl_cellsBy_0 : PC := .seq (.seq (.reg [.s (.mv 36 (.t 12)), .s (.mv 37 (.t 11)), .s (.bin 38 .lss (.t 36) (.t 37))]) (.cond (.t 38) (.skip) (.exit 2))) (.seq (.blk 3 (.reg [.s (.mv 41 (.t 7)), .s (.mv 42 (.t 12)), .s (.ia 43 .bool (.t 41) (.t 42)), .s (.store 1 (.t 43) (.k (.v (.c .tt))))])) (.reg [.s (.mv 39 (.t 12)), .s (.bin 40 .add (.t 39) (.k (.v (.c (.int .i64 1))))), .s (.mv 12 (.t 40))]))
def lb_impl_cellsBy_1 : PC := .seq (.reg [.s (.bin 22 .lss (.t 21) (.t 20))]) (.seq (.cond (.t 22) (.skip) (.exit 0)) (.seq (.blk 1 (.seq (.reg [.s (.ia 23 .word (.t 19) (.t 21)), .s (.load 24 true 6 (.t 23)), .s (.alloc 9 [.int .i64 0, .ff, .int .i64 0, .int .i64 0, .int .i64 0, .int .i64 0]), .s (.store 6 (.t 9) (.t 24))]) (.seq (.seq (.reg [.s (.load 25 true 6 (.t 9)), .s (.mv 26 (.t 2)), .s (.call (some 27) 148 [(.t 25), (.t 26)]), .s (.bnot 28 (.t 27))]) (.cond (.t 28) (.exit 1) (.skip))) (.seq (.reg [.s (.fa 30 (.t 9) 2), .s (.load 31 true 4 (.t 30)), .s (.call (some 32) 75 [(.t 31)]), .s (.mv 29 (.t 32)), .s (.ext 33 (.t 29) 0), .s (.ext 34 (.t 29) 1), .s (.mv 10 (.t 33)), .s (.mv 11 (.t 34))]) (.seq (.reg [.s (.mv 35 (.t 10)), .s (.mv 12 (.t 35))]) (.blk 2 (.loop [2, 7, 11, 12, 19, 20, 21] lb_impl_cellsBy_0))))))) (.reg [.s (.bin 44 .add (.t 21) (.k (.v (.c (.int .i64 1))))), .s (.mv 21 (.t 44))])))
def lb_impl_cellsBy_2 : PC := .seq (.reg [.s (.bin 49 .lss (.t 48) (.t 47))]) (.seq (.cond (.t 49) (.skip) (.exit 4)) (.seq (.blk 5 (.seq (.reg [.s (.mv 50 (.t 48)), .s (.ia 51 .bool (.t 46) (.t 48)), .s (.load 52 false 1 (.t 51)), .s (.mv 14 (.t 50)), .s (.mv 15 (.t 52))]) (.seq (.reg [.s (.mv 53 (.t 15))]) (.cond (.t 53) (.reg [.s (.mv 54 (.t 13)), .s (.mv 55 (.t 14)), .s (.bs 56 (.int .i64) [(.t 55)]), .s (.app 57 (.int .i64) (.t 54) (.t 56)), .s (.mv 13 (.t 57))]) (.skip))))) (.reg [.s (.bin 58 .add (.t 48) (.k (.v (.c (.int .i64 1))))), .s (.mv 48 (.t 58))])))
def pf_impl_cellsBy : PF := ⟨[.t 6], .seq (.reg [.s (.box 3 (.t 0)), .s (.mv 6 (.k (.v (.c (.nils (.int .i64))))))]) (.seq (.reg [.s (.mkS 16 .bool (.k (.v (.c (.int .i64 24))))), .s (.mv 7 (.t 16))]) (.seq (.seq (.reg [.s (.load 17 true 2 (.t 3)), .s (.mv 18 (.t 1)), .s (.call (some 19) 13 [(.t 17), (.t 18)]), .s (.len 20 false (.t 19)), .s (.mv 21 (.k (.v (.c (.int .i64 0)))))]) (.blk 0 (.loop [2, 7, 19, 20, 21] lb_impl_cellsBy_1))) (.seq (.reg [.s (.bs 45 (.int .i64) []), .s (.mv 13 (.t 45))]) (.seq (.seq (.reg [.s (.mv 46 (.t 7)), .s (.len 47 false (.t 46)), .s (.mv 48 (.k (.v (.c (.int .i64 0)))))]) (.blk 4 (.loop [13, 46, 47, 48] lb_impl_cellsBy_2))) (.seq (.reg [.s (.mv 59 (.t 13)), .s (.mv 6 (.t 59))]) (.ret))))))⟩
def c_impl_cellsBy : Fun := ⟨76, [], fun ts K => as3 ts fun t0 t1 t2 => arG pMemT t0 fun m => arC (pL .word) t1 fun l => arC (pI .i64) t2 fun p => chk (LMem m 2147483647 ∧ l.length ≤ 1048576) (K (tL true (.int .i64) (cellsBy m l p)) [])⟩
theorem run_impl_cellsBy (m : Mem) (l : List (FT.Ty .word)) (p : Int) (hpre : LMem m 2147483647 ∧ l.length ≤ 1048576) : runK [c_impl_Closure, c_impl_spanned, c_impl_has] (l.length + 30) [] pf_impl_cellsBy [tG (m.tc false []), tL false .word l, tI .i64 p] fun r o => r = tL true (.int .i64) (cellsBy m l p) ∧ o = [] := by
  have h1 := closure_len m l
  have h2 := closure_out m l
  conv => whnf
  refine chk_i (by omega) ?_
  conv => whnf
  refine chk_i hpre ?_
  conv => whnf
  simp only [etaMemory]
  unfold cellsBy
  generalize closure m l = ws at *
  refine loop (α := Nat × List Bool) (fun q => ⟨[(2, .v (.c (.int .i64 p))), (7, .v (.c (.sl true .bool 0))), (19, .v (.c (.sl false .word 1))), (20, .v (.c (.int .i64 (ws.length : Int)))), (21, .v (.c (.int .i64 (q.1 : Int))))],
        [(1, some (.flat true .word none ws)), (0, some (.flat true .bool none q.2))], nums.tail.tail, [], false, []⟩)
      (fun q => q.1 ≤ ws.length ∧ q.2.length = 24 ∧ ∀ c, c < 24 → q.2.getD c false = coverP (ws.take q.1) p c) (fun q => ws.length - q.1) (fun q R hI hR => ?_) (0, List.replicate 24 false) _
      ⟨by simp, by simp, fun c hc => by rw [rep_getD hc]; rfl⟩ (by dsimp only; omega)
  obtain ⟨i, hit⟩ := q
  obtain ⟨hi, hl, hx⟩ := hI
  dsimp only at hi hl hx
  dsimp only
  conv => whnf
  refine sel_i (fun h => ?_) (fun h => ?_)
  · have hlt : i < ws.length := by simpa using h
    clear h
    obtain ⟨b1, b2, b3⟩ := wout_bounds h2 hlt
    have hs : ∀ c : Nat, coverP (ws.take (i + 1)) p c = (coverP (ws.take i) p c || (hasP (ws.getD i (FT.zero .word)) p && inR c (ws.getD i (FT.zero .word)).key.base ((ws.getD i (FT.zero .word)).key.top - 1))) := fun c => any_take _ (FT.zero .word) hlt
    conv => whnf
    repeat' (first | (refine sel_i (fun h => ?_) (fun h => ?_) <;> conv => whnf) | (refine chk_c ?_ ?_ <;> conv => whnf) | (refine And.intro ?_ rfl) | (refine And.intro ?_ ?_ <;> conv => whnf))
    all_goals (try simp only [etaKey, etaWord, Int.toNat_natCast, Bool.not_eq_true', Bool.not_eq_false'] at *)
    all_goals generalize ws.getD i (FT.zero .word) = w at *
    all_goals first
      | (refine ⟨?_⟩; omega)
      | skip
    · rw [wrap_id (n := (i : Int) + 1) (by omega) (by omega)]
      exact hR (i + 1, hit) ⟨hlt, hl, fun c hc => by rw [hs, h, Bool.false_and, Bool.or_false]; exact hx c hc⟩ (by dsimp only; omega)
    refine loop (α := Int × List Bool) (fun q => ⟨[(2, .v (.c (.int .i64 p))), (7, .v (.c (.sl true .bool 0))), (11, .v (.c (.int .i64 (min w.key.top 24)))), (12, .v (.c (.int .i64 q.1))), (19, .v (.c (.sl false .word 1))), (20, .v (.c (.int .i64 (ws.length : Int)))), (21, .v (.c (.int .i64 (i : Int))))],
          [(1, some (.flat true .word none ws)), (0, some (.flat true .bool none q.2))], nums.tail.tail, [], false, []⟩)
        (fun q => (w.key.base ≤ q.1 ∧ q.1 ≤ max w.key.base (min w.key.top 24)) ∧ q.2.length = 24 ∧ ∀ c : Nat, c < 24 → q.2.getD c false = (hit.getD c false || (decide (w.key.base ≤ c) && decide ((c : Int) < q.1)))) (fun q => (min w.key.top 24 - q.1).toNat) (fun q R2 hI2 hR2 => ?_) (w.key.base, hit) _
        ⟨by dsimp only; omega, hl, fun c hc => by
          have : (decide (w.key.base ≤ (c : Int)) && decide ((c : Int) < w.key.base)) = false := by
            by_cases hh : w.key.base ≤ (c : Int) <;> simp [hh] <;> omega
          simp only [this, Bool.or_false]⟩ (by dsimp only; omega)
    obtain ⟨n, hit2⟩ := q
    obtain ⟨gn, gl, gx⟩ := hI2
    dsimp only at gn gl gx
    dsimp only
    conv => whnf
    refine sel_i (fun h3 => ?_) (fun h3 => ?_)
    · have hn : n < min w.key.top 24 := by simpa using h3
      clear h3
      conv => whnf
      repeat' (first | (refine sel_i (fun h => ?_) (fun h => ?_) <;> conv => whnf) | (refine chk_c ?_ ?_ <;> conv => whnf) | (refine And.intro ?_ rfl) | (refine And.intro ?_ ?_ <;> conv => whnf))
      all_goals first
        | (refine ⟨?_⟩; omega)
        | skip
      rw [wrap_id (n := n + 1) (by omega) (by omega)]
      exact hR2 (n + 1, hit2.set n.toNat true) ⟨by dsimp only; omega, by simpa using gl, fun c hc => by
        rw [getD_set _ _ _ _ _ (by omega), gx c hc]
        by_cases e : n.toNat = c
        · rw [if_pos e]
          have e1 : decide (w.key.base ≤ (c : Int)) = true := decide_eq_true (by omega)
          have e2 : decide ((c : Int) < n + 1) = true := decide_eq_true (by omega)
          simp only [e1, e2, Bool.and_self, Bool.or_true]
        · rw [if_neg e]
          have e2 : decide ((c : Int) < n + 1) = decide ((c : Int) < n) := decide_eq_decide.2 (by omega)
          rw [e2]⟩ (by dsimp only; omega)
    · have hn : min w.key.top 24 ≤ n := by simp at h3; omega
      conv => whnf
      rw [wrap_id (n := (i : Int) + 1) (by omega) (by omega)]
      exact hR (i + 1, hit2) ⟨hlt, gl, fun c hc => by
        rw [hs, h, gx c hc, hx c hc, Bool.true_and]
        congr 1
        unfold inR
        by_cases e : w.key.base ≤ (c : Int)
        · rw [decide_eq_true e, Bool.true_and, Bool.true_and]
          exact decide_eq_decide.2 (by omega)
        · rw [decide_eq_false e]; rfl⟩ (by dsimp only; omega)
  · have he : i = ws.length := by simp at h; omega
    clear h hR
    subst he
    rw [List.take_length] at hx
    conv => whnf
    refine loop (α := Nat × List Int) (fun q => ⟨[(13, .v (.c (.sl true (.int .i64) 0))), (46, .v (.c (.sl true .bool 1))), (47, .v (.c (.int .i64 (hit.length : Int)))), (48, .v (.c (.int .i64 (q.1 : Int))))],
          [(1, some (.flat true .bool none hit)), (0, some (.flat true (.int .i64) none q.2))], nums.tail.tail, [], false, []⟩)
        (fun q => q.1 ≤ 24 ∧ q.2 = filt (coverP ws p) q.1) (fun q => 24 - q.1) (fun q R hI hR => ?_) (0, []) _ ⟨by simp, rfl⟩ (by dsimp only; omega)
    obtain ⟨c, out⟩ := q
    obtain ⟨hc, hy⟩ := hI
    dsimp only at hc hy
    dsimp only
    have hol : out.length ≤ c := by rw [hy]; exact filt_len _ _
    conv => whnf
    rw [hl]
    refine sel_i (fun h => ?_) (fun h => ?_)
    · have hc2 : c < 24 := by simp at h; omega
      clear h
      conv => whnf
      repeat' (first | (refine sel_i (fun h => ?_) (fun h => ?_) <;> conv => whnf) | (refine chk_c ?_ ?_ <;> conv => whnf) | (refine And.intro ?_ rfl) | (refine And.intro ?_ ?_ <;> conv => whnf))
      all_goals (try simp only [Int.toNat_natCast] at *)
      all_goals first
        | (refine ⟨?_⟩; omega)
        | (refine ⟨?_⟩; simp; omega)
        | skip
      · rw [wrap_id (n := (c : Int) + 1) (by omega) (by omega)]
        have := hR (c + 1, out ++ [(c : Int)]) ⟨by dsimp only; omega, by rw [filt_yes (by rw [← hx c hc2]; exact h), hy]⟩ (by dsimp only; omega)
        rw [hl] at this
        exact this
      · rw [wrap_id (n := (c : Int) + 1) (by omega) (by omega)]
        have := hR (c + 1, out) ⟨by dsimp only; omega, by rw [filt_no (by rw [← hx c hc2]; exact h), hy]⟩ (by dsimp only; omega)
        rw [hl] at this
        exact this
    · have e : c = 24 := by simp at h; omega
      subst e
      conv => whnf
      rw [hy]
      exact ⟨rfl, rfl⟩
theorem ok_impl_cellsBy : FunOk Tryz.prog c_impl_cellsBy := funOk (E := [c_impl_Closure, c_impl_spanned, c_impl_has]) (envOk_cons ok_impl_Closure (envOk_cons ok_impl_spanned (envOk_cons ok_impl_has (envOk_nil)))) mixd Tryz.func76 (pf := pf_impl_cellsBy) (by kernel_rfl) fun ts K h => by
  obtain ⟨t0, t1, t2, e0, h⟩ := as3_out h
  subst e0
  obtain ⟨m, e1, hq⟩ := arG_out rd_mem h
  clear h
  subst e1
  have h := hq
  clear hq
  obtain ⟨l, e1, hq⟩ := arC_out (rd_l .word) h
  clear h
  subst e1
  have h := hq
  clear hq
  obtain ⟨p, e1, hq⟩ := arC_out (rd_int .i64) h
  clear h
  subst e1
  have h := hq
  clear hq
  obtain ⟨hpre, h⟩ := chk_o h
  exact ⟨_, _, h, Nat.le_of_ble_eq_true (show Nat.ble 3 Tryz.f76.ntmps = true by kernel_rfl), _, run_impl_cellsBy m l p hpre⟩

def pf_impl_LoadCells : PF := ⟨[.t 4], .seq (.reg [.s (.box 2 (.t 0)), .s (.mv 4 (.k (.v (.c (.nils (.int .i64))))))]) (.seq (.reg [.s (.load 5 true 2 (.t 2)), .s (.mv 6 (.t 1)), .s (.call (some 7) 76 [(.t 5), (.t 6), (.k (.v (.c (.int .i64 1))))]), .s (.mv 4 (.t 7))]) (.ret))⟩
def c_impl_LoadCells : Fun := ⟨14, [], fun ts K => as2 ts fun t0 t1 => arG pMemT t0 fun m => arC (pL .word) t1 fun l => chk (LMem m 2147483647 ∧ l.length ≤ 1048576) (K (tL true (.int .i64) (cellsBy m l 1)) [])⟩
theorem run_impl_LoadCells (m : Mem) (l : List (FT.Ty .word)) (hpre : LMem m 2147483647 ∧ l.length ≤ 1048576) : runK [c_impl_cellsBy] (0) [] pf_impl_LoadCells [tG (m.tc false []), tL false .word l] fun r o => r = tL true (.int .i64) (cellsBy m l 1) ∧ o = [] := by
  conv => whnf
  repeat' (first | (refine sel_i (fun h => ?_) (fun h => ?_) <;> conv => whnf) | (refine chk_c ?_ ?_ <;> conv => whnf) | (refine And.intro ?_ rfl) | (refine And.intro ?_ ?_ <;> conv => whnf))
  all_goals first | rfl | (refine ⟨?_⟩; exact hpre)
theorem ok_impl_LoadCells : FunOk Tryz.prog c_impl_LoadCells := funOk (E := [c_impl_cellsBy]) (envOk_cons ok_impl_cellsBy (envOk_nil)) mixd Tryz.func14 (pf := pf_impl_LoadCells) (by kernel_rfl) fun ts K h => by
  obtain ⟨t0, t1, e0, h⟩ := as2_out h
  subst e0
  obtain ⟨m, e1, hq⟩ := arG_out rd_mem h
  clear h
  subst e1
  have h := hq
  clear hq
  obtain ⟨l, e1, hq⟩ := arC_out (rd_l .word) h
  clear h
  subst e1
  have h := hq
  clear hq
  obtain ⟨hpre, h⟩ := chk_o h
  exact ⟨_, _, h, Nat.le_of_ble_eq_true (show Nat.ble 2 Tryz.f14.ntmps = true by kernel_rfl), _, run_impl_LoadCells m l hpre⟩

def pf_impl_StoreCells : PF := ⟨[.t 4], .seq (.reg [.s (.box 2 (.t 0)), .s (.mv 4 (.k (.v (.c (.nils (.int .i64))))))]) (.seq (.reg [.s (.load 5 true 2 (.t 2)), .s (.mv 6 (.t 1)), .s (.call (some 7) 76 [(.t 5), (.t 6), (.k (.v (.c (.int .i64 2))))]), .s (.mv 4 (.t 7))]) (.ret))⟩
def c_impl_StoreCells : Fun := ⟨15, [], fun ts K => as2 ts fun t0 t1 => arG pMemT t0 fun m => arC (pL .word) t1 fun l => chk (LMem m 2147483647 ∧ l.length ≤ 1048576) (K (tL true (.int .i64) (cellsBy m l 2)) [])⟩
theorem run_impl_StoreCells (m : Mem) (l : List (FT.Ty .word)) (hpre : LMem m 2147483647 ∧ l.length ≤ 1048576) : runK [c_impl_cellsBy] (0) [] pf_impl_StoreCells [tG (m.tc false []), tL false .word l] fun r o => r = tL true (.int .i64) (cellsBy m l 2) ∧ o = [] := by
  conv => whnf
  repeat' (first | (refine sel_i (fun h => ?_) (fun h => ?_) <;> conv => whnf) | (refine chk_c ?_ ?_ <;> conv => whnf) | (refine And.intro ?_ rfl) | (refine And.intro ?_ ?_ <;> conv => whnf))
  all_goals first | rfl | (refine ⟨?_⟩; exact hpre)
theorem ok_impl_StoreCells : FunOk Tryz.prog c_impl_StoreCells := funOk (E := [c_impl_cellsBy]) (envOk_cons ok_impl_cellsBy (envOk_nil)) mixd Tryz.func15 (pf := pf_impl_StoreCells) (by kernel_rfl) fun ts K h => by
  obtain ⟨t0, t1, e0, h⟩ := as2_out h
  subst e0
  obtain ⟨m, e1, hq⟩ := arG_out rd_mem h
  clear h
  subst e1
  have h := hq
  clear hq
  obtain ⟨l, e1, hq⟩ := arC_out (rd_l .word) h
  clear h
  subst e1
  have h := hq
  clear hq
  obtain ⟨hpre, h⟩ := chk_o h
  exact ⟨_, _, h, Nat.le_of_ble_eq_true (show Nat.ble 2 Tryz.f15.ntmps = true by kernel_rfl), _, run_impl_StoreCells m l hpre⟩

def heldW (s : Side) : List Word := s.regs ++ [s.pc]
def meetI (a b : List Int) : Bool := a.any (fun n => b.any (fun x => n == x))
def crossesB (m : Mem) (a b : List Word) : Bool := meetI (cellsBy m a 2) (cellsBy m b 1 ++ cellsBy m b 2)
def apartB (t : Two) : Bool := twoOk t && !canSeal t.mem (heldW t.a) && !canSeal t.mem (heldW t.b) && (!crossesB t.mem (heldW t.a) (heldW t.b) && !crossesB t.mem (heldW t.b) (heldW t.a))
theorem cellsBy_le (m : Mem) (l : List Word) (p : Int) : (cellsBy m l p).length ≤ 24 := filt_len _ _

def LHeap (h : Heap) (n : Nat) : Prop := LMem h.mem n ∧ h.live.length ≤ n ∧ h.waits.length ≤ n
theorem LHeap.mono {t : Heap} {n m : Nat} (h : LHeap t n) (k : n ≤ m) : LHeap t m := ⟨⟨Nat.le_trans h.1.1 k, Nat.le_trans h.1.2 k⟩, Nat.le_trans h.2.1 k, Nat.le_trans h.2.2 k⟩
theorem inR_t {n lo hi : Int} : inR n lo hi = true ↔ lo ≤ n ∧ n ≤ hi := by simp [inR]
theorem inR_f {n lo hi : Int} : inR n lo hi = false ↔ (n < lo ∨ hi < n) := by
  rw [Bool.eq_false_iff, ne_eq, inR_t]; omega

def allR (f : Nat → Bool) (n : Nat) : Bool := (List.range n).all f

def plainW (n : Int) : Word := ⟨andI n 65535, false, ⟨0, 0, 0, 0⟩⟩
def gonB (g : List Bool) (w : Word) : Bool := w.is && inR w.key.base 0 (g.length - 1) && g.getD w.key.base.toNat false
def filterW (g : List Bool) (w : Word) : Word := if gonB g w then plainW w.n else w

def pf_spec_Plain : PF := ⟨[.c 2 true 6], .seq (.reg [.s (.alloc 2 [.int .i64 0, .ff, .int .i64 0, .int .i64 0, .int .i64 0, .int .i64 0])]) (.seq (.reg [.s (.mv 3 (.t 0)), .s (.bin 4 .and (.t 3) (.k (.v (.c (.int .i64 65535))))), .s (.build 5 [.int .i64 0, .ff, .int .i64 0, .int .i64 0, .int .i64 0, .int .i64 0] [(0, 1, (.t 4))]), .s (.store 6 (.t 2) (.t 5))]) (.ret))⟩
def c_spec_Plain : Fun := ⟨141, [], fun ts K => as1 ts fun t0 => arC (pI .i64) t0 fun n => K (tG ((plainW n).tc [])) []⟩
theorem run_spec_Plain (n : Int) : runK [] (0) [] pf_spec_Plain [tI .i64 n] fun r o => r = tG ((plainW n).tc []) ∧ o = [] := by
  conv => whnf
  repeat' (first
    | exact rfl
    | exact trivial
    | (refine sel_i (fun h => ?_) (fun h => ?_) <;> conv => whnf)
    | (refine chk_c ?_ ?_ <;> conv => whnf)
    | (refine And.intro ?_ ?_ <;> conv => whnf))
theorem ok_spec_Plain : FunOk Tryz.prog c_spec_Plain := funOk (E := []) (envOk_nil) mixd Tryz.func141 (pf := pf_spec_Plain) (by kernel_rfl) fun ts K h => by
  obtain ⟨t0, e0, h⟩ := as1_out h
  subst e0
  obtain ⟨n, e1, hq⟩ := arC_out (rd_int .i64) h
  clear h
  subst e1
  have h := hq
  clear hq
  exact ⟨_, _, h, Nat.le_of_ble_eq_true (show Nat.ble 1 Tryz.f141.ntmps = true by kernel_rfl), _, run_spec_Plain n⟩

def pf_impl_Plain : PF := ⟨[.c 2 true 6], .seq (.reg [.s (.alloc 2 [.int .i64 0, .ff, .int .i64 0, .int .i64 0, .int .i64 0, .int .i64 0])]) (.seq (.reg [.s (.mv 3 (.t 0)), .s (.bin 4 .and (.t 3) (.k (.v (.c (.int .i64 65535))))), .s (.build 5 [.int .i64 0, .ff, .int .i64 0, .int .i64 0, .int .i64 0, .int .i64 0] [(0, 1, (.t 4))]), .s (.store 6 (.t 2) (.t 5))]) (.ret))⟩
def c_impl_Plain : Fun := ⟨249, [], fun ts K => as1 ts fun t0 => arC (pI .i64) t0 fun n => K (tG ((plainW n).tc [])) []⟩
theorem run_impl_Plain (n : Int) : runK [] (0) [] pf_impl_Plain [tI .i64 n] fun r o => r = tG ((plainW n).tc []) ∧ o = [] := by
  conv => whnf
  repeat' (first
    | exact rfl
    | exact trivial
    | (refine sel_i (fun h => ?_) (fun h => ?_) <;> conv => whnf)
    | (refine chk_c ?_ ?_ <;> conv => whnf)
    | (refine And.intro ?_ ?_ <;> conv => whnf))
theorem ok_impl_Plain : FunOk Tryz.prog c_impl_Plain := funOk (E := []) (envOk_nil) mixd Tryz.func249 (pf := pf_impl_Plain) (by kernel_rfl) fun ts K h => by
  obtain ⟨t0, e0, h⟩ := as1_out h
  subst e0
  obtain ⟨n, e1, hq⟩ := arC_out (rd_int .i64) h
  clear h
  subst e1
  have h := hq
  clear hq
  exact ⟨_, _, h, Nat.le_of_ble_eq_true (show Nat.ble 1 Tryz.f249.ntmps = true by kernel_rfl), _, run_impl_Plain n⟩

def pf_spec_Bare : PF := ⟨[.c 2 true 6], .seq (.reg [.s (.box 1 (.t 0)), .s (.alloc 2 [.int .i64 0, .ff, .int .i64 0, .int .i64 0, .int .i64 0, .int .i64 0])]) (.seq (.reg [.s (.fa 3 (.t 1) 0), .s (.load 4 false 1 (.t 3)), .s (.call (some 5) 141 [(.t 4)]), .s (.store 6 (.t 2) (.t 5))]) (.ret))⟩
def c_spec_Bare : Fun := ⟨265, [], fun ts K => as1 ts fun t0 => arG pWordT t0 fun w => K (tG ((plainW w.n).tc [])) []⟩
theorem run_spec_Bare (w : Word) : runK [c_spec_Plain] (0) [] pf_spec_Bare [tG (w.tc [])] fun r o => r = tG ((plainW w.n).tc []) ∧ o = [] := by
  conv => whnf
  repeat' (first
    | exact rfl
    | exact trivial
    | (refine sel_i (fun h => ?_) (fun h => ?_) <;> conv => whnf)
    | (refine chk_c ?_ ?_ <;> conv => whnf)
    | (refine And.intro ?_ ?_ <;> conv => whnf))
theorem ok_spec_Bare : FunOk Tryz.prog c_spec_Bare := funOk (E := [c_spec_Plain]) (envOk_cons ok_spec_Plain (envOk_nil)) mixd Tryz.func265 (pf := pf_spec_Bare) (by kernel_rfl) fun ts K h => by
  obtain ⟨t0, e0, h⟩ := as1_out h
  subst e0
  obtain ⟨w, e1, hq⟩ := arG_out rd_word h
  clear h
  subst e1
  have h := hq
  clear hq
  exact ⟨_, _, h, Nat.le_of_ble_eq_true (show Nat.ble 1 Tryz.f265.ntmps = true by kernel_rfl), _, run_spec_Bare w⟩

def pf_impl_Bare : PF := ⟨[.c 2 true 6], .seq (.reg [.s (.box 1 (.t 0)), .s (.alloc 2 [.int .i64 0, .ff, .int .i64 0, .int .i64 0, .int .i64 0, .int .i64 0])]) (.seq (.reg [.s (.fa 3 (.t 1) 0), .s (.load 4 false 1 (.t 3)), .s (.call (some 5) 249 [(.t 4)]), .s (.store 6 (.t 2) (.t 5))]) (.ret))⟩
def c_impl_Bare : Fun := ⟨247, [], fun ts K => as1 ts fun t0 => arG pWordT t0 fun w => K (tG ((plainW w.n).tc [])) []⟩
theorem run_impl_Bare (w : Word) : runK [c_impl_Plain] (0) [] pf_impl_Bare [tG (w.tc [])] fun r o => r = tG ((plainW w.n).tc []) ∧ o = [] := by
  conv => whnf
  repeat' (first
    | exact rfl
    | exact trivial
    | (refine sel_i (fun h => ?_) (fun h => ?_) <;> conv => whnf)
    | (refine chk_c ?_ ?_ <;> conv => whnf)
    | (refine And.intro ?_ ?_ <;> conv => whnf))
theorem ok_impl_Bare : FunOk Tryz.prog c_impl_Bare := funOk (E := [c_impl_Plain]) (envOk_cons ok_impl_Plain (envOk_nil)) mixd Tryz.func247 (pf := pf_impl_Bare) (by kernel_rfl) fun ts K h => by
  obtain ⟨t0, e0, h⟩ := as1_out h
  subst e0
  obtain ⟨w, e1, hq⟩ := arG_out rd_word h
  clear h
  subst e1
  have h := hq
  clear hq
  exact ⟨_, _, h, Nat.le_of_ble_eq_true (show Nat.ble 1 Tryz.f247.ntmps = true by kernel_rfl), _, run_impl_Bare w⟩

def pf_spec_Filter : PF := ⟨[.c 4 true 6], .seq (.reg [.s (.box 2 (.t 0)), .s (.box 3 (.t 1)), .s (.alloc 4 [.int .i64 0, .ff, .int .i64 0, .int .i64 0, .int .i64 0, .int .i64 0])]) (.seq (.seq (.reg [.s (.fa 5 (.t 3) 1), .s (.load 6 false 1 (.t 5)), .s (.mv 7 (.t 6)), .g 7 true (some 8) (.fa 8 (.t 3) 2), .g 7 true (some 9) (.fa 9 (.t 8) 0), .g 7 true (some 10) (.load 10 false 1 (.t 9)), .g 7 true (some 11) (.fa 11 (.t 2) 1), .g 7 true (some 12) (.load 12 false 1 (.t 11)), .g 7 true (some 13) (.len 13 false (.t 12)), .g 7 true (some 14) (.bin 14 .sub (.t 13) (.k (.v (.c (.int .i64 1))))), .g 7 true (some 15) (.call (some 15) 102 [(.t 10), (.k (.v (.c (.int .i64 0)))), (.t 14)]), .s (.pick 16 (.t 7) (.t 15) (.k (.v (.c .ff)))), .s (.mv 17 (.t 16)), .g 17 true (some 18) (.fa 18 (.t 2) 1), .g 17 true (some 19) (.load 19 false 1 (.t 18)), .g 17 true (some 20) (.fa 20 (.t 3) 2), .g 17 true (some 21) (.fa 21 (.t 20) 0), .g 17 true (some 22) (.load 22 false 1 (.t 21)), .g 17 true (some 23) (.ia 23 .bool (.t 19) (.t 22)), .g 17 true (some 24) (.load 24 false 1 (.t 23)), .s (.pick 25 (.t 17) (.t 24) (.k (.v (.c .ff))))]) (.cond (.t 25) (.seq (.reg [.s (.load 26 true 6 (.t 3)), .s (.call (some 27) 265 [(.t 26)]), .s (.store 6 (.t 4) (.t 27))]) (.ret)) (.skip))) (.seq (.reg [.s (.load 28 true 6 (.t 3)), .s (.store 6 (.t 4) (.t 28))]) (.ret)))⟩
def c_spec_Filter : Fun := ⟨229, [], fun ts K => as2 ts fun t0 t1 => arG pMemT t0 fun m => arG pWordT t1 fun w => chk (LMem m 2147483647) (K (tG ((filterW m.gone w).tc [])) [])⟩
theorem run_spec_Filter (m : Mem) (w : Word) (hpre : LMem m 2147483647) : runK [c_spec_l1In, c_spec_Bare] (0) [] pf_spec_Filter [tG (m.tc false []), tG (w.tc [])] fun r o => r = tG ((filterW m.gone w).tc []) ∧ o = [] := by
  obtain ⟨l1, l2⟩ := hpre
  have w1 : IntKind.i64.wrap ((m.gone.length : Int) - 1) = (m.gone.length : Int) - 1 := wrap_id (by omega) (by omega)
  conv => whnf
  repeat' (first | (refine sel_i (fun h => ?_) (fun h => ?_) <;> conv => whnf) | (refine chk_c ?_ ?_ <;> conv => whnf) | (refine And.intro ?_ rfl) | (refine And.intro ?_ ?_ <;> conv => whnf))
  all_goals (try simp only [w1, show FT.zero .bool = false from rfl] at *)
  all_goals first
    | (refine ⟨?_⟩; rename_i g; have := inR_t.1 g; omega)
    | (refine ⟨?_⟩; have := inR_t.1 h; omega)
    | (rw [show filterW m.gone w = plainW w.n by simp only [filterW, gonB, *, Bool.and_self, if_true]]; rfl)
    | (rw [show filterW m.gone w = w by simp only [filterW, gonB, *, Bool.and_false, Bool.false_and, Bool.false_eq_true, if_false]]; rfl)
    | trace_state
theorem ok_spec_Filter : FunOk Tryz.prog c_spec_Filter := funOk (E := [c_spec_l1In, c_spec_Bare]) (envOk_cons ok_spec_l1In (envOk_cons ok_spec_Bare (envOk_nil))) mixd Tryz.func229 (pf := pf_spec_Filter) (by kernel_rfl) fun ts K h => by
  obtain ⟨t0, t1, e0, h⟩ := as2_out h
  subst e0
  obtain ⟨m, e1, hq⟩ := arG_out rd_mem h
  clear h
  subst e1
  have h := hq
  clear hq
  obtain ⟨w, e1, hq⟩ := arG_out rd_word h
  clear h
  subst e1
  have h := hq
  clear hq
  obtain ⟨hpre, h⟩ := chk_o h
  exact ⟨_, _, h, Nat.le_of_ble_eq_true (show Nat.ble 2 Tryz.f229.ntmps = true by kernel_rfl), _, run_spec_Filter m w hpre⟩

def pf_impl_Filter : PF := ⟨[.c 4 true 6], .seq (.reg [.s (.box 2 (.t 0)), .s (.box 3 (.t 1)), .s (.alloc 4 [.int .i64 0, .ff, .int .i64 0, .int .i64 0, .int .i64 0, .int .i64 0])]) (.seq (.seq (.reg [.s (.fa 5 (.t 3) 1), .s (.load 6 false 1 (.t 5)), .s (.mv 7 (.t 6)), .g 7 true (some 8) (.fa 8 (.t 3) 2), .g 7 true (some 9) (.fa 9 (.t 8) 0), .g 7 true (some 10) (.load 10 false 1 (.t 9)), .g 7 true (some 11) (.fa 11 (.t 2) 1), .g 7 true (some 12) (.load 12 false 1 (.t 11)), .g 7 true (some 13) (.len 13 false (.t 12)), .g 7 true (some 14) (.bin 14 .sub (.t 13) (.k (.v (.c (.int .i64 1))))), .g 7 true (some 15) (.call (some 15) 71 [(.t 10), (.k (.v (.c (.int .i64 0)))), (.t 14)]), .s (.pick 16 (.t 7) (.t 15) (.k (.v (.c .ff)))), .s (.mv 17 (.t 16)), .g 17 true (some 18) (.fa 18 (.t 2) 1), .g 17 true (some 19) (.load 19 false 1 (.t 18)), .g 17 true (some 20) (.fa 20 (.t 3) 2), .g 17 true (some 21) (.fa 21 (.t 20) 0), .g 17 true (some 22) (.load 22 false 1 (.t 21)), .g 17 true (some 23) (.ia 23 .bool (.t 19) (.t 22)), .g 17 true (some 24) (.load 24 false 1 (.t 23)), .s (.pick 25 (.t 17) (.t 24) (.k (.v (.c .ff))))]) (.cond (.t 25) (.seq (.reg [.s (.load 26 true 6 (.t 3)), .s (.call (some 27) 247 [(.t 26)]), .s (.store 6 (.t 4) (.t 27))]) (.ret)) (.skip))) (.seq (.reg [.s (.load 28 true 6 (.t 3)), .s (.store 6 (.t 4) (.t 28))]) (.ret)))⟩
def c_impl_Filter : Fun := ⟨206, [], fun ts K => as2 ts fun t0 t1 => arG pMemT t0 fun m => arG pWordT t1 fun w => chk (LMem m 2147483647) (K (tG ((filterW m.gone w).tc [])) [])⟩
theorem run_impl_Filter (m : Mem) (w : Word) (hpre : LMem m 2147483647) : runK [c_impl_in, c_impl_Bare] (0) [] pf_impl_Filter [tG (m.tc false []), tG (w.tc [])] fun r o => r = tG ((filterW m.gone w).tc []) ∧ o = [] := by
  obtain ⟨l1, l2⟩ := hpre
  have w1 : IntKind.i64.wrap ((m.gone.length : Int) - 1) = (m.gone.length : Int) - 1 := wrap_id (by omega) (by omega)
  conv => whnf
  repeat' (first | (refine sel_i (fun h => ?_) (fun h => ?_) <;> conv => whnf) | (refine chk_c ?_ ?_ <;> conv => whnf) | (refine And.intro ?_ rfl) | (refine And.intro ?_ ?_ <;> conv => whnf))
  all_goals (try simp only [w1, show FT.zero .bool = false from rfl] at *)
  all_goals first
    | (refine ⟨?_⟩; rename_i g; have := inR_t.1 g; omega)
    | (refine ⟨?_⟩; have := inR_t.1 h; omega)
    | (rw [show filterW m.gone w = plainW w.n by simp only [filterW, gonB, *, Bool.and_self, if_true]]; rfl)
    | (rw [show filterW m.gone w = w by simp only [filterW, gonB, *, Bool.and_false, Bool.false_and, Bool.false_eq_true, if_false]]; rfl)
    | trace_state
theorem ok_impl_Filter : FunOk Tryz.prog c_impl_Filter := funOk (E := [c_impl_in, c_impl_Bare]) (envOk_cons ok_impl_in (envOk_cons ok_impl_Bare (envOk_nil))) mixd Tryz.func206 (pf := pf_impl_Filter) (by kernel_rfl) fun ts K h => by
  obtain ⟨t0, t1, e0, h⟩ := as2_out h
  subst e0
  obtain ⟨m, e1, hq⟩ := arG_out rd_mem h
  clear h
  subst e1
  have h := hq
  clear hq
  obtain ⟨w, e1, hq⟩ := arG_out rd_word h
  clear h
  subst e1
  have h := hq
  clear hq
  obtain ⟨hpre, h⟩ := chk_o h
  exact ⟨_, _, h, Nat.le_of_ble_eq_true (show Nat.ble 2 Tryz.f206.ntmps = true by kernel_rfl), _, run_impl_Filter m w hpre⟩

end Go.Pi
