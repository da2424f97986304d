/- Contracts of functions, each out of its run by PI. No conditions. -/
import Derived.Test.YthpjpaginggjaaaC2
namespace Go.Pi
open Go.Proofs
set_option linter.unusedVariables false
set_option linter.unusedSimpArgs false
set_option maxRecDepth 100000
attribute [local irreducible] iterN
theorem hi8s {n : Int} : IntKind.u8.wrap (n.fdiv (2 ^ min (Int.toNat 8) IntKind.i64.bits)) = (n / 256) % 256 := by
  rw [show (2 ^ min (Int.toNat 8) IntKind.i64.bits : Int) = 256 by decide, Int.fdiv_eq_ediv_of_nonneg _ (by decide)]
  rfl

def pf_impl_two : PF := ⟨[.t 2], .seq (.reg [.s (.mv 2 (.k (.v (.c (.nils (.int .u8))))))]) (.seq (.reg [.s (.mv 3 (.t 0)), .s (.bin 4 .shr (.t 3) (.k (.v (.c (.int .u64 8))))), .s (.conv 5 .u8 (.t 4)), .s (.mv 6 (.t 0)), .s (.conv 7 .u8 (.t 6)), .s (.bs 8 (.int .u8) [(.t 5), (.t 7)]), .s (.mv 2 (.t 8))]) (.ret))⟩
def c_impl_two : Fun := ⟨102, [], fun ts K => as1 ts fun t0 => arC (pI .i64) t0 fun n => K (tL true (.int .u8) [(n / 256) % 256, n % 256]) []⟩
theorem run_impl_two (n : Int) : runK [] (0) [] pf_impl_two [tI .i64 n] fun r o => r = tL true (.int .u8) [(n / 256) % 256, n % 256] ∧ o = [] := by
  conv => whnf
  repeat' (first | (refine sel_i (fun h => ?_) (fun h => ?_) <;> conv => whnf) | (refine chk_c ?_ ?_ <;> conv => whnf) | (refine And.intro ?_ rfl) | (refine And.intro ?_ ?_ <;> conv => whnf))
  all_goals (try simp only [hi8s])
  all_goals first
    | (refine ⟨?_⟩; decide)
    | rfl
    | trace_state
theorem ok_impl_two : FunOk Try.prog c_impl_two := funOk (E := []) (envOk_nil) mixd Try.func102 (pf := pf_impl_two) (by kernel_rfl) fun ts K h => by
  obtain ⟨t0, e0, h⟩ := as1_out h
  subst e0
  obtain ⟨n, e1, hq⟩ := arC_out (rd_int .i64) h
  clear h
  subst e1
  have h := hq
  clear hq
  exact ⟨_, _, h, Nat.le_of_ble_eq_true (show Nat.ble 1 Try.f102.ntmps = true by kernel_rfl), _, run_impl_two n⟩

def pf_impl_WordBytes : PF := ⟨[.t 2], .seq (.reg [.s (.box 1 (.t 0)), .s (.mv 2 (.k (.v (.c (.nils (.int .u8))))))]) (.seq (.seq (.reg [.s (.load 3 true 6 (.t 1)), .s (.call (some 4) 28 [(.t 3)]), .s (.bnot 5 (.t 4))]) (.cond (.t 5) (.seq (.reg [.s (.mv 2 (.k (.v (.c (.nils (.int .u8))))))]) (.ret)) (.skip))) (.seq (.seq (.reg [.s (.fa 6 (.t 1) 1), .s (.load 7 false 1 (.t 6)), .s (.bnot 8 (.t 7))]) (.cond (.t 8) (.seq (.reg [.s (.fa 9 (.t 1) 0), .s (.load 10 false 1 (.t 9)), .s (.call (some 11) 102 [(.t 10)]), .s (.bs 12 (.int .u8) [(.k (.v (.c (.int .u8 0))))]), .s (.app 13 (.int .u8) (.t 11) (.t 12)), .s (.mv 2 (.t 13))]) (.ret)) (.skip))) (.seq (.rgd [] [.s (.fa 14 (.t 1) 0), .s (.load 15 false 1 (.t 14)), .s (.call (some 16) 102 [(.t 15)]), .s (.bs 17 (.int .u8) [(.k (.v (.c (.int .u8 1))))]), .s (.fa 18 (.t 1) 2), .s (.fa 19 (.t 18) 0), .s (.load 20 false 1 (.t 19)), .s (.call (some 21) 102 [(.t 20)]), .s (.fa 22 (.t 1) 2), .s (.fa 23 (.t 22) 1), .s (.load 24 false 1 (.t 23)), .s (.call (some 25) 102 [(.t 24)]), .s (.fa 26 (.t 1) 2), .s (.fa 27 (.t 26) 2), .s (.load 28 false 1 (.t 27)), .s (.conv 29 .u8 (.t 28)), .s (.fa 30 (.t 1) 2), .s (.fa 31 (.t 30) 3), .s (.load 32 false 1 (.t 31)), .s (.conv 33 .u8 (.t 32)), .s (.bs 34 (.int .u8) [(.t 29), (.t 33)]), .s (.bsr 35 [(.t 16), (.t 17), (.t 21), (.t 25), (.t 34)]), .s (.call (some 36) 103 [(.t 35), (.k (.v (.c (.nils (.int .u8)))))]), .s (.mv 2 (.t 36))] (.tk 0 (.tk 1 (.tk 4 (.tk 5 (.tk 6 (.tk 8 (.tk 9 (.tk 10 (.tk 12 (.tk 13 (.tk 14 (.tk 15 (.tk 16 (.tk 17 (.tk 18 (.tk 19 (.alt 2 false (.alt 3 false (.alt 7 false (.alt 11 false (.one 20 false (.one 21 true (.one 22 true (.tk 23 (.done (some [2])))))) (.alt 20 false (.one 11 false (.one 21 true (.one 22 true (.tk 23 (.done (some [2])))))) (.nil))) (.alt 20 false (.one 7 false (.one 11 false (.one 21 true (.one 22 true (.tk 23 (.done (some [2]))))))) (.nil))) (.alt 7 false (.alt 3 false (.alt 11 false (.one 20 false (.one 21 true (.one 22 true (.tk 23 (.done (some [2])))))) (.alt 20 false (.one 11 false (.one 21 true (.one 22 true (.tk 23 (.done (some [2])))))) (.nil))) (.alt 11 false (.alt 3 false (.one 20 false (.one 21 true (.one 22 true (.tk 23 (.done (some [2])))))) (.alt 20 false (.one 3 false (.one 21 true (.one 22 true (.tk 23 (.done (some [2])))))) (.nil))) (.alt 20 false (.alt 3 false (.one 11 false (.one 21 true (.one 22 true (.tk 23 (.done (some [2])))))) (.alt 11 false (.one 3 false (.one 21 true (.one 22 true (.tk 23 (.done (some [2])))))) (.nil))) (.nil)))) (.alt 20 false (.alt 3 false (.one 7 false (.one 11 false (.one 21 true (.one 22 true (.tk 23 (.done (some [2]))))))) (.alt 7 false (.alt 3 false (.one 11 false (.one 21 true (.one 22 true (.tk 23 (.done (some [2])))))) (.alt 11 false (.one 3 false (.one 21 true (.one 22 true (.tk 23 (.done (some [2])))))) (.nil))) (.nil))) (.nil)))) (.alt 3 false (.alt 2 false (.alt 7 false (.alt 11 false (.one 20 false (.one 21 true (.one 22 true (.tk 23 (.done (some [2])))))) (.alt 20 false (.one 11 false (.one 21 true (.one 22 true (.tk 23 (.done (some [2])))))) (.nil))) (.alt 20 false (.one 7 false (.one 11 false (.one 21 true (.one 22 true (.tk 23 (.done (some [2]))))))) (.nil))) (.alt 20 false (.one 2 false (.one 7 false (.one 11 false (.one 21 true (.one 22 true (.tk 23 (.done (some [2])))))))) (.nil))) (.alt 20 false (.alt 2 false (.alt 3 false (.one 7 false (.one 11 false (.one 21 true (.one 22 true (.tk 23 (.done (some [2]))))))) (.alt 7 false (.alt 3 false (.one 11 false (.one 21 true (.one 22 true (.tk 23 (.done (some [2])))))) (.alt 11 false (.one 3 false (.one 21 true (.one 22 true (.tk 23 (.done (some [2])))))) (.nil))) (.nil))) (.alt 3 false (.one 2 false (.one 7 false (.one 11 false (.one 21 true (.one 22 true (.tk 23 (.done (some [2])))))))) (.nil))) (.nil))))))))))))))))))))) (.ret))))⟩
def c_impl_WordBytes : Fun := ⟨31, [], fun ts K => as1 ts fun t0 => arG pWordT t0 fun w => K (tL true (.int .u8) (wordBytes w)) []⟩
theorem run_impl_WordBytes (w : Word) : runK [c_impl_WordOk, c_impl_two, c_bytes_Join] (0) [] pf_impl_WordBytes [tG (w.tc [])] fun r o => r = tL true (.int .u8) (wordBytes w) ∧ o = [] := by
  conv => whnf
  repeat' (first | (refine sel_i (fun h => ?_) (fun h => ?_) <;> conv => whnf) | (refine chk_c ?_ ?_ <;> conv => whnf) | (refine And.intro ?_ rfl) | (refine And.intro ?_ ?_ <;> conv => whnf))
  all_goals (try simp only [etaKey, etaWord, Bool.not_eq_true', Bool.not_eq_false'] at *)
  all_goals first
    | (refine ⟨?_⟩; show 3 ≤ 2147483647; decide)
    | trivial
    | (simp only [wordBytes, *]; rfl)
    | (rename_i h1
       have h2 := h
       have hn := wordOk_n h1
       rw [show w.n / 256 % 256 = w.n / 256 by omega]
       simp only [wordBytes, h1, h2, if_true, Bool.false_eq_true, if_false]; rfl)
    | (have h1 : wordOk w = true := by assumption
       have h2 := h
       have hn := wordOk_n h1
       have hk := wordOk_key h1 h2
       rw [show w.n / 256 % 256 = w.n / 256 by omega, show w.key.base / 256 % 256 = w.key.base / 256 by omega, show w.key.top / 256 % 256 = w.key.top / 256 by omega, u8_id (n := w.key.perms) (by omega), u8_id (n := w.key.sealed) (by omega)]
       simp only [wordBytes, h1, h2, if_true]; done)
    | trace_state
theorem ok_impl_WordBytes : FunOk Try.prog c_impl_WordBytes := funOk (E := [c_impl_WordOk, c_impl_two, c_bytes_Join]) (envOk_cons ok_impl_WordOk (envOk_cons ok_impl_two (envOk_cons ok_bytes_Join (envOk_nil)))) mixd Try.func31 (pf := pf_impl_WordBytes) (by kernel_rfl) fun ts K h => by
  obtain ⟨t0, e0, h⟩ := as1_out h
  subst e0
  obtain ⟨w, e1, hq⟩ := arG_out rd_word h
  clear h
  subst e1
  have h := hq
  clear hq
  exact ⟨_, _, h, Nat.le_of_ble_eq_true (show Nat.ble 1 Try.f31.ntmps = true by kernel_rfl), _, run_impl_WordBytes w⟩

theorem wordBytes_len (w : Word) : (wordBytes w).length ≤ 9 := by
  unfold wordBytes
  split
  · split <;> simp
  · simp


def wordsBytes (ws : List Word) : List Int := ws.flatMap wordBytes
def goneByte (b : Bool) : Int := if b then 1 else 0
def goneBytes (g : List Bool) : List Int := g.map goneByte
def stateBytes (s : State) : List Int :=
  if stateOk s then wordsBytes s.regs ++ wordBytes s.pc ++ wordsBytes s.mem.words ++ goneBytes s.mem.gone ++ [s.trap] else []
theorem wordsBytes_len : ∀ ws : List Word, (wordsBytes ws).length ≤ 9 * ws.length
  | [] => Nat.le_refl _
  | w :: ws => by
    have h1 := wordsBytes_len ws
    have h2 := wordBytes_len w
    unfold wordsBytes at *
    simp only [List.flatMap_cons, List.length_append, List.length_cons]; omega
theorem wordsBytes_app (a b : List Word) : wordsBytes (a ++ b) = wordsBytes a ++ wordsBytes b := List.flatMap_append
theorem wordsBytes_one (w : Word) : wordsBytes [w] = wordBytes w := by simp [wordsBytes]
theorem goneBytes_len (g : List Bool) : (goneBytes g).length = g.length := by simp [goneBytes]
theorem take_next {α : Type} {xs : List α} {i : Nat} {z : α} (h : i < xs.length) : xs.take (i + 1) = xs.take i ++ [xs.getD i z] := by
  rw [List.take_succ_eq_append_getElem h]; simp [List.getD_eq_getElem?_getD, h]
theorem wordsBytes_step {ws : List Word} {i : Nat} {z : Word} (h : i < ws.length) : wordsBytes (ws.take (i + 1)) = wordsBytes (ws.take i) ++ wordBytes (ws.getD i z) := by
  rw [take_next (z := z) h, wordsBytes_app, wordsBytes_one]
theorem goneBytes_step {g : List Bool} {i : Nat} {z : Bool} (h : i < g.length) : goneBytes (g.take (i + 1)) = goneBytes (g.take i) ++ [goneByte (g.getD i z)] := by
  rw [take_next (z := z) h]; simp [goneBytes]
theorem stateBytes_no {s : State} (h : stateOk s = false) : stateBytes s = [] := by unfold stateBytes; rw [h]; rfl
theorem stateBytes_ok {s : State} (h : stateOk s = true) : stateBytes s = wordsBytes s.regs ++ wordBytes s.pc ++ wordsBytes s.mem.words ++ goneBytes s.mem.gone ++ [s.trap] := if_pos h

def lb_impl_StateBytes_0 : PC := .seq (.reg [.s (.bin 18 .lss (.t 17) (.t 16))]) (.seq (.cond (.t 18) (.skip) (.exit 0)) (.seq (.blk 1 (.seq (.reg [.s (.ia 19 .word (.t 15) (.t 17)), .s (.load 20 true 6 (.t 19)), .s (.alloc 5 [.int .i64 0, .ff, .int .i64 0, .int .i64 0, .int .i64 0, .int .i64 0]), .s (.store 6 (.t 5) (.t 20))]) (.reg [.s (.mv 21 (.t 3)), .s (.load 22 true 6 (.t 5)), .s (.call (some 23) 31 [(.t 22)]), .s (.app 24 (.int .u8) (.t 21) (.t 23)), .s (.mv 3 (.t 24))]))) (.reg [.s (.bin 25 .add (.t 17) (.k (.v (.c (.int .i64 1))))), .s (.mv 17 (.t 25))])))
def lb_impl_StateBytes_1 : PC := .seq (.reg [.s (.bin 36 .lss (.t 35) (.t 34))]) (.seq (.cond (.t 36) (.skip) (.exit 2)) (.seq (.blk 3 (.seq (.reg [.s (.ia 37 .word (.t 33) (.t 35)), .s (.load 38 true 6 (.t 37)), .s (.alloc 7 [.int .i64 0, .ff, .int .i64 0, .int .i64 0, .int .i64 0, .int .i64 0]), .s (.store 6 (.t 7) (.t 38))]) (.reg [.s (.mv 39 (.t 3)), .s (.load 40 true 6 (.t 7)), .s (.call (some 41) 31 [(.t 40)]), .s (.app 42 (.int .u8) (.t 39) (.t 41)), .s (.mv 3 (.t 42))]))) (.reg [.s (.bin 43 .add (.t 35) (.k (.v (.c (.int .i64 1))))), .s (.mv 35 (.t 43))])))
def lb_impl_StateBytes_2 : PC := .seq (.reg [.s (.bin 49 .lss (.t 48) (.t 47))]) (.seq (.cond (.t 49) (.skip) (.exit 4)) (.seq (.blk 5 (.seq (.reg [.s (.ia 50 .bool (.t 46) (.t 48)), .s (.load 51 false 1 (.t 50)), .s (.mv 9 (.t 51))]) (.seq (.reg [.s (.mv 52 (.t 9))]) (.cond (.t 52) (.reg [.s (.mv 53 (.t 3)), .s (.bs 54 (.int .u8) [(.k (.v (.c (.int .u8 1))))]), .s (.app 55 (.int .u8) (.t 53) (.t 54)), .s (.mv 3 (.t 55))]) (.reg [.s (.mv 56 (.t 3)), .s (.bs 57 (.int .u8) [(.k (.v (.c (.int .u8 0))))]), .s (.app 58 (.int .u8) (.t 56) (.t 57)), .s (.mv 3 (.t 58))]))))) (.reg [.s (.bin 59 .add (.t 48) (.k (.v (.c (.int .i64 1))))), .s (.mv 48 (.t 59))])))
def pf_impl_StateBytes : PF := ⟨[.t 2], .seq (.reg [.s (.box 1 (.t 0)), .s (.mv 2 (.k (.v (.c (.nils (.int .u8))))))]) (.seq (.seq (.reg [.s (.load 10 true 10 (.t 1)), .s (.call (some 11) 43 [(.t 10)]), .s (.bnot 12 (.t 11))]) (.cond (.t 12) (.seq (.reg [.s (.mv 2 (.k (.v (.c (.nils (.int .u8))))))]) (.ret)) (.skip))) (.seq (.reg [.s (.bs 13 (.int .u8) []), .s (.mv 3 (.t 13))]) (.seq (.seq (.reg [.s (.fa 14 (.t 1) 0), .s (.load 15 false 1 (.t 14)), .s (.len 16 false (.t 15)), .s (.mv 17 (.k (.v (.c (.int .i64 0)))))]) (.blk 0 (.loop [1, 3, 15, 16, 17] lb_impl_StateBytes_0))) (.seq (.reg [.s (.mv 26 (.t 3)), .s (.fa 27 (.t 1) 1), .s (.load 28 true 6 (.t 27)), .s (.call (some 29) 31 [(.t 28)]), .s (.app 30 (.int .u8) (.t 26) (.t 29)), .s (.mv 3 (.t 30))]) (.seq (.seq (.reg [.s (.fa 31 (.t 1) 7), .s (.fa 32 (.t 31) 0), .s (.load 33 false 1 (.t 32)), .s (.len 34 false (.t 33)), .s (.mv 35 (.k (.v (.c (.int .i64 0)))))]) (.blk 2 (.loop [1, 3, 33, 34, 35] lb_impl_StateBytes_1))) (.seq (.seq (.reg [.s (.fa 44 (.t 1) 7), .s (.fa 45 (.t 44) 1), .s (.load 46 false 1 (.t 45)), .s (.len 47 false (.t 46)), .s (.mv 48 (.k (.v (.c (.int .i64 0)))))]) (.blk 4 (.loop [1, 3, 46, 47, 48] lb_impl_StateBytes_2))) (.seq (.reg [.s (.mv 60 (.t 3)), .s (.fa 61 (.t 1) 9), .s (.load 62 false 1 (.t 61)), .s (.conv 63 .u8 (.t 62)), .s (.bs 64 (.int .u8) [(.t 63)]), .s (.app 65 (.int .u8) (.t 60) (.t 64)), .s (.mv 2 (.t 65))]) (.ret))))))))⟩
def c_impl_StateBytes : Fun := ⟨36, [], fun ts K => as1 ts fun t0 => arG pStateT t0 fun s => chk (LState s 2147483647) (K (tL true (.int .u8) (stateBytes s)) [])⟩
theorem run_impl_StateBytes (s : State) (hpre : LState s 2147483647) : runK [c_impl_WordBytes, c_impl_StateOk] (30) [] pf_impl_StateBytes [tG (s.tc false [])] fun r o => r = tL true (.int .u8) (stateBytes s) ∧ o = [] := by
  obtain ⟨l2, l3, l4⟩ := hpre
  conv => whnf
  refine chk_i ⟨l2, l3, l4⟩ ?_
  conv => whnf
  refine sel_i (fun h => ?_) (fun h => ?_)
  · conv => whnf
    rw [stateBytes_no (by simpa using h)]
    exact ⟨rfl, rfl⟩
  have hok : stateOk s = true := by simpa [etaKey, etaWord, etaMemory, etaState] using h
  obtain ⟨e1, e2, e3⟩ := stateOk_len hok
  have ht := stateOk_trap hok
  conv => whnf
  refine loop (α := Nat × List Int) (fun q => ⟨[(1, .v (.c (.ptr 0 0))), (3, .v (.c (.sl true (.int .u8) 4))), (15, .v (.c (.sl false .word 1))), (16, .v (.c (.int .i64 (s.regs.length : Int)))), (17, .v (.c (.int .i64 (q.1 : Int))))],
        [(4, some (.flat true (.int .u8) none q.2)), (3, some (.flat false .bool none s.mem.gone)), (2, some (.flat false .word none s.mem.words)), (1, some (.flat false .word none s.regs)), (0, some (.box true [.sl false .word 1, .int .i64 s.pc.n, .bool s.pc.is, .int .i64 s.pc.key.base, .int .i64 s.pc.key.top, .int .i64 s.pc.key.perms, .int .i64 s.pc.key.sealed, .sl false .word 2, .sl false .bool 3, .int .i64 s.trap]))], nums.tail.tail.tail.tail.tail, [], false, []⟩)
    (fun q => q.1 ≤ 8 ∧ q.2 = wordsBytes (s.regs.take q.1)) (fun q => 8 - q.1) (fun q R hI hR => ?_) (0, []) _ ⟨by simp, rfl⟩ (by simp)
  obtain ⟨i, xs⟩ := q
  obtain ⟨hi, hx⟩ := hI
  dsimp only at hi hx
  have hxl : xs.length ≤ 72 := by rw [hx]; have := wordsBytes_len (s.regs.take i); simp at this; omega
  conv => whnf
  refine sel_i (fun h2 => ?_) (fun h2 => ?_)
  · simp only [decide_eq_true_eq] at h2
    have hw := wordBytes_len (s.regs.getD i (FT.zero .word))
    conv => whnf
    repeat' (first | (refine sel_i (fun h => ?_) (fun h => ?_) <;> conv => whnf) | (refine chk_c ?_ ?_ <;> conv => whnf) | (refine And.intro ?_ rfl) | (refine And.intro ?_ ?_ <;> conv => whnf))
    all_goals (try simp only [etaKey, etaWord, etaMemory, etaState, Int.toNat_natCast] at *)
    all_goals first
      | (refine ⟨?_⟩; omega)
      | (rw [wrap_id (n := (i : Int) + 1) (by omega) (by omega)]; exact hR (i + 1, xs ++ wordBytes (s.regs.getD i (FT.zero .word))) ⟨by dsimp only; omega, by dsimp only; rw [wordsBytes_step (z := FT.zero .word) (by omega), hx]⟩ (by dsimp only; omega))
      | trace_state
  simp only [decide_eq_false_iff_not] at h2
  have hi8 : i = 8 := by omega
  have hx : xs = wordsBytes s.regs := by rw [hx, List.take_of_length_le (by omega)]
  clear h2 hR
  have hw := wordBytes_len s.pc
  conv => whnf
  refine chk_i (show xs.length + (wordBytes s.pc).length ≤ 2147483647 by omega) ?_
  conv => whnf
  refine loop (α := Nat × List Int) (fun q => ⟨[(1, .v (.c (.ptr 0 0))), (3, .v (.c (.sl true (.int .u8) 4))), (33, .v (.c (.sl false .word 2))), (34, .v (.c (.int .i64 (s.mem.words.length : Int)))), (35, .v (.c (.int .i64 (q.1 : Int))))],
        [(4, some (.flat true (.int .u8) none q.2)), (3, some (.flat false .bool none s.mem.gone)), (2, some (.flat false .word none s.mem.words)), (1, some (.flat false .word none s.regs)), (0, some (.box true [.sl false .word 1, .int .i64 s.pc.n, .bool s.pc.is, .int .i64 s.pc.key.base, .int .i64 s.pc.key.top, .int .i64 s.pc.key.perms, .int .i64 s.pc.key.sealed, .sl false .word 2, .sl false .bool 3, .int .i64 s.trap]))], nums.tail.tail.tail.tail.tail, [], false, []⟩)
    (fun q => q.1 ≤ 24 ∧ q.2 = xs ++ wordBytes s.pc ++ wordsBytes (s.mem.words.take q.1)) (fun q => 24 - q.1) (fun q R hI hR => ?_) (0, xs ++ wordBytes s.pc) _ ⟨by simp, by simp [wordsBytes]⟩ (by simp)
  obtain ⟨j, ys⟩ := q
  obtain ⟨hj, hy⟩ := hI
  dsimp only at hj hy
  have hyl : ys.length ≤ 300 := by rw [hy]; have := wordsBytes_len (s.mem.words.take j); simp at this ⊢; omega
  conv => whnf
  refine sel_i (fun h2 => ?_) (fun h2 => ?_)
  · simp only [decide_eq_true_eq] at h2
    have hw := wordBytes_len (s.mem.words.getD j (FT.zero .word))
    conv => whnf
    repeat' (first | (refine sel_i (fun h => ?_) (fun h => ?_) <;> conv => whnf) | (refine chk_c ?_ ?_ <;> conv => whnf) | (refine And.intro ?_ rfl) | (refine And.intro ?_ ?_ <;> conv => whnf))
    all_goals (try simp only [etaKey, etaWord, etaMemory, etaState, Int.toNat_natCast] at *)
    all_goals first
      | (refine ⟨?_⟩; omega)
      | (rw [wrap_id (n := (j : Int) + 1) (by omega) (by omega)]; exact hR (j + 1, ys ++ wordBytes (s.mem.words.getD j (FT.zero .word))) ⟨by dsimp only; omega, by dsimp only; rw [wordsBytes_step (z := FT.zero .word) (by omega), hy, List.append_assoc]⟩ (by dsimp only; omega))
      | trace_state
  simp only [decide_eq_false_iff_not] at h2
  have hy : ys = wordsBytes s.regs ++ wordBytes s.pc ++ wordsBytes s.mem.words := by rw [hy, hx, List.take_of_length_le (by omega)]
  clear h2 hR hx
  conv => whnf
  refine loop (α := Nat × List Int) (fun q => ⟨[(1, .v (.c (.ptr 0 0))), (3, .v (.c (.sl true (.int .u8) 4))), (46, .v (.c (.sl false .bool 3))), (47, .v (.c (.int .i64 (s.mem.gone.length : Int)))), (48, .v (.c (.int .i64 (q.1 : Int))))],
        [(4, some (.flat true (.int .u8) none q.2)), (3, some (.flat false .bool none s.mem.gone)), (2, some (.flat false .word none s.mem.words)), (1, some (.flat false .word none s.regs)), (0, some (.box true [.sl false .word 1, .int .i64 s.pc.n, .bool s.pc.is, .int .i64 s.pc.key.base, .int .i64 s.pc.key.top, .int .i64 s.pc.key.perms, .int .i64 s.pc.key.sealed, .sl false .word 2, .sl false .bool 3, .int .i64 s.trap]))], nums.tail.tail.tail.tail.tail, [], false, []⟩)
    (fun q => q.1 ≤ 24 ∧ q.2 = ys ++ goneBytes (s.mem.gone.take q.1)) (fun q => 24 - q.1) (fun q R hI hR => ?_) (0, ys) _ ⟨by simp, by simp [goneBytes]⟩ (by simp)
  obtain ⟨k, zs⟩ := q
  obtain ⟨hk, hz⟩ := hI
  dsimp only at hk hz
  have hzl : zs.length ≤ 400 := by rw [hz]; simp [goneBytes_len]; omega
  conv => whnf
  repeat' (first | (refine sel_i (fun h => ?_) (fun h => ?_) <;> conv => whnf) | (refine chk_c ?_ ?_ <;> conv => whnf) | (refine And.intro ?_ rfl) | (refine And.intro ?_ ?_ <;> conv => whnf))
  all_goals (try simp only [etaKey, etaWord, etaMemory, etaState, Int.toNat_natCast, decide_eq_true_eq, decide_eq_false_iff_not] at *)
  all_goals first
    | (refine ⟨?_⟩; omega)
    | (refine ⟨?_⟩; simp; omega)
    | (rw [wrap_id (n := (k : Int) + 1) (by omega) (by omega)]
       have e := goneBytes_step (g := s.mem.gone) (i := k) (z := FT.zero .bool) (by omega)
       exact hR (k + 1, zs ++ _) ⟨by dsimp only; omega, by dsimp only; rw [e, hz, List.append_assoc]; simp only [*, goneByte, if_true, Bool.false_eq_true, if_false]⟩ (by dsimp only; omega))
    | (rw [stateBytes_ok hok, hz, hy, List.take_of_length_le (by omega), u8_id (by omega)])
    | trace_state
theorem ok_impl_StateBytes : FunOk Try.prog c_impl_StateBytes := funOk (E := [c_impl_WordBytes, c_impl_StateOk]) (envOk_cons ok_impl_WordBytes (envOk_cons ok_impl_StateOk (envOk_nil))) mixd Try.func36 (pf := pf_impl_StateBytes) (by kernel_rfl) fun ts K h => by
  obtain ⟨t0, e0, h⟩ := as1_out h
  subst e0
  obtain ⟨s, e1, hq⟩ := arG_out rd_state h
  clear h
  subst e1
  have h := hq
  clear hq
  obtain ⟨hpre, h⟩ := chk_o h
  exact ⟨_, _, h, Nat.le_of_ble_eq_true (show Nat.ble 1 Try.f36.ntmps = true by kernel_rfl), _, run_impl_StateBytes s hpre⟩

def lb_spec_StateBytes_0 : PC := .seq (.seq (.reg [.s (.mv 26 (.t 5)), .s (.mv 27 (.t 4)), .s (.len 28 false (.t 27)), .s (.bin 29 .lss (.t 26) (.t 28))]) (.cond (.t 29) (.skip) (.exit 0))) (.seq (.blk 1 (.reg [.s (.mv 32 (.t 3)), .s (.mv 33 (.t 4)), .s (.mv 34 (.t 5)), .s (.ia 35 .word (.t 33) (.t 34)), .s (.load 36 true 6 (.t 35)), .s (.call (some 37) 40 [(.t 36)]), .s (.app 38 (.int .u8) (.t 32) (.t 37)), .s (.mv 3 (.t 38))])) (.reg [.s (.mv 30 (.t 5)), .s (.bin 31 .add (.t 30) (.k (.v (.c (.int .i64 1))))), .s (.mv 5 (.t 31))]))
def lb_spec_StateBytes_1 : PC := .seq (.seq (.reg [.s (.mv 39 (.t 6)), .s (.bin 40 .lss (.t 39) (.k (.v (.c (.int .i64 24)))))]) (.cond (.t 40) (.skip) (.exit 2))) (.seq (.blk 3 (.seq (.reg [.s (.mv 7 (.k (.v (.c (.int .u8 0)))))]) (.seq (.seq (.reg [.s (.fa 43 (.t 1) 7), .s (.fa 44 (.t 43) 1), .s (.load 45 false 1 (.t 44)), .s (.mv 46 (.t 6)), .s (.ia 47 .bool (.t 45) (.t 46)), .s (.load 48 false 1 (.t 47))]) (.cond (.t 48) (.reg [.s (.mv 7 (.k (.v (.c (.int .u8 1)))))]) (.skip))) (.reg [.s (.mv 49 (.t 3)), .s (.mv 50 (.t 7)), .s (.bs 51 (.int .u8) [(.t 50)]), .s (.app 52 (.int .u8) (.t 49) (.t 51)), .s (.mv 3 (.t 52))])))) (.reg [.s (.mv 41 (.t 6)), .s (.bin 42 .add (.t 41) (.k (.v (.c (.int .i64 1))))), .s (.mv 6 (.t 42))]))
def pf_spec_StateBytes : PF := ⟨[.t 2], .seq (.reg [.s (.box 1 (.t 0)), .s (.mv 2 (.k (.v (.c (.nils (.int .u8))))))]) (.seq (.reg [.s (.bs 8 (.int .u8) []), .s (.mv 3 (.t 8))]) (.seq (.seq (.reg [.s (.load 9 true 10 (.t 1)), .s (.call (some 10) 112 [(.t 9)]), .s (.bnot 11 (.t 10))]) (.cond (.t 11) (.seq (.reg [.s (.mv 12 (.t 3)), .s (.mv 2 (.t 12))]) (.ret)) (.skip))) (.seq (.rgd [] [.s (.bs 13 .word []), .s (.fa 14 (.t 1) 0), .s (.load 15 false 1 (.t 14)), .s (.app 16 .word (.t 13) (.t 15)), .s (.fa 17 (.t 1) 1), .s (.load 18 true 6 (.t 17)), .s (.bs 19 .word [(.t 18)]), .s (.app 20 .word (.t 16) (.t 19)), .s (.mv 4 (.t 20))] (.tk 1 (.tk 2 (.tk 4 (.tk 5 (.alt 0 false (.alt 3 false (.one 6 false (.one 7 true (.tk 8 (.done (some [1, 3, 4]))))) (.alt 6 false (.one 3 false (.one 7 true (.tk 8 (.done (some [1, 3, 4]))))) (.nil))) (.alt 6 false (.one 0 false (.one 3 false (.one 7 true (.tk 8 (.done (some [1, 3, 4])))))) (.nil)))))))) (.seq (.reg [.s (.mv 21 (.t 4)), .s (.fa 22 (.t 1) 7), .s (.fa 23 (.t 22) 0), .s (.load 24 false 1 (.t 23)), .s (.app 25 .word (.t 21) (.t 24)), .s (.mv 4 (.t 25))]) (.seq (.seq (.reg [.s (.mv 5 (.k (.v (.c (.int .i64 0)))))]) (.blk 0 (.loop [1, 3, 4, 5] lb_spec_StateBytes_0))) (.seq (.seq (.reg [.s (.mv 6 (.k (.v (.c (.int .i64 0)))))]) (.blk 2 (.loop [1, 3, 6] lb_spec_StateBytes_1))) (.seq (.reg [.s (.mv 53 (.t 3)), .s (.fa 54 (.t 1) 9), .s (.load 55 false 1 (.t 54)), .s (.conv 56 .u8 (.t 55)), .s (.bs 57 (.int .u8) [(.t 56)]), .s (.app 58 (.int .u8) (.t 53) (.t 57)), .s (.mv 2 (.t 58))]) (.ret))))))))⟩
def c_spec_StateBytes : Fun := ⟨41, [], fun ts K => as1 ts fun t0 => arG pStateT t0 fun s => chk (LState s 2147483647) (K (tL true (.int .u8) (stateBytes s)) [])⟩
theorem run_spec_StateBytes (s : State) (hpre : LState s 2147483647) : runK [c_spec_WordBytes, c_spec_StateOk] (40) [] pf_spec_StateBytes [tG (s.tc false [])] fun r o => r = tL true (.int .u8) (stateBytes s) ∧ o = [] := by
  obtain ⟨l2, l3, l4⟩ := hpre
  conv => whnf
  refine chk_i ⟨l2, l3, l4⟩ ?_
  conv => whnf
  refine sel_i (fun h => ?_) (fun h => ?_)
  · conv => whnf
    rw [stateBytes_no (by simpa using h)]
    exact ⟨rfl, rfl⟩
  have hok : stateOk s = true := by simpa [etaKey, etaWord, etaMemory, etaState] using h
  obtain ⟨e1, e2, e3⟩ := stateOk_len hok
  have ht := stateOk_trap hok
  have ha : ([] ++ s.regs ++ [s.pc] ++ s.mem.words).length = 33 := by simp; omega
  conv => whnf
  repeat' (first | (refine sel_i (fun h => ?_) (fun h => ?_) <;> conv => whnf) | (refine chk_c ?_ ?_ <;> conv => whnf) | (refine And.intro ?_ rfl) | (refine And.intro ?_ ?_ <;> conv => whnf))
  all_goals try (refine ⟨?_⟩; simp only [List.length_append, List.length_nil, List.length_cons]; omega)
  all_goals try exact True.intro
  refine loop (α := Nat × List Int) (fun q => ⟨[(1, .v (.c (.ptr 0 0))), (3, .v (.c (.sl true (.int .u8) 4))), (4, .v (.c (.sl true .word 5))), (5, .v (.c (.int .i64 (q.1 : Int))))],
        [(5, some (.flat true .word none ([] ++ s.regs ++ [s.pc] ++ s.mem.words))), (4, some (.flat true (.int .u8) none q.2)), (3, some (.flat false .bool none s.mem.gone)), (2, some (.flat false .word none s.mem.words)), (1, some (.flat false .word none s.regs)), (0, some (.box true [.sl false .word 1, .int .i64 s.pc.n, .bool s.pc.is, .int .i64 s.pc.key.base, .int .i64 s.pc.key.top, .int .i64 s.pc.key.perms, .int .i64 s.pc.key.sealed, .sl false .word 2, .sl false .bool 3, .int .i64 s.trap]))], nums.tail.tail.tail.tail.tail.tail, [], false, []⟩)
    (fun q => q.1 ≤ 33 ∧ q.2 = wordsBytes (([] ++ s.regs ++ [s.pc] ++ s.mem.words).take q.1)) (fun q => 33 - q.1) (fun q R hI hR => ?_) (0, []) _ ⟨by simp, by simp [wordsBytes]⟩ (by simp)
  obtain ⟨i, xs⟩ := q
  obtain ⟨hi, hx⟩ := hI
  dsimp only at hi hx
  have hxl : xs.length ≤ 300 := by rw [hx]; have := wordsBytes_len (([] ++ s.regs ++ [s.pc] ++ s.mem.words).take i); rw [List.length_take] at this; omega
  conv => whnf
  refine sel_i (fun h2 => ?_) (fun h2 => ?_)
  · have h2 : (i : Int) < (([] ++ s.regs ++ [s.pc] ++ s.mem.words).length : Int) := of_decide_eq_true h2
    rw [ha] at h2
    have hw := wordBytes_len (([] ++ s.regs ++ [s.pc] ++ s.mem.words).getD i (FT.zero .word))
    conv => whnf
    repeat' (first | (refine sel_i (fun h => ?_) (fun h => ?_) <;> conv => whnf) | (refine chk_c ?_ ?_ <;> conv => whnf) | (refine And.intro ?_ rfl) | (refine And.intro ?_ ?_ <;> conv => whnf))
    all_goals (try simp only [etaKey, etaWord, etaMemory, etaState, Int.toNat_natCast] at *)
    all_goals first
      | (refine ⟨?_⟩; omega)
      | (rw [wrap_id (n := (i : Int) + 1) (by omega) (by omega)]; exact hR (i + 1, xs ++ wordBytes (([] ++ s.regs ++ [s.pc] ++ s.mem.words).getD i (FT.zero .word))) ⟨by dsimp only; omega, by dsimp only; rw [wordsBytes_step (z := FT.zero .word) (by omega), hx]⟩ (by dsimp only; omega))
      | trace_state
  have h2 : ¬ (i : Int) < (([] ++ s.regs ++ [s.pc] ++ s.mem.words).length : Int) := of_decide_eq_false h2
  rw [ha] at h2
  have hx : xs = wordsBytes s.regs ++ wordBytes s.pc ++ wordsBytes s.mem.words := by
    rw [hx, List.take_of_length_le (by omega), wordsBytes_app, wordsBytes_app, wordsBytes_one, List.nil_append]
  clear h2 hR ha
  conv => whnf
  refine loop (α := Nat × List Int) (fun q => ⟨[(1, .v (.c (.ptr 0 0))), (3, .v (.c (.sl true (.int .u8) 4))), (6, .v (.c (.int .i64 (q.1 : Int))))],
        [(4, some (.flat true (.int .u8) none q.2)), (3, some (.flat false .bool none s.mem.gone)), (2, some (.flat false .word none s.mem.words)), (1, some (.flat false .word none s.regs)), (0, some (.box true [.sl false .word 1, .int .i64 s.pc.n, .bool s.pc.is, .int .i64 s.pc.key.base, .int .i64 s.pc.key.top, .int .i64 s.pc.key.perms, .int .i64 s.pc.key.sealed, .sl false .word 2, .sl false .bool 3, .int .i64 s.trap]))], nums.tail.tail.tail.tail.tail, [], false, []⟩)
    (fun q => q.1 ≤ 24 ∧ q.2 = xs ++ goneBytes (s.mem.gone.take q.1)) (fun q => 24 - q.1) (fun q R hI hR => ?_) (0, xs) _ ⟨by simp, by simp [goneBytes]⟩ (by simp)
  obtain ⟨k, zs⟩ := q
  obtain ⟨hk, hz⟩ := hI
  dsimp only at hk hz
  have hzl : zs.length ≤ 400 := by rw [hz]; simp [goneBytes_len]; omega
  conv => whnf
  repeat' (first | (refine sel_i (fun h => ?_) (fun h => ?_) <;> conv => whnf) | (refine chk_c ?_ ?_ <;> conv => whnf) | (refine And.intro ?_ rfl) | (refine And.intro ?_ ?_ <;> conv => whnf))
  all_goals (try simp only [etaKey, etaWord, etaMemory, etaState, Int.toNat_natCast, decide_eq_true_eq, decide_eq_false_iff_not] at *)
  all_goals first
    | (refine ⟨?_⟩; omega)
    | (refine ⟨?_⟩; simp; omega)
    | (rw [wrap_id (n := (k : Int) + 1) (by omega) (by omega)]
       have e := goneBytes_step (g := s.mem.gone) (i := k) (z := FT.zero .bool) (by omega)
       exact hR (k + 1, zs ++ _) ⟨by dsimp only; omega, by dsimp only; rw [e, hz, List.append_assoc]; simp only [*, goneByte, if_true, Bool.false_eq_true, if_false]⟩ (by dsimp only; omega))
    | (rw [stateBytes_ok hok, hz, hx, List.take_of_length_le (by omega), u8_id (by omega)])
    | trace_state
theorem ok_spec_StateBytes : FunOk Try.prog c_spec_StateBytes := funOk (E := [c_spec_WordBytes, c_spec_StateOk]) (envOk_cons ok_spec_WordBytes (envOk_cons ok_spec_StateOk (envOk_nil))) mixd Try.func41 (pf := pf_spec_StateBytes) (by kernel_rfl) fun ts K h => by
  obtain ⟨t0, e0, h⟩ := as1_out h
  subst e0
  obtain ⟨s, e1, hq⟩ := arG_out rd_state h
  clear h
  subst e1
  have h := hq
  clear hq
  obtain ⟨hpre, h⟩ := chk_o h
  exact ⟨_, _, h, Nat.le_of_ble_eq_true (show Nat.ble 1 Try.f41.ntmps = true by kernel_rfl), _, run_spec_StateBytes s hpre⟩

theorem stateBytes_len (s : State) : (stateBytes s).length ≤ 400 := by
  by_cases h : stateOk s = true
  · obtain ⟨e1, e2, e3⟩ := stateOk_len h
    have h1 := wordsBytes_len s.regs
    have h2 := wordsBytes_len s.mem.words
    have h3 := wordBytes_len s.pc
    rw [stateBytes_ok h]
    simp only [List.length_append, goneBytes_len, List.length_cons, List.length_nil]; omega
  · rw [stateBytes_no (by simpa using h)]; simp

def stateOfGo (b : List Int) : Nat → List Word → Int → Option (List Word × Int)
  | 0, ws, a => some (ws, a)
  | k + 1, ws, a => match wordOf b a with | some (w, e) => stateOfGo b k (ws ++ [w]) e | none => none
def stateAt (b : List Int) (ws : List Word) (a : Nat) : State := ⟨ws.take 8, ws.getD 8 (FT.zero .word), ⟨ws.drop 9, (win b a 24).map (fun v => v == 1)⟩, b.getD (a + 24) 0⟩
def stateOf (b : List Int) : Option State :=
  match stateOfGo b 33 [] 0 with
  | some (ws, a) => if (b.length : Int) = a + 25 ∧ stateBytes (stateAt b ws a.toNat) = b then some (stateAt b ws a.toNat) else none
  | none => none
def stateOfT (o : Option State) : Tree := .tup [.g ((o.getD zState).tc true []), .c (.bool o.isSome)]
theorem wf64 {a : Int} (h : 0 ≤ a ∧ a ≤ 1000000000) : wfI .i64 a := by
  show (decide (IntKind.i64.min ≤ a) && decide (a ≤ IntKind.i64.max)) = true
  have e1 : IntKind.i64.min = -9223372036854775808 := rfl
  have e2 : IntKind.i64.max = 9223372036854775807 := rfl
  simp; omega
theorem wordOf_some {b : List Int} {a e : Int} {w : Word} (h : wordOf b a = some (w, e)) : 0 ≤ a ∧ (e = a + 3 ∨ e = a + 9) ∧ e ≤ b.length := by
  unfold wordOf at h
  split at h
  · rename_i h1
    have h1 : 0 ≤ a ∧ a ≤ b.length - 3 := by simpa [inR] using h1
    split at h
    · cases h; omega
    · split at h
      · rename_i h3; cases h; omega
      · cases h
  · cases h

def pf_bytes_Equal : PF := ⟨[.t 4], .seq (.reg [.s (.mv 4 (.k (.v (.c .ff))))]) (.seq (.reg [.s (.mv 5 (.t 0)), .s (.b2s 6 (.t 5)), .s (.mv 7 (.t 1)), .s (.b2s 8 (.t 7)), .s (.eqs 9 false [.s] false (.t 6) (.t 8)), .s (.mv 4 (.t 9))]) (.ret))⟩
def c_bytes_Equal : Fun := ⟨110, [], fun ts K => as2 ts fun t0 t1 => arC (pL (.int .u8)) t0 fun a => arC (pL (.int .u8)) t1 fun b => chk (U8s a ∧ U8s b) (K (tB (decide (a = b))) [])⟩
theorem run_bytes_Equal (a : List (FT.Ty (.int .u8))) (b : List (FT.Ty (.int .u8))) (hpre : U8s a ∧ U8s b) : runK [] (0) [] pf_bytes_Equal [tL false (.int .u8) a, tL false (.int .u8) b] fun r o => r = tB (decide (a = b)) ∧ o = [] := by
  conv => whnf
  repeat' (first | (refine sel_i (fun h => ?_) (fun h => ?_) <;> conv => whnf) | (refine chk_c ?_ ?_ <;> conv => whnf) | (refine And.intro ?_ rfl) | (refine And.intro ?_ ?_ <;> conv => whnf))
  rw [strI_eq hpre.1 hpre.2]
theorem ok_bytes_Equal : FunOk Try.prog c_bytes_Equal := funOk (E := []) (envOk_nil) mixd Try.func110 (pf := pf_bytes_Equal) (by kernel_rfl) fun ts K h => by
  obtain ⟨t0, t1, e0, h⟩ := as2_out h
  subst e0
  obtain ⟨a, e1, hq⟩ := arC_out (rd_l (.int .u8)) h
  clear h
  subst e1
  have h := hq
  clear hq
  obtain ⟨b, e1, hq⟩ := arC_out (rd_l (.int .u8)) h
  clear h
  subst e1
  have h := hq
  clear hq
  obtain ⟨hpre, h⟩ := chk_o h
  exact ⟨_, _, h, Nat.le_of_ble_eq_true (show Nat.ble 2 Try.f110.ntmps = true by kernel_rfl), _, run_bytes_Equal a b hpre⟩

theorem stateBytes_u8 (s : State) : U8s (stateBytes s) := by
  by_cases h : stateOk s = true
  · have ht := stateOk_trap h
    rw [stateBytes_ok h]
    intro x hx
    simp only [List.mem_append, List.mem_singleton] at hx
    have hws : ∀ ws : List Word, x ∈ wordsBytes ws → 0 ≤ x ∧ x ≤ 255 := fun ws hx => by
      obtain ⟨w, _, hw⟩ := List.mem_flatMap.1 hx
      exact wordBytes_u8 w x hw
    rcases hx with (((hx | hx) | hx) | hx) | hx
    · exact hws _ hx
    · exact wordBytes_u8 _ x hx
    · exact hws _ hx
    · obtain ⟨g, _, rfl⟩ := List.mem_map.1 hx
      unfold goneByte; split <;> omega
    · omega
  · rw [stateBytes_no (by simpa using h)]; intro x hx; cases hx
theorem gone_step {b : List Int} {a k : Nat} (h : a + 24 ≤ b.length) (hk : k < 24) : ((win b a 24).map (fun v => v == 1)).take (k + 1) = ((win b a 24).map (fun v => v == 1)).take k ++ [b.getD (a + k) 0 == 1] := by
  have hl : (win b a 24).length = 24 := win_len h
  rw [take_next (z := false) (by simp [hl]; exact hk)]
  have e := win_at (b := b) (o := a) hk
  rw [List.getD_eq_getElem?_getD, List.getElem?_eq_getElem (by omega), Option.getD_some] at e
  rw [← e, List.getD_eq_getElem?_getD, List.getElem?_map, List.getElem?_eq_getElem (by omega)]
  rfl
theorem tn9 : Int.toNat 9 = 9 := rfl
abbrev zWI : Word × Int := (⟨0, false, ⟨0, 0, 0, 0⟩⟩, 0)
theorem stateOfGo_step {b : List Int} {i : Nat} {ws : List Word} {a : Int} {o : Option (List Word × Int)} (hg : stateOfGo b (33 - i) ws a = o) (hi : i < 33) (h : (wordOf b a).isSome = true) :
    stateOfGo b (33 - (i + 1)) (ws ++ [((wordOf b a).getD zWI).1]) ((wordOf b a).getD zWI).2 = o := by
  rw [show 33 - i = (33 - (i + 1)) + 1 by omega] at hg
  cases e : wordOf b a with
  | none => rw [e] at h; cases h
  | some p => unfold stateOfGo at hg; rw [e] at hg; exact hg
theorem stateOfGo_stop {b : List Int} {i : Nat} {ws : List Word} {a : Int} {o : Option (List Word × Int)} (hg : stateOfGo b (33 - i) ws a = o) (hi : i < 33) (h : (wordOf b a).isSome = false) : o = none := by
  rw [show 33 - i = (33 - (i + 1)) + 1 by omega] at hg
  cases e : wordOf b a with
  | none => unfold stateOfGo at hg; rw [e] at hg; exact hg.symm
  | some p => rw [e] at h; cases h
theorem stateOfGo_in {b : List Int} {a : Int} (h : (wordOf b a).isSome = true) (h0 : 0 ≤ a) : 0 ≤ ((wordOf b a).getD zWI).2 ∧ ((wordOf b a).getD zWI).2 ≤ b.length := by
  cases e : wordOf b a with
  | none => rw [e] at h; cases h
  | some p => obtain ⟨w, k⟩ := p; have := wordOf_some e; simp only [Option.getD_some]; omega
theorem stateOf_none {b : List Int} (h : stateOfGo b 33 [] 0 = none) : stateOf b = none := by unfold stateOf; rw [h]
theorem stateOf_len {b : List Int} {ws : List Word} {a : Int} (h : stateOfGo b 33 [] 0 = some (ws, a)) (h2 : ¬ (b.length : Int) = a + 25) : stateOf b = none := by
  unfold stateOf; rw [h]; exact if_neg (fun q => h2 q.1)
theorem stateOf_ne {b : List Int} {ws : List Word} {a : Nat} (h : stateOfGo b 33 [] 0 = some (ws, (a : Int))) (h2 : ¬ stateBytes (stateAt b ws a) = b) : stateOf b = none := by
  unfold stateOf; rw [h]; exact if_neg (fun q => h2 q.2)
theorem stateOf_ok {b : List Int} {ws : List Word} {a : Nat} (h : stateOfGo b 33 [] 0 = some (ws, (a : Int))) (h1 : (b.length : Int) = a + 25) (h2 : stateBytes (stateAt b ws a) = b) : stateOf b = some (stateAt b ws a) := by
  unfold stateOf; rw [h]; exact if_pos ⟨h1, h2⟩

def lb_impl_StateOf_0 : PC := .seq (.reg [.s (.bin 14 .lss (.t 13) (.k (.v (.c (.int .i64 33)))))]) (.seq (.cond (.t 14) (.skip) (.exit 0)) (.seq (.blk 1 (.seq (.reg [.s (.mv 16 (.t 0)), .s (.mv 17 (.t 5)), .s (.call (some 18) 33 [(.t 16), (.t 17)]), .s (.mv 15 (.t 18)), .s (.ext 19 (.t 15) 0), .s (.ext 20 (.t 15) 1), .s (.ext 21 (.t 15) 2), .s (.alloc 6 [.int .i64 0, .ff, .int .i64 0, .int .i64 0, .int .i64 0, .int .i64 0]), .s (.store 6 (.t 6) (.t 19)), .s (.mv 7 (.t 20)), .s (.mv 8 (.t 21))]) (.seq (.seq (.reg [.s (.mv 22 (.t 8)), .s (.bnot 23 (.t 22))]) (.cond (.t 23) (.seq (.reg [.s (.build 24 [.nils .word, .int .i64 0, .ff, .int .i64 0, .int .i64 0, .int .i64 0, .int .i64 0, .nils .word, .nils .bool, .int .i64 0] []), .s (.store 10 (.t 2) (.t 24)), .s (.mv 3 (.k (.v (.c .ff))))]) (.ret)) (.skip))) (.seq (.reg [.s (.mv 25 (.t 4)), .s (.load 26 true 6 (.t 6)), .s (.bs 27 .word [(.t 26)]), .s (.app 28 .word (.t 25) (.t 27)), .s (.mv 4 (.t 28))]) (.reg [.s (.mv 29 (.t 7)), .s (.mv 5 (.t 29))]))))) (.reg [.s (.bin 30 .add (.t 13) (.k (.v (.c (.int .i64 1))))), .s (.mv 13 (.t 30))])))
def lb_impl_StateOf_1 : PC := .seq (.reg [.s (.bin 69 .lss (.t 68) (.t 67))]) (.seq (.cond (.t 69) (.skip) (.exit 2)) (.seq (.blk 3 (.seq (.reg [.s (.ia 70 (.int .u8) (.t 66) (.t 68)), .s (.load 71 false 1 (.t 70)), .s (.mv 11 (.t 71))]) (.reg [.s (.fa 72 (.t 9) 7), .s (.fa 73 (.t 72) 1), .s (.load 74 false 1 (.t 73)), .s (.mv 75 (.t 11)), .s (.bin 76 .eql (.t 75) (.k (.v (.c (.int .u8 1))))), .s (.bs 77 .bool [(.t 76)]), .s (.app 78 .bool (.t 74) (.t 77)), .s (.fa 79 (.t 9) 7), .s (.fa 80 (.t 79) 1), .s (.store 1 (.t 80) (.t 78))]))) (.reg [.s (.bin 81 .add (.t 68) (.k (.v (.c (.int .i64 1))))), .s (.mv 68 (.t 81))])))
def pf_impl_StateOf : PF := ⟨[.c 2 true 10, .t 3], .seq (.reg [.s (.alloc 2 [.nils .word, .int .i64 0, .ff, .int .i64 0, .int .i64 0, .int .i64 0, .int .i64 0, .nils .word, .nils .bool, .int .i64 0]), .s (.mv 3 (.k (.v (.c .ff))))]) (.seq (.reg [.s (.bs 12 .word []), .s (.mv 4 (.t 12))]) (.seq (.reg [.s (.mv 5 (.k (.v (.c (.int .i64 0)))))]) (.seq (.seq (.reg [.s (.mv 13 (.k (.v (.c (.int .i64 0)))))]) (.blk 0 (.loop [0, 2, 4, 5, 13] lb_impl_StateOf_0))) (.seq (.seq (.reg [.s (.mv 31 (.t 0)), .s (.len 32 false (.t 31)), .s (.mv 33 (.t 5)), .s (.bin 34 .add (.t 33) (.k (.v (.c (.int .i64 24))))), .s (.bin 35 .add (.t 34) (.k (.v (.c (.int .i64 1))))), .s (.bin 36 .neq (.t 32) (.t 35))]) (.cond (.t 36) (.seq (.reg [.s (.build 37 [.nils .word, .int .i64 0, .ff, .int .i64 0, .int .i64 0, .int .i64 0, .int .i64 0, .nils .word, .nils .bool, .int .i64 0] []), .s (.store 10 (.t 2) (.t 37)), .s (.mv 3 (.k (.v (.c .ff))))]) (.ret)) (.skip))) (.seq (.rgd [] [.s (.mv 38 (.t 4)), .s (.ia 39 .word (.t 38) (.k (.v (.c (.int .i64 8))))), .s (.load 40 true 6 (.t 39)), .s (.mv 41 (.t 0)), .s (.mv 42 (.t 5)), .s (.bin 43 .add (.t 42) (.k (.v (.c (.int .i64 24))))), .s (.ia 44 (.int .u8) (.t 41) (.t 43)), .s (.load 45 false 1 (.t 44)), .s (.conv 46 .i64 (.t 45)), .s (.build 47 [.nils .word, .int .i64 0, .ff, .int .i64 0, .int .i64 0, .int .i64 0, .int .i64 0, .nils .word, .nils .bool, .int .i64 0] [(1, 6, (.t 40)), (9, 1, (.t 46))]), .s (.alloc 9 [.nils .word, .int .i64 0, .ff, .int .i64 0, .int .i64 0, .int .i64 0, .int .i64 0, .nils .word, .nils .bool, .int .i64 0]), .s (.store 10 (.t 9) (.t 47))] (.tk 0 (.tk 1 (.tk 2 (.tk 3 (.tk 4 (.tk 5 (.tk 6 (.tk 7 (.tk 8 (.tk 9 (.one 10 false (.one 11 true (.done none)))))))))))))) (.seq (.rgd [] [.s (.fa 48 (.t 9) 0), .s (.load 49 false 1 (.t 48)), .s (.mv 50 (.t 4)), .s (.slc 51 .word (.t 50) none (some (.k (.v (.c (.int .i64 8)))))), .s (.app 52 .word (.t 49) (.t 51)), .s (.fa 53 (.t 9) 0), .s (.store 1 (.t 53) (.t 52))] (.tk 0 (.tk 1 (.tk 2 (.one 3 false (.one 4 true (.tk 5 (.one 6 true (.done none))))))))) (.seq (.rgd [] [.s (.fa 54 (.t 9) 7), .s (.fa 55 (.t 54) 0), .s (.load 56 false 1 (.t 55)), .s (.mv 57 (.t 4)), .s (.slc 58 .word (.t 57) (some (.k (.v (.c (.int .i64 9))))) none), .s (.app 59 .word (.t 56) (.t 58)), .s (.fa 60 (.t 9) 7), .s (.fa 61 (.t 60) 0), .s (.store 1 (.t 61) (.t 59))] (.tk 0 (.tk 1 (.tk 2 (.tk 3 (.one 4 false (.one 5 true (.tk 6 (.tk 7 (.one 8 true (.done none))))))))))) (.seq (.seq (.reg [.s (.mv 62 (.t 0)), .s (.mv 63 (.t 5)), .s (.mv 64 (.t 5)), .s (.bin 65 .add (.t 64) (.k (.v (.c (.int .i64 24))))), .s (.slc 66 (.int .u8) (.t 62) (some (.t 63)) (some (.t 65))), .s (.len 67 false (.t 66)), .s (.mv 68 (.k (.v (.c (.int .i64 0)))))]) (.blk 2 (.loop [0, 2, 9, 66, 67, 68] lb_impl_StateOf_1))) (.seq (.seq (.reg [.s (.load 82 true 10 (.t 9)), .s (.call (some 83) 36 [(.t 82)]), .s (.mv 84 (.t 0)), .s (.call (some 85) 110 [(.t 83), (.t 84)]), .s (.bnot 86 (.t 85))]) (.cond (.t 86) (.seq (.reg [.s (.build 87 [.nils .word, .int .i64 0, .ff, .int .i64 0, .int .i64 0, .int .i64 0, .int .i64 0, .nils .word, .nils .bool, .int .i64 0] []), .s (.store 10 (.t 2) (.t 87)), .s (.mv 3 (.k (.v (.c .ff))))]) (.ret)) (.skip))) (.seq (.reg [.s (.load 88 true 10 (.t 9)), .s (.store 10 (.t 2) (.t 88)), .s (.mv 3 (.k (.v (.c .tt))))]) (.ret)))))))))))⟩
def c_impl_StateOf : Fun := ⟨38, [], fun ts K => as1 ts fun t0 => arC (pL (.int .u8)) t0 fun b => chk (b.length ≤ 1048576 ∧ U8s b) (K (stateOfT (stateOf b)) [])⟩
theorem run_impl_StateOf (b : List (FT.Ty (.int .u8))) (hpre : b.length ≤ 1048576 ∧ U8s b) : runK [c_impl_WordOf, c_impl_StateBytes, c_bytes_Equal] (40) [] pf_impl_StateOf [tL false (.int .u8) b] fun r o => r = stateOfT (stateOf b) ∧ o = [] := by
  obtain ⟨l1, l2⟩ := hpre
  conv => whnf
  refine loop (α := Nat × List Word × Int) (fun q => ⟨[(0, .v (.c (.sl false (.int .u8) 0))), (2, .v (.c (.ptr 1 0))), (4, .v (.c (.sl true .word 2))), (5, .v (.c (.int .i64 q.2.2))), (13, .v (.c (.int .i64 (q.1 : Int))))],
        [(2, some (.flat true .word none q.2.1)), (1, some (.box true [.nils .word, .int .i64 0, .ff, .int .i64 0, .int .i64 0, .int .i64 0, .int .i64 0, .nils .word, .nils .bool, .int .i64 0])), (0, some (.flat false (.int .u8) none b))], nums.tail.tail.tail, [], false, []⟩)
    (fun q => q.1 ≤ 33 ∧ q.2.1.length = q.1 ∧ 0 ≤ q.2.2 ∧ q.2.2 ≤ b.length ∧ stateOfGo b (33 - q.1) q.2.1 q.2.2 = stateOfGo b 33 [] 0) (fun q => 33 - q.1) (fun q R hI hR => ?_) (0, [], 0) _ ⟨by simp, by simp, by simp, by simp, rfl⟩ (by simp)
  obtain ⟨i, ws, a⟩ := q
  obtain ⟨hi, hw, ha0, ha1, hg⟩ := hI
  dsimp only at hi hw ha0 ha1 hg
  dsimp only
  conv => whnf
  refine sel_i (fun h2 => ?_) (fun h2 => ?_)
  · simp only [decide_eq_true_eq] at h2
    conv => whnf
    repeat' (first | (refine sel_i (fun h => ?_) (fun h => ?_) <;> conv => whnf) | (refine chk_c ?_ ?_ <;> conv => whnf) | (refine And.intro ?_ rfl) | (refine And.intro ?_ ?_ <;> conv => whnf))
    all_goals first
      | (refine ⟨?_⟩; exact ⟨l1, l2, wf64 (by omega)⟩)
      | (refine ⟨?_⟩; simp only [List.length_cons, List.length_nil]; omega)
      | (rw [wrap_id (n := (i : Int) + 1) (by omega) (by omega)]
         have h : (wordOf b a).isSome = true := by simpa using h
         exact hR (i + 1, ws ++ [((wordOf b a).getD zWI).1], ((wordOf b a).getD zWI).2) ⟨by dsimp only; omega, by simp [hw], (stateOfGo_in h ha0).1, (stateOfGo_in h ha0).2, stateOfGo_step hg (by omega) h⟩ (by dsimp only; omega))
      | (rw [stateOf_none (stateOfGo_stop hg (by omega) (by simpa using h))]; rfl)
      | trace_state
  simp only [decide_eq_false_iff_not] at h2
  have hg : stateOfGo b 33 [] 0 = some (ws, a) := by rw [← hg, show 33 - i = 0 by omega]; rfl
  have hw : ws.length = 33 := by omega
  obtain ⟨a, rfl⟩ := Int.eq_ofNat_of_zero_le ha0
  clear h2 hR hi
  have w24 : IntKind.i64.wrap ((a : Int) + 24) = (a : Int) + 24 := wrap_id (by omega) (by omega)
  have w25 : IntKind.i64.wrap ((a : Int) + 24 + 1) = (a : Int) + 25 := by rw [wrap_id (by omega) (by omega)]; omega
  have n24 : ((a : Int) + 24).toNat = a + 24 := by omega
  have d24 : ((a : Int) + 24 - (a : Int)).toNat = 24 := by omega
  have v8 : win ws 0 8 = ws.take 8 := rfl
  have v9 : win ws 9 ((ws.length : Int) - 9).toNat = ws.drop 9 := by unfold win; rw [List.take_of_length_le (by simp; omega)]
  conv => whnf
  refine sel_i (fun h2 => ?_) (fun h2 => ?_)
  · conv => whnf
    rw [w24, w25] at h2
    rw [stateOf_len hg (by simpa using h2)]; exact ⟨rfl, rfl⟩
  rw [w24, w25] at h2
  have hb : (b.length : Int) = a + 25 := by simpa using h2
  clear h2
  conv => whnf
  repeat' (first | (refine sel_i (fun h => ?_) (fun h => ?_) <;> conv => whnf) | (refine chk_c ?_ ?_ <;> conv => whnf) | (refine And.intro ?_ rfl) | (refine And.intro ?_ ?_ <;> conv => whnf))
  all_goals try (refine ⟨?_⟩; first | (show (0 : Int) ≤ 8 ∧ 8 < (ws.length : Int); omega) | (show 8 < ws.length; omega) | (show (0 : Int) ≤ 8 ∧ 8 ≤ (ws.length : Int); omega) | (show (0 : Int) ≤ 9 ∧ 9 ≤ (ws.length : Int); omega) | (simp only [w24, n24]; omega) | (simp [win]; omega))
  have wt : IntKind.i64.wrap (b.getD (a + 24) (FT.zero (.int .u8))) = b.getD (a + 24) 0 := wrap_id (n := b.getD (a + 24) 0) (by have := l2.at (a + 24); omega) (by have := l2.at (a + 24); omega)
  simp only [w24, n24, d24, tn8, tn9, Nat.zero_add, Int.toNat_natCast, v8, v9, wt]
  refine iter_s ?_
  conv => whnf
  refine sel_i (fun h0 => ?_) (fun h0 => absurd h0 (by decide))
  conv => whnf
  repeat' (first | (refine sel_i (fun h => ?_) (fun h => ?_) <;> conv => whnf) | (refine chk_c ?_ ?_ <;> conv => whnf) | (refine And.intro ?_ rfl) | (refine And.intro ?_ ?_ <;> conv => whnf))
  all_goals try (refine ⟨?_⟩; first | decide | (show a + 0 < b.length; omega) | (simp; done))
  rw [show IntKind.i64.wrap (0 + 1) = ((1 : Nat) : Int) from rfl]
  refine loop (α := Nat × List Bool) (fun q => ⟨[(0, .v (.c (.sl false (.int .u8) 0))), (2, .v (.c (.ptr 1 0))), (9, .v (.c (.ptr 2 0))), (66, .v (.c (.slp false (.int .u8) 0 a 24))), (67, .v (.c (.int .i64 ((24 : Nat) : Int)))), (68, .v (.c (.int .i64 (q.1 : Int))))],
        [(5, some (.flat true .bool none q.2)), (4, some (.flat true .word none (List.drop 9 ws))), (3, some (.flat true .word none (List.take 8 ws))), (2, some (.box true [.sl false .word 3, .int .i64 (ws.getD 8 (FT.zero .word)).n, .bool (ws.getD 8 (FT.zero .word)).is, .int .i64 (ws.getD 8 (FT.zero .word)).key.base, .int .i64 (ws.getD 8 (FT.zero .word)).key.top, .int .i64 (ws.getD 8 (FT.zero .word)).key.perms, .int .i64 (ws.getD 8 (FT.zero .word)).key.sealed, .sl false .word 4, .sl false .bool 5, .int .i64 (b.getD (a + 24) 0)])), (1, some (.box true [.nils .word, .int .i64 0, .ff, .int .i64 0, .int .i64 0, .int .i64 0, .int .i64 0, .nils .word, .nils .bool, .int .i64 0])), (0, some (.flat false (.int .u8) none b))], nums.tail.tail.tail.tail.tail.tail, [], false, []⟩)
    (fun q => 1 ≤ q.1 ∧ q.1 ≤ 24 ∧ q.2 = ((win b a 24).map (fun v => v == 1)).take q.1) (fun q => 24 - q.1) (fun q R hI hR => ?_) (1, [b.getD (a + 0) 0 == 1]) _ ⟨by simp, by simp, by rw [gone_step (by omega) (by omega)]; rfl⟩ (by simp)
  obtain ⟨k, gs⟩ := q
  obtain ⟨hk0, hk, hgs⟩ := hI
  dsimp only at hk0 hk hgs
  have hgl : gs.length ≤ 24 := by rw [hgs]; simp [win]; omega
  dsimp only
  conv => whnf
  repeat' (first | (refine sel_i (fun h => ?_) (fun h => ?_) <;> conv => whnf) | (refine chk_c ?_ ?_ <;> conv => whnf) | (refine And.intro ?_ rfl) | (refine And.intro ?_ ?_ <;> conv => whnf))
  all_goals (try simp only [etaKey, etaWord, etaMemory, etaState, Int.toNat_natCast, zu8] at *)
  all_goals first
    | (refine ⟨?_⟩; simp at h; omega)
    | (refine ⟨?_⟩; simp; omega)
    | (rw [wrap_id (n := (k : Int) + 1) (by omega) (by omega)]
       have h : k < 24 := by simp at h; omega
       exact hR (k + 1, gs ++ [b.getD (a + k) 0 == 1]) ⟨by dsimp only; omega, by dsimp only; omega, by rw [gone_step (by omega) h, hgs]⟩ (by dsimp only; omega))
    | (refine ⟨?_⟩; exact ⟨by simp; omega, by simp; omega, by dsimp only; omega⟩)
    | (refine ⟨?_⟩; exact ⟨stateBytes_u8 _, l2⟩)
    | skip
  all_goals (
    have hk24 : k = 24 := by rename_i h1; simp at h1; omega
    subst hk24
    have hgs : gs = (win b a 24).map (fun v => v == 1) := by rw [hgs, List.take_of_length_le (by simp [win]; omega)]
    subst hgs)
  · rw [stateOf_ne hg (nd_f (p := stateBytes (stateAt b ws a) = b) h)]; rfl
  · rw [stateOf_ok hg hb (nd_t (p := stateBytes (stateAt b ws a) = b) h)]; rfl
theorem ok_impl_StateOf : FunOk Try.prog c_impl_StateOf := funOk (E := [c_impl_WordOf, c_impl_StateBytes, c_bytes_Equal]) (envOk_cons ok_impl_WordOf (envOk_cons ok_impl_StateBytes (envOk_cons ok_bytes_Equal (envOk_nil)))) mixd Try.func38 (pf := pf_impl_StateOf) (by kernel_rfl) fun ts K h => by
  obtain ⟨t0, e0, h⟩ := as1_out h
  subst e0
  obtain ⟨b, e1, hq⟩ := arC_out (rd_l (.int .u8)) h
  clear h
  subst e1
  have h := hq
  clear hq
  obtain ⟨hpre, h⟩ := chk_o h
  exact ⟨_, _, h, Nat.le_of_ble_eq_true (show Nat.ble 1 Try.f38.ntmps = true by kernel_rfl), _, run_impl_StateOf b hpre⟩

def lb_spec_StateOf_0 : PC := .seq (.seq (.reg [.s (.mv 14 (.t 6)), .s (.len 15 false (.t 14)), .s (.bin 16 .lss (.t 15) (.k (.v (.c (.int .i64 33)))))]) (.cond (.t 16) (.skip) (.exit 0))) (.blk 1 (.seq (.reg [.s (.mv 18 (.t 0)), .s (.mv 19 (.t 5)), .s (.call (some 20) 34 [(.t 18), (.t 19)]), .s (.mv 17 (.t 20)), .s (.ext 21 (.t 17) 0), .s (.ext 22 (.t 17) 1), .s (.ext 23 (.t 17) 2), .s (.alloc 7 [.int .i64 0, .ff, .int .i64 0, .int .i64 0, .int .i64 0, .int .i64 0]), .s (.store 6 (.t 7) (.t 21)), .s (.mv 8 (.t 22)), .s (.mv 9 (.t 23))]) (.seq (.seq (.reg [.s (.mv 24 (.t 9)), .s (.bnot 25 (.t 24))]) (.cond (.t 25) (.seq (.reg [.s (.build 26 [.nils .word, .int .i64 0, .ff, .int .i64 0, .int .i64 0, .int .i64 0, .int .i64 0, .nils .word, .nils .bool, .int .i64 0] []), .s (.store 10 (.t 2) (.t 26)), .s (.mv 3 (.k (.v (.c .ff))))]) (.ret)) (.skip))) (.seq (.reg [.s (.mv 27 (.t 6)), .s (.load 28 true 6 (.t 7)), .s (.bs 29 .word [(.t 28)]), .s (.app 30 .word (.t 27) (.t 29)), .s (.mv 6 (.t 30))]) (.reg [.s (.mv 31 (.t 8)), .s (.mv 5 (.t 31))])))))
def lb_spec_StateOf_1 : PC := .seq (.seq (.reg [.s (.mv 48 (.t 10)), .s (.bin 49 .lss (.t 48) (.k (.v (.c (.int .i64 24)))))]) (.cond (.t 49) (.skip) (.exit 2))) (.seq (.blk 3 (.seq (.rgd [] [.s (.fa 52 (.t 4) 7), .s (.fa 53 (.t 52) 0), .s (.load 54 false 1 (.t 53)), .s (.mv 55 (.t 10)), .s (.mv 56 (.t 6)), .s (.mv 57 (.t 10)), .s (.bin 58 .add (.k (.v (.c (.int .i64 9)))) (.t 57)), .s (.ia 59 .word (.t 56) (.t 58)), .s (.load 60 true 6 (.t 59)), .s (.ia 61 .word (.t 54) (.t 55)), .s (.store 6 (.t 61) (.t 60))] (.tk 0 (.tk 1 (.tk 2 (.tk 3 (.tk 4 (.tk 5 (.tk 6 (.tk 7 (.tk 8 (.tk 9 (.one 10 true (.done none))))))))))))) (.rgd [] [.s (.fa 62 (.t 4) 7), .s (.fa 63 (.t 62) 1), .s (.load 64 false 1 (.t 63)), .s (.mv 65 (.t 10)), .s (.mv 66 (.t 0)), .s (.mv 67 (.t 5)), .s (.mv 68 (.t 10)), .s (.bin 69 .add (.t 67) (.t 68)), .s (.ia 70 (.int .u8) (.t 66) (.t 69)), .s (.load 71 false 1 (.t 70)), .s (.bin 72 .eql (.t 71) (.k (.v (.c (.int .u8 1))))), .s (.ia 73 .bool (.t 64) (.t 65)), .s (.store 1 (.t 73) (.t 72))] (.tk 0 (.tk 1 (.tk 2 (.tk 3 (.tk 4 (.tk 5 (.tk 6 (.tk 7 (.tk 8 (.tk 9 (.tk 10 (.tk 11 (.one 12 true (.done none))))))))))))))))) (.reg [.s (.mv 50 (.t 10)), .s (.bin 51 .add (.t 50) (.k (.v (.c (.int .i64 1))))), .s (.mv 10 (.t 51))]))
def pf_spec_StateOf : PF := ⟨[.c 2 true 10, .t 3], .seq (.reg [.s (.alloc 2 [.nils .word, .int .i64 0, .ff, .int .i64 0, .int .i64 0, .int .i64 0, .int .i64 0, .nils .word, .nils .bool, .int .i64 0]), .s (.mv 3 (.k (.v (.c .ff))))]) (.seq (.reg [.s (.call (some 11) 111 []), .s (.build 12 [.nils .word, .int .i64 0, .ff, .int .i64 0, .int .i64 0, .int .i64 0, .int .i64 0, .nils .word, .nils .bool, .int .i64 0] [(7, 2, (.t 11))]), .s (.alloc 4 [.nils .word, .int .i64 0, .ff, .int .i64 0, .int .i64 0, .int .i64 0, .int .i64 0, .nils .word, .nils .bool, .int .i64 0]), .s (.store 10 (.t 4) (.t 12))]) (.seq (.reg [.s (.mv 5 (.k (.v (.c (.int .i64 0)))))]) (.seq (.reg [.s (.bs 13 .word []), .s (.mv 6 (.t 13))]) (.seq (.blk 0 (.loop [0, 2, 4, 5, 6] lb_spec_StateOf_0)) (.seq (.seq (.reg [.s (.mv 32 (.t 0)), .s (.len 33 false (.t 32)), .s (.mv 34 (.t 5)), .s (.bin 35 .add (.t 34) (.k (.v (.c (.int .i64 24))))), .s (.bin 36 .add (.t 35) (.k (.v (.c (.int .i64 1))))), .s (.bin 37 .neq (.t 33) (.t 36))]) (.cond (.t 37) (.seq (.reg [.s (.build 38 [.nils .word, .int .i64 0, .ff, .int .i64 0, .int .i64 0, .int .i64 0, .int .i64 0, .nils .word, .nils .bool, .int .i64 0] []), .s (.store 10 (.t 2) (.t 38)), .s (.mv 3 (.k (.v (.c .ff))))]) (.ret)) (.skip))) (.seq (.reg [.s (.bs 39 .word []), .s (.mv 40 (.t 6)), .s (.slc 41 .word (.t 40) none (some (.k (.v (.c (.int .i64 8)))))), .s (.app 42 .word (.t 39) (.t 41)), .s (.fa 43 (.t 4) 0), .s (.store 1 (.t 43) (.t 42))]) (.seq (.reg [.s (.mv 44 (.t 6)), .s (.ia 45 .word (.t 44) (.k (.v (.c (.int .i64 8))))), .s (.load 46 true 6 (.t 45)), .s (.fa 47 (.t 4) 1), .s (.store 6 (.t 47) (.t 46))]) (.seq (.seq (.reg [.s (.mv 10 (.k (.v (.c (.int .i64 0)))))]) (.blk 2 (.loop [0, 2, 4, 5, 6, 10] lb_spec_StateOf_1))) (.seq (.reg [.s (.mv 74 (.t 0)), .s (.mv 75 (.t 5)), .s (.bin 76 .add (.t 75) (.k (.v (.c (.int .i64 24))))), .s (.ia 77 (.int .u8) (.t 74) (.t 76)), .s (.load 78 false 1 (.t 77)), .s (.conv 79 .i64 (.t 78)), .s (.fa 80 (.t 4) 9), .s (.store 1 (.t 80) (.t 79))]) (.seq (.seq (.rgd [] [.s (.load 81 true 10 (.t 4)), .s (.call (some 82) 41 [(.t 81)]), .s (.b2s 83 (.t 82)), .s (.mv 84 (.t 0)), .s (.b2s 85 (.t 84)), .s (.eqs 86 false [.s] true (.t 83) (.t 85))] (.tk 0 (.tk 3 (.alt 1 false (.alt 2 false (.one 4 false (.tk 5 (.done (some [2, 4, 86])))) (.alt 4 false (.one 2 true (.tk 5 (.done (some [2, 4, 86])))) (.nil))) (.alt 4 false (.one 1 true (.one 2 true (.tk 5 (.done (some [2, 4, 86]))))) (.nil)))))) (.cond (.t 86) (.seq (.reg [.s (.build 87 [.nils .word, .int .i64 0, .ff, .int .i64 0, .int .i64 0, .int .i64 0, .int .i64 0, .nils .word, .nils .bool, .int .i64 0] []), .s (.store 10 (.t 2) (.t 87)), .s (.mv 3 (.k (.v (.c .ff))))]) (.ret)) (.skip))) (.seq (.reg [.s (.load 88 true 10 (.t 4)), .s (.store 10 (.t 2) (.t 88)), .s (.mv 3 (.k (.v (.c .tt))))]) (.ret))))))))))))⟩
def c_spec_StateOf : Fun := ⟨39, [], fun ts K => as1 ts fun t0 => arC (pL (.int .u8)) t0 fun b => chk (b.length ≤ 1048576 ∧ U8s b) (K (stateOfT (stateOf b)) [])⟩
theorem run_spec_StateOf (b : List (FT.Ty (.int .u8))) (hpre : b.length ≤ 1048576 ∧ U8s b) : runK [c_spec_WordOf, c_spec_StateBytes, c_spec_MemoryNew] (40) [] pf_spec_StateOf [tL false (.int .u8) b] fun r o => r = stateOfT (stateOf b) ∧ o = [] := by
  obtain ⟨l1, l2⟩ := hpre
  conv => whnf
  refine loop (α := Nat × List Word × Int) (fun q => ⟨[(0, .v (.c (.sl false (.int .u8) 0))), (2, .v (.c (.ptr 1 0))), (4, .v (.c (.ptr 2 0))), (5, .v (.c (.int .i64 q.2.2))), (6, .v (.c (.sl true .word 5)))],
        [(5, some (.flat true .word none q.2.1)), (4, some (.flat true .bool none memNew.gone)), (3, some (.flat true .word none memNew.words)), (2, some (.box true [.nils .word, .int .i64 0, .ff, .int .i64 0, .int .i64 0, .int .i64 0, .int .i64 0, .sl false .word 3, .sl false .bool 4, .int .i64 0])), (1, some (.box true [.nils .word, .int .i64 0, .ff, .int .i64 0, .int .i64 0, .int .i64 0, .int .i64 0, .nils .word, .nils .bool, .int .i64 0])), (0, some (.flat false (.int .u8) none b))], nums.tail.tail.tail.tail.tail.tail, [], false, []⟩)
    (fun q => q.1 ≤ 33 ∧ q.2.1.length = q.1 ∧ 0 ≤ q.2.2 ∧ q.2.2 ≤ b.length ∧ stateOfGo b (33 - q.1) q.2.1 q.2.2 = stateOfGo b 33 [] 0) (fun q => 33 - q.1) (fun q R hI hR => ?_) (0, [], 0) _ ⟨by simp, by simp, by simp, by simp, rfl⟩ (by simp)
  obtain ⟨i, ws, a⟩ := q
  obtain ⟨hi, hw, ha0, ha1, hg⟩ := hI
  dsimp only at hi hw ha0 ha1 hg
  dsimp only
  conv => whnf
  refine sel_i (fun h2 => ?_) (fun h2 => ?_)
  · have h2 : (ws.length : Int) < 33 := of_decide_eq_true h2
    conv => whnf
    repeat' (first | (refine sel_i (fun h => ?_) (fun h => ?_) <;> conv => whnf) | (refine chk_c ?_ ?_ <;> conv => whnf) | (refine And.intro ?_ rfl) | (refine And.intro ?_ ?_ <;> conv => whnf))
    all_goals first
      | (refine ⟨?_⟩; exact ⟨l1, l2, wf64 (by omega)⟩)
      | (refine ⟨?_⟩; simp only [List.length_cons, List.length_nil]; omega)
      | (have h : (wordOf b a).isSome = true := by simpa using h
         exact hR (i + 1, ws ++ [((wordOf b a).getD zWI).1], ((wordOf b a).getD zWI).2) ⟨by dsimp only; omega, by simp [hw], (stateOfGo_in h ha0).1, (stateOfGo_in h ha0).2, stateOfGo_step hg (by omega) h⟩ (by dsimp only; omega))
      | (rw [stateOf_none (stateOfGo_stop hg (by omega) (by simpa using h))]; rfl)
      | trace_state
  have h2 : ¬ (ws.length : Int) < 33 := of_decide_eq_false h2
  have hg : stateOfGo b 33 [] 0 = some (ws, a) := by rw [← hg, show 33 - i = 0 by omega]; rfl
  have hw : ws.length = 33 := by omega
  obtain ⟨a, rfl⟩ := Int.eq_ofNat_of_zero_le ha0
  clear h2 hR hi
  have w24 : IntKind.i64.wrap ((a : Int) + 24) = (a : Int) + 24 := wrap_id (by omega) (by omega)
  have w25 : IntKind.i64.wrap ((a : Int) + 24 + 1) = (a : Int) + 25 := by rw [wrap_id (by omega) (by omega)]; omega
  have n24 : ((a : Int) + 24).toNat = a + 24 := by omega
  have v8 : win ws 0 8 = ws.take 8 := rfl
  conv => whnf
  refine sel_i (fun h2 => ?_) (fun h2 => ?_)
  · conv => whnf
    rw [w24, w25] at h2
    rw [stateOf_len hg (by simpa using h2)]; exact ⟨rfl, rfl⟩
  rw [w24, w25] at h2
  have hb : (b.length : Int) = a + 25 := by simpa using h2
  clear h2
  conv => whnf
  repeat' (first | (refine sel_i (fun h => ?_) (fun h => ?_) <;> conv => whnf) | (refine chk_c ?_ ?_ <;> conv => whnf) | (refine And.intro ?_ rfl) | (refine And.intro ?_ ?_ <;> conv => whnf))
  all_goals try (refine ⟨?_⟩; first | (show (0 : Int) ≤ 8 ∧ 8 < (ws.length : Int); omega) | (show 8 < ws.length; omega) | (show (0 : Int) ≤ 8 ∧ 8 ≤ (ws.length : Int); omega) | (simp [win]; omega))
  simp only [tn8, v8, List.nil_append]
  refine loop (α := Nat × List Word × List Bool) (fun q => ⟨[(0, .v (.c (.sl false (.int .u8) 0))), (2, .v (.c (.ptr 1 0))), (4, .v (.c (.ptr 2 0))), (5, .v (.c (.int .i64 (a : Int)))), (6, .v (.c (.sl true .word 6))), (10, .v (.c (.int .i64 (q.1 : Int))))],
        [(6, some (.flat true .word none ws)), (5, some (.flat true .bool none q.2.2)), (4, some (.flat true .word none q.2.1)), (3, some (.flat true .word none (List.take 8 ws))), (2, some (.box true [.sl true .word 3, .int .i64 (ws.getD 8 (FT.zero .word)).n, .bool (ws.getD 8 (FT.zero .word)).is, .int .i64 (ws.getD 8 (FT.zero .word)).key.base, .int .i64 (ws.getD 8 (FT.zero .word)).key.top, .int .i64 (ws.getD 8 (FT.zero .word)).key.perms, .int .i64 (ws.getD 8 (FT.zero .word)).key.sealed, .sl false .word 4, .sl false .bool 5, .int .i64 0])), (1, some (.box true [.nils .word, .int .i64 0, .ff, .int .i64 0, .int .i64 0, .int .i64 0, .int .i64 0, .nils .word, .nils .bool, .int .i64 0])), (0, some (.flat false (.int .u8) none b))], nums.tail.tail.tail.tail.tail.tail.tail, [], false, []⟩)
    (fun q => q.1 ≤ 24 ∧ q.2.1 = (ws.drop 9).take q.1 ++ memNew.words.drop q.1 ∧ q.2.2 = ((win b a 24).map (fun v => v == 1)).take q.1 ++ memNew.gone.drop q.1) (fun q => 24 - q.1) (fun q R hI hR => ?_) (0, memNew.words, memNew.gone) _ ⟨by simp, by simp, by simp⟩ (by simp)
  obtain ⟨k, us, gs⟩ := q
  obtain ⟨hk, hus, hgs⟩ := hI
  dsimp only at hk hus hgs
  have hl : (win b a 24).length = 24 := win_len (by omega)
  have hul : us.length = 24 := by rw [hus]; simp [memNew]; omega
  have hgl : gs.length = 24 := by rw [hgs]; simp [memNew, hl]; omega
  dsimp only
  conv => whnf
  refine sel_i (fun h2 => ?_) (fun h2 => ?_)
  · have h2 : (k : Int) < 24 := of_decide_eq_true h2
    have w9 : IntKind.i64.wrap (9 + (k : Int)) = 9 + (k : Int) := wrap_id (by omega) (by omega)
    have n9 : (9 + (k : Int)).toNat = 9 + k := by omega
    have wk2 : IntKind.i64.wrap ((a : Int) + (k : Int)) = (a : Int) + (k : Int) := wrap_id (by omega) (by omega)
    have nk2 : ((a : Int) + (k : Int)).toNat = a + k := by omega
    conv => whnf
    repeat' (first | (refine sel_i (fun h => ?_) (fun h => ?_) <;> conv => whnf) | (refine chk_c ?_ ?_ <;> conv => whnf) | (refine And.intro ?_ rfl) | (refine And.intro ?_ ?_ <;> conv => whnf))
    all_goals (try simp only [w9, n9, wk2, nk2, Int.toNat_natCast, etaKey, etaWord, zu8] at *)
    all_goals first
      | (refine ⟨?_⟩; omega)
      | (rw [wrap_id (n := (k : Int) + 1) (by omega) (by omega)]
         exact hR (k + 1, us.set k (ws.getD (9 + k) (FT.zero .word)), gs.set k (b.getD (a + k) 0 == 1)) ⟨by dsimp only; omega, by
            dsimp only; rw [hus]; refine set_mid (by simp [memNew]; omega) (by simp [memNew]; omega) ?_
            rw [List.getElem?_drop, List.getElem?_eq_getElem (by omega), List.getD_eq_getElem?_getD, List.getElem?_eq_getElem (by omega)]; rfl, by
            dsimp only; rw [hgs]; refine set_mid (by simp [memNew, hl]) (by simp [memNew]; omega) ?_
            have e := win_at (b := b) (o := a) (i := k) (n := 24) (by omega)
            rw [List.getD_eq_getElem?_getD, List.getElem?_eq_getElem (by omega), Option.getD_some] at e
            rw [← e, List.getElem?_map, List.getElem?_eq_getElem (by omega)]; rfl⟩ (by dsimp only; omega))
      | trace_state
  have h2 : ¬ (k : Int) < 24 := of_decide_eq_false h2
  have hk24 : k = 24 := by omega
  subst hk24
  have hus : us = ws.drop 9 := by rw [hus, show List.drop 24 memNew.words = [] from rfl, List.append_nil, List.take_of_length_le (by rw [List.length_drop]; omega)]
  have hgs : gs = (win b a 24).map (fun v => v == 1) := by rw [hgs, show List.drop 24 memNew.gone = [] from rfl, List.append_nil, List.take_of_length_le (by rw [List.length_map]; omega)]
  subst hus hgs
  clear h2 hR
  have wt : IntKind.i64.wrap (b.getD (a + 24) (FT.zero (.int .u8))) = b.getD (a + 24) 0 := wrap_id (n := b.getD (a + 24) 0) (by have := l2.at (a + 24); omega) (by have := l2.at (a + 24); omega)
  conv => whnf
  repeat' (first | (refine sel_i (fun h => ?_) (fun h => ?_) <;> conv => whnf) | (refine chk_c ?_ ?_ <;> conv => whnf) | (refine And.intro ?_ rfl) | (refine And.intro ?_ ?_ <;> conv => whnf))
  all_goals (try simp only [w24, n24, wt, etaKey, etaWord, etaMemory, etaState] at *)
  all_goals first
    | (refine ⟨?_⟩; omega)
    | (refine ⟨?_⟩; exact ⟨by simp; omega, by simp; omega, by dsimp only; omega⟩)
    | skip
  all_goals (rw [strI_eq (stateBytes_u8 _) l2] at h)
  · rw [stateOf_ne hg (nd_f (p := stateBytes (stateAt b ws a) = b) h)]; rfl
  · rw [stateOf_ok hg hb (nd_t (p := stateBytes (stateAt b ws a) = b) h)]; rfl
theorem ok_spec_StateOf : FunOk Try.prog c_spec_StateOf := funOk (E := [c_spec_WordOf, c_spec_StateBytes, c_spec_MemoryNew]) (envOk_cons ok_spec_WordOf (envOk_cons ok_spec_StateBytes (envOk_cons ok_spec_MemoryNew (envOk_nil)))) mixd Try.func39 (pf := pf_spec_StateOf) (by kernel_rfl) fun ts K h => by
  obtain ⟨t0, e0, h⟩ := as1_out h
  subst e0
  obtain ⟨b, e1, hq⟩ := arC_out (rd_l (.int .u8)) h
  clear h
  subst e1
  have h := hq
  clear hq
  obtain ⟨hpre, h⟩ := chk_o h
  exact ⟨_, _, h, Nat.le_of_ble_eq_true (show Nat.ble 1 Try.f39.ntmps = true by kernel_rfl), _, run_spec_StateOf b hpre⟩

theorem stateOf_some {b : List Int} {s : State} (h : stateOf b = some s) : stateBytes s = b := by
  unfold stateOf at h
  split at h
  · split at h
    · rename_i h2; cases h; exact h2.2
    · cases h
  · cases h
theorem stateBytes_stateOk {s : State} (h : stateBytes s ≠ []) : stateOk s = true := by
  cases e : stateOk s with
  | true => rfl
  | false => exact absurd (stateBytes_no e) h
theorem stateOf_len8 {b : List Int} : LState ((stateOf b).getD zState) 2147483647 := by
  cases e : stateOf b with
  | none => exact ⟨Nat.zero_le _, Nat.zero_le _, Nat.zero_le _⟩
  | some s =>
    have h := stateOf_some e
    have hl : b.length ≠ 0 := by
      unfold stateOf at e
      split at e
      · split at e
        · rename_i ws a _ h2
          rename_i hg
          intro h0
          rw [show b = [] from List.eq_nil_of_length_eq_zero h0] at hg
          have h9 : stateOfGo [] 33 [] 0 = none := rfl
          rw [h9] at hg; cases hg
        · cases e
      · cases e
    have h8 := stateOk_len (stateBytes_stateOk (s := s) (fun q => hl (by rw [← h, q]; rfl)))
    exact h8.l

def stC (v : State) (i j k : Nat) (r : List Cell) : List Cell := .sl false .word i :: v.pc.flat (.sl false .word j :: .sl false .bool k :: .int .i64 v.trap :: r)
def zSC : List Cell := [.nils .word, .int .i64 0, .ff, .int .i64 0, .int .i64 0, .int .i64 0, .int .i64 0, .nils .word, .nils .bool, .int .i64 0]


/-! words that are right, and what they are under -/
theorem wrap_bv (n : Int) : BitVec.ofInt IntKind.i64.bits (IntKind.i64.wrap n) = BitVec.ofInt IntKind.i64.bits n := by
  apply BitVec.eq_of_toNat_eq
  simp only [BitVec.toNat_ofInt, IntKind.wrap_i64]
  show (_ % (18446744073709551616 : Int)).toNat = (n % (18446744073709551616 : Int)).toNat
  omega
theorem andI_bv (a b : Int) : BitVec.ofInt IntKind.i64.bits (andI a b) = BitVec.ofInt IntKind.i64.bits a &&& BitVec.ofInt IntKind.i64.bits b := by
  unfold andI
  rw [wrap_bv, BitVec.ofInt_natCast, BitVec.ofNat_toNat, BitVec.setWidth_eq]
theorem andI_comm (a b : Int) : andI a b = andI b a := by unfold andI; rw [BitVec.and_comm]
theorem andI_assoc (a b c : Int) : andI (andI a b) c = andI a (andI b c) := by
  have h1 : andI (andI a b) c = IntKind.i64.wrap ((BitVec.ofInt IntKind.i64.bits a &&& BitVec.ofInt IntKind.i64.bits b) &&& BitVec.ofInt IntKind.i64.bits c).toNat := by rw [← andI_bv]; rfl
  have h2 : andI a (andI b c) = IntKind.i64.wrap (BitVec.ofInt IntKind.i64.bits a &&& (BitVec.ofInt IntKind.i64.bits b &&& BitVec.ofInt IntKind.i64.bits c)).toNat := by rw [← andI_bv]; rfl
  rw [h1, h2, BitVec.and_assoc]
theorem andI_zero (a : Int) : andI a 0 = 0 := by
  unfold andI
  rw [show BitVec.ofInt IntKind.i64.bits 0 = 0#_ from rfl, BitVec.and_zero]; rfl
theorem andI_nat {m n : Nat} (h : n < 9223372036854775808) : andI (m : Int) (n : Int) = ((m % 18446744073709551616 &&& n : Nat) : Int) := by
  unfold andI
  rw [BitVec.ofInt_natCast, BitVec.ofInt_natCast, BitVec.toNat_and, BitVec.toNat_ofNat, BitVec.toNat_ofNat]
  show IntKind.i64.wrap ((m % 18446744073709551616 &&& n % 18446744073709551616 : Nat) : Int) = _
  rw [Nat.mod_eq_of_lt (a := n) (by omega)]
  have : m % 18446744073709551616 &&& n ≤ n := Nat.and_le_right
  exact wrap_id (by omega) (by omega)
theorem andI_le (a : Int) {p : Int} (h : 0 ≤ p) (h2 : p < 9223372036854775808) : 0 ≤ andI a p ∧ andI a p ≤ p := by
  obtain ⟨n, rfl⟩ := Int.eq_ofNat_of_zero_le h
  unfold andI
  have h1 : (BitVec.ofInt IntKind.i64.bits a &&& BitVec.ofInt IntKind.i64.bits (n : Int)).toNat ≤ n := by
    rw [BitVec.toNat_and, BitVec.ofInt_natCast, BitVec.toNat_ofNat]
    refine Nat.le_trans Nat.and_le_right (Nat.mod_le _ _)
  rw [wrap_id (by omega) (by omega)]; omega
theorem andI_le' {p : Int} (a : Int) (h : 0 ≤ p) (h2 : p < 9223372036854775808) : 0 ≤ andI p a ∧ andI p a ≤ p := by rw [andI_comm]; exact andI_le a h h2
theorem andI_same (a b : Int) : andI a (andI a b) = andI a b := by
  rw [← andI_assoc]
  have h1 : andI (andI a a) b = IntKind.i64.wrap ((BitVec.ofInt IntKind.i64.bits a &&& BitVec.ofInt IntKind.i64.bits a) &&& BitVec.ofInt IntKind.i64.bits b).toNat := by rw [← andI_bv]; rfl
  rw [h1, BitVec.and_self]; rfl
theorem andI_self {a : Int} (h : 0 ≤ a) (h2 : a < 9223372036854775808) : andI a a = a := by
  obtain ⟨n, rfl⟩ := Int.eq_ofNat_of_zero_le h
  rw [andI_nat (by omega), Nat.mod_eq_of_lt (by omega), Nat.and_self]
theorem andI_bit {a b p : Int} (h : andI a b = b) (hp : ¬ andI b p = 0) : ¬ andI a p = 0 := fun h0 => hp (by
  rw [← h, andI_comm a b, andI_assoc, h0, andI_zero])

/-! ### bounds -/
theorem packGo_some {b t : Int} {p : Packed} : ∀ {n e0 : Nat}, packGo b t n e0 = some p → ∃ e : Nat, e0 ≤ e ∧ e < e0 + n ∧ p = ⟨e, packB b e, packL b t e⟩ ∧ packOk b t e = true
  | 0, e0, h => by cases h
  | n + 1, e0, h => by
    unfold packGo at h
    split at h
    · rename_i h1; cases h; exact ⟨e0, by omega, by omega, rfl, h1⟩
    · obtain ⟨e, h1, h2, h3, h4⟩ := packGo_some h; exact ⟨e, by omega, by omega, h3, h4⟩
theorem packGo_find {b t : Int} {e : Nat} (hp : packOk b t e = true) : ∀ {n e0 : Nat}, e0 ≤ e → e < e0 + n → ∃ f : Nat, e0 ≤ f ∧ f ≤ e ∧ packGo b t n e0 = some ⟨f, packB b f, packL b t f⟩ ∧ packOk b t f = true
  | 0, e0, h1, h2 => by omega
  | n + 1, e0, h1, h2 => by
    by_cases h : packOk b t e0 = true
    · exact ⟨e0, by omega, h1, packGo_t h, h⟩
    · have hne : e0 ≠ e := fun q => h (q ▸ hp)
      obtain ⟨f, g1, g2, g3, g4⟩ := packGo_find hp (n := n) (e0 := e0 + 1) (by omega) (by omega)
      exact ⟨f, by omega, g2, by rw [packGo_f (by simpa using h)]; exact g3, g4⟩
theorem packOk_n {b t : Int} {e : Nat} (h : packOk b t e = true) : packB b e ≤ 63 ∧ packL b t e ≤ 63 := by simpa [packOk] using h
theorem wide_e {b t : Int} (h : boundsOk b t = true) {e : Nat} (he : e ≤ 6) (hp : pack b t = some ⟨e, packB b e, packL b t e⟩) (ho : packOk b t e = true) :
    wide b t = (packB b e * 2 ^ e, min 4096 ((packB b e + packL b t e) * 2 ^ e)) := by
  obtain ⟨h0, h1, h2⟩ := bounds_n h
  obtain ⟨o1, o2⟩ := packOk_n ho
  have hu : unpackOk ⟨e, packB b e, packL b t e⟩ = true := by
    simp only [unpackOk, Bool.and_eq_true, inR_t]
    unfold packB packL at *
    rcases e_cases he with rfl | rfl | rfl | rfl | rfl | rfl | rfl <;> simp only [Int.reducePow, Int.pow_zero] at * <;> omega
  unfold wide
  rw [if_pos h, hp]
  simp only [Option.isSome_some, if_true, Option.getD_some]
  rw [unpack_yes hu]
  simp only [Int.toNat_natCast]
theorem wide_cases {b t : Int} (h : boundsOk b t = true) : wide b t = (0, 4096) ∨ ∃ e : Nat, e ≤ 6 ∧ packOk b t e = true ∧ wide b t = (packB b e * 2 ^ e, min 4096 ((packB b e + packL b t e) * 2 ^ e)) := by
  cases hp : pack b t with
  | none => left; unfold wide; rw [if_pos h, hp]; rfl
  | some p =>
    have hp2 := hp
    rw [pack_yes h] at hp2
    obtain ⟨e, h1, h2, rfl, h4⟩ := packGo_some hp2
    exact .inr ⟨e, by omega, h4, wide_e h (by omega) hp h4⟩
theorem wide_parts {e : Nat} (he : e ≤ 6) {lo hi B L : Int} (hB : 0 ≤ B ∧ B ≤ 63) (hL : 0 ≤ L ∧ L ≤ 63) (h1 : lo = B * 2 ^ e) (h2 : hi = min 4096 ((B + L) * 2 ^ e)) : boundsOk lo hi = true ∧ wide lo hi = (lo, hi) := by
  have hb : boundsOk lo hi = true := by
    simp only [boundsOk, Bool.and_eq_true, decide_eq_true_eq]
    rcases e_cases he with rfl | rfl | rfl | rfl | rfl | rfl | rfl <;> simp only [Int.reducePow, Int.pow_zero] at * <;> omega
  refine ⟨hb, ?_⟩
  have ho : packOk lo hi e = true := by
    simp only [packOk, Bool.and_eq_true, decide_eq_true_eq]
    unfold packB packL
    rcases e_cases he with rfl | rfl | rfl | rfl | rfl | rfl | rfl <;> simp only [Int.reducePow, Int.pow_zero] at * <;> omega
  obtain ⟨f, f1, f2, f3, f4⟩ := packGo_find ho (n := 7) (e0 := 0) (by omega) (by omega)
  rw [wide_e hb (e := f) (by omega) (by rw [pack_yes hb]; exact f3) f4]
  unfold packB packL
  rcases e_cases he with rfl | rfl | rfl | rfl | rfl | rfl | rfl <;> rcases e_cases (e := f) (by omega) with rfl | rfl | rfl | rfl | rfl | rfl | rfl <;>
    first
      | (exfalso; omega)
      | (simp only [Int.reducePow, Int.pow_zero, Prod.mk.injEq] at *; omega)
theorem wide_ok {b t : Int} (h : boundsOk b t = true) : 0 ≤ (wide b t).1 ∧ (wide b t).1 ≤ b ∧ t ≤ (wide b t).2 ∧ (wide b t).2 ≤ 4096 ∧ exact_ (wide b t).1 (wide b t).2 = true := by
  obtain ⟨h0, h1, h2⟩ := bounds_n h
  rcases wide_cases h with e | ⟨e, he, ho, hw⟩
  · rw [e]; exact ⟨by decide, by omega, by omega, by decide, by decide +kernel⟩
  · obtain ⟨o1, o2⟩ := packOk_n ho
    have hB : 0 ≤ packB b e ∧ packB b e ≤ 63 := ⟨by
      unfold packB
      rcases e_cases he with rfl | rfl | rfl | rfl | rfl | rfl | rfl <;> simp only [Int.reducePow, Int.pow_zero] <;> omega, o1⟩
    have hL : 0 ≤ packL b t e ∧ packL b t e ≤ 63 := ⟨by
      unfold packL
      rcases e_cases he with rfl | rfl | rfl | rfl | rfl | rfl | rfl <;> simp only [Int.reducePow, Int.pow_zero] <;> omega, o2⟩
    obtain ⟨g1, g2⟩ := wide_parts he hB hL rfl rfl
    rw [hw]
    refine ⟨?_, ?_, ?_, by dsimp only; omega, by simp only [exact_, g1, g2, decide_true, Bool.and_self]⟩
    all_goals
      dsimp only
      unfold packB packL at *
      rcases e_cases he with rfl | rfl | rfl | rfl | rfl | rfl | rfl <;> simp only [Int.reducePow, Int.pow_zero] at * <;> omega
/-! ### keys and words -/
theorem keyOk_n {k : Key} (h : keyOk k = true) : 0 ≤ k.base ∧ k.base ≤ k.top ∧ k.top ≤ 4096 ∧ 0 ≤ k.perms ∧ k.perms ≤ 63 ∧ 0 ≤ k.sealed ∧ k.sealed ≤ 7 := by
  simp only [keyOk, Bool.and_eq_true, exact_, inR_t] at h
  have := bounds_n h.1.1.1.1
  omega
theorem keyOk_mk {k : Key} (h : exact_ k.base k.top = true) (h1 : 0 ≤ k.perms ∧ k.perms ≤ 63) (h2 : 0 ≤ k.sealed ∧ k.sealed ≤ 7) : keyOk k = true := by
  simp only [keyOk, Bool.and_eq_true, inR_t]; exact ⟨⟨h, h1⟩, h2⟩
theorem keyOk_exact {k : Key} (h : keyOk k = true) : exact_ k.base k.top = true := by simp only [keyOk, Bool.and_eq_true] at h; exact h.1.1
theorem wordOk_is {w : Word} (h : wordOk w = true) (h2 : w.is = true) : keyOk w.key = true := by
  simp only [wordOk, h2, if_true, Bool.and_eq_true] at h; exact h.2
theorem wordOk_mk {n : Int} {k : Key} (h : 0 ≤ n ∧ n ≤ 65535) (h2 : keyOk k = true) : wordOk ⟨n, true, k⟩ = true := by
  simp only [wordOk, if_true, Bool.and_eq_true, inR_t]; exact ⟨h, h2⟩
theorem and65 (n : Int) : 0 ≤ andI n 65535 ∧ andI n 65535 ≤ 65535 := andI_le n (by decide) (by decide)
theorem plainW_ok (n : Int) : wordOk (plainW n) = true := by
  simp only [wordOk, plainW, Bool.and_eq_true, inR_t, Bool.false_eq_true, if_false, decide_true, and_true]
  exact and65 n
def coversK (a b : Key) : Bool := keyOk a && keyOk b && decide (a.base ≤ b.base) && decide (b.top ≤ a.top) && decide (andI a.perms b.perms = b.perms)
theorem coversK_iff {a b : Key} : coversK a b = true ↔ keyOk a = true ∧ keyOk b = true ∧ a.base ≤ b.base ∧ b.top ≤ a.top ∧ andI a.perms b.perms = b.perms := by
  simp only [coversK, Bool.and_eq_true, decide_eq_true_eq, and_assoc]
theorem coversK_refl {a : Key} (h : keyOk a = true) : coversK a a = true :=
  coversK_iff.2 ⟨h, h, Int.le_refl _, Int.le_refl _, andI_self (by have := keyOk_n h; omega) (by have := keyOk_n h; omega)⟩
theorem coversK_trans {a b c : Key} (h : coversK a b = true) (k : coversK b c = true) : coversK a c = true := by
  obtain ⟨h1, h2, h3, h4, h5⟩ := coversK_iff.1 h
  obtain ⟨k1, k2, k3, k4, k5⟩ := coversK_iff.1 k
  exact coversK_iff.2 ⟨h1, k2, by omega, by omega, by rw [← k5, ← andI_assoc, h5]⟩
def Und (C : List Word) (w : Word) : Prop := w.is = true → ∃ c ∈ C, c.is = true ∧ coversK c.key w.key = true
theorem und_bare (C : List Word) (n : Int) : Und C (plainW n) := fun h => by cases h
theorem und_zero (C : List Word) : Und C zW := fun h => by cases h
theorem und_of {C : List Word} {w v : Word} (h : Und C w) (hw : w.is = true) (hk : coversK w.key v.key = true) : Und C v := fun _ => by
  obtain ⟨c, h1, h2, h3⟩ := h hw
  exact ⟨c, h1, h2, coversK_trans h3 hk⟩
theorem openW_iff {w : Word} : openW w = true ↔ wordOk w = true ∧ w.is = true ∧ w.key.sealed = 0 := by
  simp only [openW, Bool.and_eq_true, beq_iff_eq, and_assoc]
theorem sealsB_n {y : Word} (h : sealsB y = true) : openW y = true ∧ ¬ andI y.key.perms 32 = 0 ∧ 1 ≤ y.n ∧ y.n ≤ 7 := by
  simp only [sealsB, Bool.and_eq_true, bne_iff_ne, inR_t] at h
  exact ⟨h.1.1.1.1, h.1.1.1.2, h.2.1, h.2.2⟩
def Fine (w v : Word) : Prop := wordOk v = true ∧ (v.is = true → w.is = true ∧ coversK w.key v.key = true)
theorem fine_bare (w : Word) (n : Int) : Fine w (plainW n) := ⟨plainW_ok n, fun h => by cases h⟩
theorem fine_self {w : Word} (h : wordOk w = true) : Fine w w := ⟨h, fun hi => ⟨hi, coversK_refl (wordOk_is h hi)⟩⟩
theorem Fine.und {C : List Word} {w v : Word} (h : Fine w v) (hu : Und C w) : Und C v := fun hi => by
  obtain ⟨h1, h2⟩ := h.2 hi
  exact und_of hu h1 h2 hi
theorem weakenW_fine (w : Word) (m : Int) : Fine w (weakenW w m) := by
  unfold weakenW
  split
  · rename_i h
    obtain ⟨h1, h2, h3⟩ := openW_iff.1 h
    have hk := wordOk_is h1 h2
    have hn := keyOk_n hk
    have hp := andI_le' (andI m 63) (p := w.key.perms) (by omega) (by omega)
    have hk' : keyOk { w.key with perms := andI w.key.perms (andI m 63) } = true := keyOk_mk (k := ⟨w.key.base, w.key.top, andI w.key.perms (andI m 63), w.key.sealed⟩) (keyOk_exact (k := w.key) hk) ⟨hp.1, by dsimp only; omega⟩ (by dsimp only; omega)
    refine ⟨?_, fun _ => ⟨h2, coversK_iff.2 ⟨hk, hk', Int.le_refl _, Int.le_refl _, andI_same _ _⟩⟩⟩
    have hw := wordOk_n h1
    simp only [wordOk, h2, if_true, Bool.and_eq_true, inR_t]
    exact ⟨hw, hk'⟩
  · exact fine_bare w _
theorem narrowW_fine (w : Word) (n : Int) : Fine w (narrowW w n) := by
  unfold narrowW
  split
  · rename_i h
    simp only [Bool.and_eq_true] at h
    obtain ⟨⟨h, _⟩, hb⟩ := h
    obtain ⟨h1, h2, h3⟩ := openW_iff.1 h
    have hk := wordOk_is h1 h2
    have hn := keyOk_n hk
    split
    · exact fine_bare w _
    · rename_i hr
      obtain ⟨w1, w2, w3, w4, w5⟩ := wide_ok hb
      have hk' : keyOk { w.key with base := (wide w.n (IntKind.i64.wrap (w.n + n))).1, top := (wide w.n (IntKind.i64.wrap (w.n + n))).2 } = true := keyOk_mk w5 (by dsimp only; omega) (by dsimp only; omega)
      refine ⟨?_, fun _ => ⟨h2, coversK_iff.2 ⟨hk, hk', by dsimp only; omega, by dsimp only; omega, andI_self (by omega) (by omega)⟩⟩⟩
      have hw := wordOk_n h1
      simp only [wordOk, h2, if_true, Bool.and_eq_true, inR_t]
      exact ⟨hw, hk'⟩
  · exact fine_bare w _
theorem pointW_fine (w : Word) (n : Int) : Fine w (pointW w n) := by
  unfold pointW
  split
  · rename_i h
    obtain ⟨h1, h2, h3⟩ := openW_iff.1 h
    exact ⟨wordOk_mk (and65 n) (wordOk_is h1 h2), fun _ => ⟨h2, coversK_refl (wordOk_is h1 h2)⟩⟩
  · exact fine_bare w _
theorem seal_fine {w : Word} (h1 : wordOk w = true) (h2 : w.is = true) {s : Int} (hs : 0 ≤ s ∧ s ≤ 7) : Fine w { w with key := { w.key with sealed := s } } := by
  have hk := wordOk_is h1 h2
  have hn := keyOk_n hk
  have hk' : keyOk { w.key with sealed := s } = true := keyOk_mk (k := ⟨w.key.base, w.key.top, w.key.perms, s⟩) (keyOk_exact (k := w.key) hk) (by dsimp only; omega) hs
  refine ⟨?_, fun _ => ⟨h2, coversK_iff.2 ⟨hk, hk', Int.le_refl _, Int.le_refl _, andI_self (by omega) (by omega)⟩⟩⟩
  have hw := wordOk_n h1
  simp only [wordOk, h2, if_true, Bool.and_eq_true, inR_t]
  exact ⟨hw, hk'⟩
theorem sealBy_fine (w y : Word) : Fine w (sealBy w y) := by
  unfold sealBy
  split
  · rename_i h
    simp only [Bool.and_eq_true] at h
    obtain ⟨h1, h2, h3⟩ := openW_iff.1 h.1
    exact seal_fine h1 h2 (by have := sealsB_n h.2; omega)
  · exact fine_bare w _
theorem openBy_fine (w y : Word) : Fine w (openBy w y) := by
  unfold openBy
  split
  · rename_i h
    simp only [Bool.and_eq_true] at h
    exact seal_fine h.1.1.1 h.1.1.2 (by decide)
  · exact fine_bare w _
theorem takenW_fine {y w : Word} (h : wordOk w = true) : Fine w (takenW y w) := by
  unfold takenW
  split
  · exact fine_bare w _
  · exact fine_self h
theorem filterW_fine {g : List Bool} {w : Word} (h : wordOk w = true) : Fine w (filterW g w) := by
  unfold filterW
  split
  · exact fine_bare w _
  · exact fine_self h
theorem zW_ok : wordOk zW = true := by decide
theorem tryW_0 {w : Word} {n p : Int} (h : tryW w n p = 0) : wordOk w = true ∧ w.is = true ∧ w.key.sealed = 0 ∧ andI w.key.perms p = p ∧ w.key.base ≤ n ∧ n < w.key.top := by
  unfold tryW at h
  split at h
  · cases h
  · rename_i h1
    split at h
    · cases h
    · rename_i h2
      split at h
      · cases h
      · rename_i h3
        split at h
        · cases h
        · rename_i h4
          exact ⟨by cases e : wordOk w with | true => rfl | false => exact absurd (.inr e) h1, by cases e : w.is with | true => rfl | false => exact absurd (.inl e) h1, by omega, by omega, by omega, by omega⟩
theorem tryW_in (w : Word) (n p : Int) : 0 ≤ tryW w n p ∧ tryW w n p ≤ 4 := by
  unfold tryW
  repeat' split
  all_goals omega
theorem getD_ok {ws : List Word} (h : ∀ w ∈ ws, wordOk w = true) (i : Nat) : wordOk (ws.getD i (FT.zero .word)) = true := by
  rw [List.getD_eq_getElem?_getD]
  cases e : ws[i]? with
  | none => exact zW_ok
  | some w => exact h w (List.mem_of_getElem? e)
theorem getD_und {C ws : List Word} (h : ∀ w ∈ ws, Und C w) (i : Nat) : Und C (ws.getD i (FT.zero .word)) := by
  rw [List.getD_eq_getElem?_getD]
  cases e : ws[i]? with
  | none => exact und_zero C
  | some w => exact h w (List.mem_of_getElem? e)

/-! states that are right stay so -/
theorem memoryOk_iff {m : Mem} : memoryOk m = true ↔ m.words.length = 24 ∧ m.gone.length = 24 ∧ ∀ w ∈ m.words, wordOk w = true := by
  simp only [memoryOk, Bool.and_eq_true, decide_eq_true_eq, List.all_eq_true, and_assoc]
theorem stateOk_iff {s : State} : stateOk s = true ↔ s.regs.length = 8 ∧ (∀ w ∈ s.regs, wordOk w = true) ∧ wordOk s.pc = true ∧ memoryOk s.mem = true ∧ 0 ≤ s.trap ∧ s.trap ≤ 5 := by
  simp only [stateOk, Bool.and_eq_true, decide_eq_true_eq, List.all_eq_true, inR_t, and_assoc]
theorem fine_zero (w : Word) : Fine w zW := ⟨zW_ok, fun h => by cases h⟩
def Made (pc a b got v : Word) : Prop := Fine pc v ∨ Fine a v ∨ Fine b v ∨ Fine got v
theorem Made.ok {pc a b got v : Word} (h : Made pc a b got v) : wordOk v = true := by rcases h with h | h | h | h <;> exact h.1
theorem Made.und {C : List Word} {pc a b got v : Word} (h : Made pc a b got v) (h1 : Und C pc) (h2 : Und C a) (h3 : Und C b) (h4 : Und C got) : Und C v := by
  rcases h with h | h | h | h
  · exact h.und h1
  · exact h.und h2
  · exact h.und h3
  · exact h.und h4
theorem madeW_made {x : Inst} {pc a b got : Word} (ha : wordOk a = true) (hg : wordOk got = true) : Made pc a b got (madeW x a b got) := by
  unfold madeW
  repeat' split
  · exact .inr (.inl (fine_bare _ _))
  · exact .inr (.inl (fine_bare _ _))
  · exact .inr (.inl (fine_self ha))
  · exact .inr (.inl (weakenW_fine _ _))
  · exact .inr (.inl (narrowW_fine _ _))
  · exact .inr (.inl (pointW_fine _ _))
  · exact .inr (.inl (sealBy_fine _ _))
  · exact .inr (.inl (openBy_fine _ _))
  · exact .inr (.inl (fine_bare _ _))
  · exact .inr (.inl (fine_bare _ _))
  · exact .inr (.inr (.inr (fine_self hg)))
theorem nextW_made {pc a b got : Word} : Made pc a b got (nextW pc) := .inl (pointW_fine _ _)
theorem made_zero {pc a b got : Word} : Made pc a b got zW := .inl (fine_zero _)
structure WorkSpec (x : Inst) (pc a b got : Word) (e : Eff) : Prop where
  val : Made pc a b got e.val
  next : Made pc a b got e.next
  put : Made pc a b got e.put
  addr : e.addr ≠ -1 → x.op = 11 ∧ e.addr = IntKind.i64.wrap (a.n + x.n) ∧ e.put = b
  drop : e.drop ≠ -1 → tryW a a.n 32 = 0 ∧ e.drop = a.key.base
theorem workE_spec {x : Inst} {pc a b got : Word} (ha : wordOk a = true) (hb : wordOk b = true) (hg : wordOk got = true) :
    (0 ≤ (workE x pc a b got).trap ∧ (workE x pc a b got).trap ≤ 5) ∧ ((workE x pc a b got).trap = 0 → WorkSpec x pc a b got (workE x pc a b got)) := by
  unfold workE
  split
  · rename_i h
    exact ⟨(show (0 : Int) ≤ 0 ∧ (0 : Int) ≤ 5 by decide), fun _ => ⟨made_zero, nextW_made, .inr (.inr (.inl (fine_self hb))), fun _ => ⟨h, rfl, rfl⟩, fun h => absurd rfl h⟩⟩
  split
  · split
    · have := tryW_in a a.n 4
      rename_i h2
      exact ⟨by show 0 ≤ tryW a a.n 4 ∧ tryW a a.n 4 ≤ 5; omega, fun h => absurd h h2⟩
    · exact ⟨(show (0 : Int) ≤ 0 ∧ (0 : Int) ≤ 5 by decide), fun _ => ⟨nextW_made, .inr (.inl (fine_self ha)), made_zero, fun h => absurd rfl h, fun h => absurd rfl h⟩⟩
  split
  · refine ⟨(show (0 : Int) ≤ 0 ∧ (0 : Int) ≤ 5 by decide), fun _ => ⟨made_zero, ?_, made_zero, fun h => absurd rfl h, fun h => absurd rfl h⟩⟩
    dsimp only
    split
    · exact .inl (pointW_fine _ _)
    · exact nextW_made
  split
  · split
    · have := tryW_in a a.n 32
      rename_i h2
      exact ⟨by show 0 ≤ tryW a a.n 32 ∧ tryW a a.n 32 ≤ 5; omega, fun h => absurd h h2⟩
    · rename_i h2
      exact ⟨(show (0 : Int) ≤ 0 ∧ (0 : Int) ≤ 5 by decide), fun _ => ⟨made_zero, nextW_made, made_zero, fun h => absurd rfl h, fun _ => ⟨by simpa using h2, rfl⟩⟩⟩
  split
  · exact ⟨(show (0 : Int) ≤ 5 ∧ (5 : Int) ≤ 5 by decide), fun h => by cases h⟩
  split
  · refine ⟨(show (0 : Int) ≤ 0 ∧ (0 : Int) ≤ 5 by decide), fun _ => ⟨?_, nextW_made, made_zero, fun h => absurd rfl h, fun h => absurd rfl h⟩⟩
    dsimp only
    split
    · exact madeW_made ha hg
    · exact made_zero
  · exact ⟨(show (0 : Int) ≤ 0 ∧ (0 : Int) ≤ 5 by decide), fun _ => ⟨made_zero, nextW_made, made_zero, fun h => absurd rfl h, fun h => absurd rfl h⟩⟩
theorem readC_in (m : Mem) (y : Word) (n : Int) : 0 ≤ readC m y n ∧ readC m y n ≤ 4 := by
  have := tryW_in y n 1
  unfold readC
  repeat' split
  all_goals omega
theorem writeC_in (m : Mem) (y : Word) (n : Int) (w : Word) : 0 ≤ writeC m y n w ∧ writeC m y n w ≤ 4 := by
  have := tryW_in y n 2
  unfold writeC
  repeat' split
  all_goals omega
theorem readC_00 {m : Mem} {y : Word} {n : Int} (h : readC m y n = 0) : tryW y n 1 = 0 ∧ 0 ≤ n ∧ n ≤ m.words.length - 1 := by
  unfold readC at h
  split at h
  · rename_i h1; exact absurd h h1
  · rename_i h1
    split at h
    · rename_i h2; exact ⟨by omega, by have := inR_t.1 h2; omega⟩
    · cases h
theorem writeC_00 {m : Mem} {y w : Word} {n : Int} (h : writeC m y n w = 0) : tryW y n 2 = 0 ∧ 0 ≤ n ∧ n ≤ m.words.length - 1 := by
  unfold writeC at h
  split at h
  · rename_i h1; exact absurd h h1
  · rename_i h1
    split at h
    · cases h
    · rename_i h2
      have h2 : inR n 0 (m.words.length - 1) = true := by simpa using h2
      exact ⟨by omega, by have := inR_t.1 h2; omega⟩
theorem readM_in (m : Mem) (y : Word) (n : Int) : 0 ≤ (readM m y n).2 ∧ (readM m y n).2 ≤ 4 := by
  unfold readM
  split
  · exact readC_in m y n
  · exact (show (0 : Int) ≤ 0 ∧ (0 : Int) ≤ 4 by decide)
theorem readM_00 {m : Mem} {y : Word} {n : Int} (h : (readM m y n).2 = 0) : tryW y n 1 = 0 ∧ 0 ≤ n ∧ n ≤ m.words.length - 1 ∧ (readM m y n).1 = filterW m.gone (takenW y (m.words.getD n.toNat (FT.zero .word))) := by
  unfold readM at h ⊢
  split at h
  · rename_i h1; exact absurd h h1
  · rename_i h1
    rw [if_neg h1]
    have := readC_00 (m := m) (y := y) (n := n) (by omega)
    exact ⟨this.1, this.2.1, this.2.2, rfl⟩
theorem memE_in (m : Mem) (x : Inst) (a b : Word) : 0 ≤ (memE m x a b).2 ∧ (memE m x a b).2 ≤ 4 := by
  unfold memE
  repeat' split
  · exact readM_in _ _ _
  · exact writeC_in _ _ _ _
  · exact (show (0 : Int) ≤ 0 ∧ (0 : Int) ≤ 4 by decide)
theorem readM_ok {m : Mem} (hm : ∀ w ∈ m.words, wordOk w = true) (y : Word) (n : Int) : wordOk (readM m y n).1 = true := by
  unfold readM
  split
  · exact zW_ok
  · exact (filterW_fine (takenW_fine (getD_ok hm _)).1).1
theorem memE_ok {m : Mem} (hm : ∀ w ∈ m.words, wordOk w = true) (x : Inst) (a b : Word) : wordOk (memE m x a b).1 = true := by
  unfold memE
  repeat' split
  · exact readM_ok hm _ _
  · exact zW_ok
  · exact zW_ok
structure EffSpec (l : List Inst) (s : State) (x : Inst) (a b got : Word) : Prop where
  fetch : fetchI l s.pc = (x, 0)
  hx : insOk x = true
  ha : a = s.regs.getD x.a.toNat (FT.zero .word)
  hb : b = s.regs.getD x.b.toNat (FT.zero .word)
  mem : memE s.mem x a b = (got, 0)
  eff : effE l s = workE x s.pc a b got
theorem effE_parts {l : List Inst} {s : State} (h : (effE l s).trap = 0) : ∃ x a b got, EffSpec l s x a b got := by
  by_cases h1 : (fetchI l s.pc).2 = 0
  · by_cases h2 : (memE s.mem (fetchI l s.pc).1 (s.regs.getD (fetchI l s.pc).1.a.toNat (FT.zero .word)) (s.regs.getD (fetchI l s.pc).1.b.toNat (FT.zero .word))).2 = 0
    · refine ⟨(fetchI l s.pc).1, _, _, (memE s.mem (fetchI l s.pc).1 (s.regs.getD (fetchI l s.pc).1.a.toNat (FT.zero .word)) (s.regs.getD (fetchI l s.pc).1.b.toNat (FT.zero .word))).1, ?_, fetchI_ok h1, rfl, rfl, ?_, ?_⟩
      · rw [← h1]
      · rw [← h2]
      · unfold effE; simp only; rw [if_neg (by simpa using h1), if_neg (by simpa using h2)]
    · unfold effE at h; simp only at h; rw [if_neg (by simpa using h1), if_pos h2] at h; exact absurd h h2
  · unfold effE at h; simp only at h; rw [if_pos h1] at h; exact absurd h h1
theorem fetchI_in4 (l : List Inst) (pc : Word) : 0 ≤ (fetchI l pc).2 ∧ (fetchI l pc).2 ≤ 4 := by
  have := tryW_in pc pc.n 4
  unfold fetchI
  repeat' split
  all_goals dsimp only
  all_goals omega
theorem effE_in {l : List Inst} {s : State} (hs : stateOk s = true) : 0 ≤ (effE l s).trap ∧ (effE l s).trap ≤ 5 := by
  obtain ⟨h1, h2, h3, h4, h5, h6⟩ := stateOk_iff.1 hs
  obtain ⟨m1, m2, m3⟩ := memoryOk_iff.1 h4
  unfold effE
  simp only
  split
  · have := fetchI_in4 l s.pc; show 0 ≤ (fetchI l s.pc).2 ∧ _ ≤ _; show 0 ≤ (fetchI l s.pc).2 ∧ (fetchI l s.pc).2 ≤ 5; omega
  split
  · have := memE_in s.mem (fetchI l s.pc).1 (s.regs.getD (fetchI l s.pc).1.a.toNat (FT.zero .word)) (s.regs.getD (fetchI l s.pc).1.b.toNat (FT.zero .word))
    exact ⟨this.1, by have := this.2; unfold trapE; dsimp only; omega⟩
  · exact (workE_spec (getD_ok h2 _) (getD_ok h2 _) (memE_ok m3 _ _ _)).1
theorem EffSpec.work {l : List Inst} {s : State} {x : Inst} {a b got : Word} (h : EffSpec l s x a b got) (hs : stateOk s = true) (h0 : (effE l s).trap = 0) : WorkSpec x s.pc a b got (effE l s) := by
  obtain ⟨h1, h2, h3, h4, h5, h6⟩ := stateOk_iff.1 hs
  obtain ⟨m1, m2, m3⟩ := memoryOk_iff.1 h4
  have hg := memE_ok m3 x a b
  rw [h.mem] at hg
  rw [h.eff] at h0 ⊢
  exact (workE_spec (by rw [h.ha]; exact getD_ok h2 _) (by rw [h.hb]; exact getD_ok h2 _) hg).2 h0
theorem EffSpec.store {l : List Inst} {s : State} {x : Inst} {a b got : Word} (h : EffSpec l s x a b got) (hs : stateOk s = true) (h0 : (effE l s).trap = 0) (ha : (effE l s).addr ≠ -1) :
    tryW a (effE l s).addr 2 = 0 ∧ 0 ≤ (effE l s).addr ∧ (effE l s).addr ≤ 23 ∧ (effE l s).put = b := by
  obtain ⟨w1, w2, w3⟩ := (h.work hs h0).addr ha
  have hm := h.mem
  rw [memE_11 (by omega) w1] at hm
  have := writeC_00 (congrArg Prod.snd hm)
  obtain ⟨h1, h2, h3, h4, h5, h6⟩ := stateOk_iff.1 hs
  obtain ⟨m1, m2, m3⟩ := memoryOk_iff.1 h4
  rw [← w2] at this
  exact ⟨this.1, this.2.1, by omega, w3⟩
theorem EffSpec.load {l : List Inst} {s : State} {x : Inst} {a b got : Word} (h : EffSpec l s x a b got) : got = zW ∨ ∃ n : Int, tryW a n 1 = 0 ∧ 0 ≤ n ∧ n ≤ s.mem.words.length - 1 ∧ got = filterW s.mem.gone (takenW a (s.mem.words.getD n.toNat (FT.zero .word))) := by
  have hm := h.mem
  by_cases h1 : x.op = 10
  · rw [memE_10 h1] at hm
    obtain ⟨r1, r2, r3, r4⟩ := readM_00 (congrArg Prod.snd hm)
    right
    refine ⟨_, r1, r2, r3, ?_⟩
    rw [← r4, hm]
  · left
    by_cases h2 : x.op = 11
    · rw [memE_11 h1 h2] at hm; exact (congrArg Prod.fst hm).symm
    · rw [memE_x h1 h2] at hm; exact (congrArg Prod.fst hm).symm
theorem mem_set {α : Type} {xs : List α} {i : Nat} {v x : α} (h : x ∈ xs.set i v) : x ∈ xs ∨ x = v := List.mem_or_eq_of_mem_set h
theorem putE_ok {s : State} {e : Eff} (hs : stateOk s = true) (h1 : wordOk e.val = true) (h2 : wordOk e.next = true) (h3 : wordOk e.put = true) : stateOk (putE s e) = true := by
  obtain ⟨r1, r2, r3, r4, r5, r6⟩ := stateOk_iff.1 hs
  obtain ⟨m1, m2, m3⟩ := memoryOk_iff.1 r4
  refine stateOk_iff.2 ⟨?_, fun w hw => ?_, h2, memoryOk_iff.2 ⟨?_, ?_, fun w hw => ?_⟩, r5, r6⟩
  · unfold putE; dsimp only; split
    · rw [List.length_set]; exact r1
    · exact r1
  · unfold putE at hw; dsimp only at hw; split at hw
    · rcases mem_set hw with q | q
      · exact r2 w q
      · rw [q]; exact h1
    · exact r2 w hw
  · unfold putE; dsimp only; split
    · rw [List.length_set]; exact m1
    · exact m1
  · unfold putE; dsimp only; split
    · rw [List.length_set]; exact m2
    · exact m2
  · unfold putE at hw; dsimp only at hw; split at hw
    · rcases mem_set hw with q | q
      · exact m3 w q
      · rw [q]; exact h3
    · exact m3 w hw
theorem stateOk_trap2 {s : State} (hs : stateOk s = true) {t : Int} (h : 0 ≤ t ∧ t ≤ 5) : stateOk ⟨s.regs, s.pc, s.mem, t⟩ = true := by
  obtain ⟨r1, r2, r3, r4, r5, r6⟩ := stateOk_iff.1 hs
  exact stateOk_iff.2 ⟨r1, r2, r3, r4, h⟩
theorem stepS_cases {l : List Inst} {s : State} (hs : stateOk s = true) :
    (s.trap ≠ 0 ∧ stepS l s = s) ∨ (s.trap = 0 ∧ (effE l s).trap ≠ 0 ∧ stepS l s = ⟨s.regs, s.pc, s.mem, (effE l s).trap⟩) ∨ (s.trap = 0 ∧ (effE l s).trap = 0 ∧ stepS l s = putE s (effE l s)) := by
  by_cases h : s.trap = 0
  · by_cases h2 : (effE l s).trap = 0
    · exact .inr (.inr ⟨h, h2, stepS_0 hs h h2⟩)
    · exact .inr (.inl ⟨h, h2, stepS_e hs h h2⟩)
  · exact .inl ⟨h, stepS_trap hs h⟩
theorem stepS_ok {l : List Inst} {s : State} (hs : stateOk s = true) : stateOk (stepS l s) = true := by
  rcases stepS_cases (l := l) hs with ⟨h1, h2⟩ | ⟨h1, h2, h3⟩ | ⟨h1, h2, h3⟩
  · rw [h2]; exact hs
  · rw [h3]; exact stateOk_trap2 hs (effE_in hs)
  · rw [h3]
    obtain ⟨x, a, b, got, he⟩ := effE_parts h2
    have hw := he.work hs h2
    exact putE_ok hs hw.val.ok hw.next.ok hw.put.ok

/-! a closure: it has its roots, what its words open, and no more -/
theorem putW_min {P : Word → Prop} {out : List Word} {w : Word} (h : ∀ x ∈ out, P x) (hw : w.is = true → wordOk w = true → P w) : ∀ x ∈ putW out w, P x := by
  intro x hx
  unfold putW at hx
  split at hx
  · rename_i hc
    simp only [Bool.and_eq_true] at hc
    rcases List.mem_append.1 hx with q | q
    · exact h x q
    · rw [List.mem_singleton.1 q]; exact hw hc.1.1 hc.1.2
  · exact h x hx
theorem foldPut_min {P : Word → Prop} : ∀ {l out : List Word}, (∀ x ∈ out, P x) → (∀ w ∈ l, w.is = true → wordOk w = true → P w) → ∀ x ∈ l.foldl putW out, P x
  | [], out, h, _ => h
  | v :: l, out, h, hl => foldPut_min (l := l) (putW_min h (hl v (by simp))) (fun w hw => hl w (by simp [hw]))
theorem scan_min {P : Word → Prop} {ws : List Word} : ∀ {n c : Nat} {out : List Word}, (∀ x ∈ out, P x) → (∀ j, c ≤ j → j < c + n → (ws.getD j (FT.zero .word)).is = true → P (ws.getD j (FT.zero .word))) → ∀ x ∈ scan ws n c out, P x
  | 0, c, out, h, _ => h
  | n + 1, c, out, h, hj => scan_min (n := n) (c := c + 1) (putW_min h fun hi _ => hj c (by omega) (by omega) hi) (fun j h1 h2 => hj j (by omega) (by omega))
theorem closGo_min {P : Word → Prop} {ws : List Word} (hk : ∀ k : Word, P k → opens k.key = true → ∀ j : Nat, k.key.base.toNat ≤ j → j < k.key.base.toNat + (min k.key.top 24 - k.key.base).toNat → (ws.getD j (FT.zero .word)).is = true → P (ws.getD j (FT.zero .word))) :
    ∀ {n i : Nat} {out : List Word}, (∀ x ∈ out, P x) → ∀ x ∈ closGo ws n i out, P x
  | 0, _, _, h => h
  | n + 1, i, out, h => by
    unfold closGo; split
    · rename_i hi
      refine closGo_min hk (n := n) ?_
      unfold closStep; split
      · rename_i ho
        exact scan_min h (fun j h1 h2 h3 => hk _ (h _ (getD_mem hi)) ho j h1 h2 h3)
      · exact h
    · exact h
theorem closure_min {P : Word → Prop} {m : Mem} {l : List Word} (hl : ∀ w ∈ l, w.is = true → wordOk w = true → P w)
    (hk : ∀ k : Word, P k → opens k.key = true → ∀ j : Nat, k.key.base.toNat ≤ j → j < k.key.base.toNat + (min k.key.top 24 - k.key.base).toNat → (m.words.getD j (FT.zero .word)).is = true → P (m.words.getD j (FT.zero .word))) : ∀ x ∈ closure m l, P x := by
  unfold closure; split
  · exact closGo_min hk (foldPut_min (fun x hx => by cases hx) hl)
  · intro x hx; cases hx
/-! ### what is under a closed set -/
def Reach (C : List Word) (m : Mem) : Prop := ∀ c ∈ C, c.is = true → opens c.key = true → ∀ j : Nat, c.key.base ≤ j → (j : Int) < c.key.top → j < 24 → Und C (m.words.getD j (FT.zero .word))
theorem opens_iff {k : Key} : opens k = true ↔ ¬ andI k.perms 1 = 0 ∧ ¬ andI k.perms 8 = 0 := by simp [opens]
theorem opens_up {a b : Key} (h : coversK a b = true) (ho : opens b = true) : opens a = true := by
  obtain ⟨h1, h2, h3, h4, h5⟩ := coversK_iff.1 h
  obtain ⟨o1, o2⟩ := opens_iff.1 ho
  exact opens_iff.2 ⟨andI_bit h5 o1, andI_bit h5 o2⟩
theorem closure_under {C : List Word} {m : Mem} {l : List Word} (hl : ∀ w ∈ l, Und C w) (hr : Reach C m) : ∀ x ∈ closure m l, Und C x := by
  intro x hx
  have hm : memoryOk m = true := by
    unfold closure at hx; split at hx
    · assumption
    · cases hx
  obtain ⟨m1, m2, m3⟩ := memoryOk_iff.1 hm
  refine (closure_min (P := fun x => (x.is = true ∧ wordOk x = true) ∧ Und C x) (fun w hw h1 h2 => ⟨⟨h1, h2⟩, hl w hw⟩) (fun k hk ho j h1 h2 h3 => ?_) x hx).2
  obtain ⟨⟨hki, hko⟩, hku⟩ := hk
  have hn := keyOk_n (wordOk_is hko hki)
  refine ⟨⟨h3, getD_ok m3 j⟩, ?_⟩
  obtain ⟨c, c1, c2, c3⟩ := hku hki
  obtain ⟨q1, q2, q3, q4, q5⟩ := coversK_iff.1 c3
  exact hr c c1 c2 (opens_up c3 ho) j (by omega) (by omega) (by omega)
theorem hasP_iff {w : Word} {p : Int} : hasP w p = true ↔ w.is = true ∧ ¬ andI w.key.perms p = 0 := by simp [hasP]
theorem mem_filt {f : Nat → Bool} {n : Nat} {c : Int} : c ∈ filt f n ↔ ∃ j : Nat, j < n ∧ f j = true ∧ c = j := by
  simp only [filt, List.mem_map, List.mem_filter, List.mem_range]
  constructor
  · rintro ⟨j, ⟨h1, h2⟩, rfl⟩; exact ⟨j, h1, h2, rfl⟩
  · rintro ⟨j, h1, h2, rfl⟩; exact ⟨j, ⟨h1, h2⟩, rfl⟩
theorem coverP_iff {ws : List Word} {p : Int} {c : Nat} : coverP ws p c = true ↔ ∃ w ∈ ws, hasP w p = true ∧ w.key.base ≤ c ∧ (c : Int) ≤ w.key.top - 1 := by
  simp only [coverP, List.any_eq_true, Bool.and_eq_true, inR_t]
theorem cover_up {C : List Word} {w : Word} {p : Int} {c : Nat} (h : Und C w) (hp : hasP w p = true) (h1 : w.key.base ≤ c) (h2 : (c : Int) ≤ w.key.top - 1) : coverP C p c = true := by
  obtain ⟨p1, p2⟩ := hasP_iff.1 hp
  obtain ⟨d, d1, d2, d3⟩ := h p1
  obtain ⟨q1, q2, q3, q4, q5⟩ := coversK_iff.1 d3
  exact coverP_iff.2 ⟨d, d1, hasP_iff.2 ⟨d2, andI_bit q5 p2⟩, by omega, by omega⟩
theorem mem_cellsBy {m : Mem} {l : List Word} {p c : Int} : c ∈ cellsBy m l p ↔ ∃ j : Nat, j < 24 ∧ coverP (closure m l) p j = true ∧ c = j := mem_filt
structure Inv (C : List Word) (s : State) : Prop where
  ok : stateOk s = true
  regs : ∀ w ∈ s.regs, Und C w
  pc : Und C s.pc
  mem : Reach C s.mem
def hold (s : State) : List Word := s.regs ++ [s.pc]
theorem Inv.under {C : List Word} {s : State} (h : Inv C s) : ∀ x ∈ closure s.mem (hold s), Und C x := closure_under (fun w hw => by
  rcases List.mem_append.1 hw with q | q
  · exact h.regs w q
  · rw [List.mem_singleton.1 q]; exact h.pc) h.mem
theorem Inv.got {C : List Word} {l : List Inst} {s : State} (h : Inv C s) {x : Inst} {a b got : Word} (he : EffSpec l s x a b got) : Und C a ∧ Und C b ∧ Und C got := by
  obtain ⟨r1, r2, r3, r4, r5, r6⟩ := stateOk_iff.1 h.ok
  obtain ⟨m1, m2, m3⟩ := memoryOk_iff.1 r4
  have ha : Und C a := by rw [he.ha]; exact getD_und h.regs _
  have hb : Und C b := by rw [he.hb]; exact getD_und h.regs _
  refine ⟨ha, hb, ?_⟩
  rcases he.load with rfl | ⟨n, h1, h2, h3, rfl⟩
  · exact und_zero C
  · obtain ⟨t1, t2, t3, t4, t5, t6⟩ := tryW_0 h1
    obtain ⟨j, rfl⟩ := Int.eq_ofNat_of_zero_le h2
    have hj : j < 24 := by omega
    rw [Int.toNat_natCast]
    by_cases h8 : andI a.key.perms 8 = 0
    · rw [show takenW a (s.mem.words.getD j (FT.zero .word)) = plainW (s.mem.words.getD j (FT.zero .word)).n from if_pos h8]
      exact (filterW_fine (plainW_ok _)).und (und_bare C _)
    · obtain ⟨c, c1, c2, c3⟩ := ha t2
      obtain ⟨q1, q2, q3, q4, q5⟩ := coversK_iff.1 c3
      have hu := h.mem c c1 c2 (opens_up c3 (opens_iff.2 ⟨by rw [t4]; decide, h8⟩)) j (by omega) (by omega) hj
      exact (filterW_fine (takenW_fine (getD_ok m3 j)).1).und ((takenW_fine (getD_ok m3 j)).und hu)
theorem getD_set2 {α : Type} (xs : List α) (i j : Nat) (v d : α) : (xs.set i v).getD j d = if i = j ∧ j < xs.length then v else xs.getD j d := by
  simp only [List.getD_eq_getElem?_getD, List.getElem?_set]
  split
  · rename_i h; subst h
    split
    · rename_i h; simp [h]
    · rename_i h; simp [h]
  · rename_i h; simp [h]
theorem Inv.cell {C : List Word} {l : List Inst} {s : State} (h : Inv C s) {c : Nat} (hc : (stepS l s).mem.words.getD c (FT.zero .word) ≠ s.mem.words.getD c (FT.zero .word)) : c < 24 ∧ coverP C 2 c = true := by
  have hs := h.ok
  rcases stepS_cases (l := l) hs with ⟨h1, h2⟩ | ⟨h1, h2, h3⟩ | ⟨h1, h2, h3⟩
  · rw [h2] at hc; exact absurd rfl hc
  · rw [h3] at hc; exact absurd rfl hc
  · rw [h3] at hc
    obtain ⟨x, a, b, got, he⟩ := effE_parts h2
    obtain ⟨u1, u2, u3⟩ := h.got he
    unfold putE at hc; dsimp only at hc
    split at hc
    · rename_i hr
      have hr := inR_t.1 hr
      rw [getD_set2] at hc
      split at hc
      · rename_i hq
        obtain ⟨s1, s2, s3, s4⟩ := he.store hs h2 (by omega)
        obtain ⟨t1, t2, t3, t4, t5, t6⟩ := tryW_0 s1
        exact ⟨by omega, cover_up u1 (hasP_iff.2 ⟨t2, by rw [t4]; decide⟩) (by omega) (by omega)⟩
      · exact absurd rfl hc
    · exact absurd rfl hc
theorem Inv.gone {C : List Word} {l : List Inst} {s : State} (h : Inv C s) (hC : ∀ c ∈ C, hasP c 32 = false) : (stepS l s).mem.gone = s.mem.gone := by
  have hs := h.ok
  rcases stepS_cases (l := l) hs with ⟨h1, h2⟩ | ⟨h1, h2, h3⟩ | ⟨h1, h2, h3⟩
  · rw [h2]
  · rw [h3]
  · rw [h3]
    obtain ⟨x, a, b, got, he⟩ := effE_parts h2
    obtain ⟨u1, u2, u3⟩ := h.got he
    unfold putE; dsimp only
    split
    · rename_i hr
      have hr := inR_t.1 hr
      obtain ⟨d1, d2⟩ := (he.work hs h2).drop (by omega)
      obtain ⟨t1, t2, t3, t4, t5, t6⟩ := tryW_0 d1
      obtain ⟨d, e1, e2, e3⟩ := u1 t2
      obtain ⟨q1, q2, q3, q4, q5⟩ := coversK_iff.1 e3
      have := hC d e1
      rw [hasP_iff.2 ⟨e2, andI_bit q5 (by rw [t4]; decide)⟩] at this
      cases this
    · rfl

def keyWord (k : Key) (n : Int) : Word := if keyOk k then ⟨andI n 65535, true, k⟩ else plainW n
def stateNew : State := ⟨(List.replicate 8 zW).set 0 (keyWord ⟨0, 24, 59, 0⟩ 0), keyWord ⟨0, 48, 4, 0⟩ 0, memNew, 0⟩
theorem keyWord_ok (k : Key) (n : Int) : wordOk (keyWord k n) = true := by
  unfold keyWord; split
  · exact wordOk_mk (and65 n) (by assumption)
  · exact plainW_ok n

def pf_spec_KeyWord : PF := ⟨[.c 4 true 6], .seq (.reg [.s (.box 2 (.t 0)), .s (.alloc 4 [.int .i64 0, .ff, .int .i64 0, .int .i64 0, .int .i64 0, .int .i64 0])]) (.seq (.reg [.s (.mv 6 (.t 1)), .s (.call (some 7) 164 [(.t 6)]), .s (.alloc 5 [.int .i64 0, .ff, .int .i64 0, .int .i64 0, .int .i64 0, .int .i64 0]), .s (.store 6 (.t 5) (.t 7))]) (.seq (.seq (.reg [.s (.load 8 true 4 (.t 2)), .s (.call (some 9) 160 [(.t 8)])]) (.cond (.t 9) (.seq (.reg [.s (.fa 10 (.t 5) 1), .s (.store 1 (.t 10) (.k (.v (.c .tt))))]) (.reg [.s (.load 11 true 4 (.t 2)), .s (.fa 12 (.t 5) 2), .s (.store 4 (.t 12) (.t 11))])) (.skip))) (.seq (.reg [.s (.load 13 true 6 (.t 5)), .s (.store 6 (.t 4) (.t 13))]) (.ret))))⟩
def c_spec_KeyWord : Fun := ⟨150, [], fun ts K => as2 ts fun t0 t1 => arG pKeyT t0 fun k => arC (pI .i64) t1 fun n => K (tG ((keyWord k n).tc [])) []⟩
theorem run_spec_KeyWord (k : Key) (n : Int) : runK [c_spec_KeyOk, c_spec_Plain] (0) [] pf_spec_KeyWord [tG (k.tc []), tI .i64 n] fun r o => r = tG ((keyWord k n).tc []) ∧ o = [] := by
  conv => whnf
  repeat' (first | (refine sel_i (fun h => ?_) (fun h => ?_) <;> conv => whnf) | (refine chk_c ?_ ?_ <;> conv => whnf) | (refine And.intro ?_ rfl) | (refine And.intro ?_ ?_ <;> conv => whnf))
  all_goals (try simp only [etaKey, etaWord] at *)
  all_goals first
    | (unfold keyWord; rw [if_pos h]; rfl)
    | (unfold keyWord; rw [if_neg (by rw [h]; decide)]; rfl)
    | trace_state
theorem ok_spec_KeyWord : FunOk Try.prog c_spec_KeyWord := funOk (E := [c_spec_KeyOk, c_spec_Plain]) (envOk_cons ok_spec_KeyOk (envOk_cons ok_spec_Plain (envOk_nil))) mixd Try.func150 (pf := pf_spec_KeyWord) (by kernel_rfl) fun ts K h => by
  obtain ⟨t0, t1, e0, h⟩ := as2_out h
  subst e0
  obtain ⟨k, e1, hq⟩ := arG_out rd_key h
  clear h
  subst e1
  have h := hq
  clear hq
  obtain ⟨n, e1, hq⟩ := arC_out (rd_int .i64) h
  clear h
  subst e1
  have h := hq
  clear hq
  exact ⟨_, _, h, Nat.le_of_ble_eq_true (show Nat.ble 2 Try.f150.ntmps = true by kernel_rfl), _, run_spec_KeyWord k n⟩

def pf_spec_StateNew : PF := ⟨[.c 0 true 10], .seq (.reg [.s (.alloc 0 [.nils .word, .int .i64 0, .ff, .int .i64 0, .int .i64 0, .int .i64 0, .int .i64 0, .nils .word, .nils .bool, .int .i64 0])]) (.seq (.rgd [] [.s (.mkS 2 .word (.k (.v (.c (.int .i64 8))))), .s (.call (some 3) 111 []), .s (.build 4 [.nils .word, .int .i64 0, .ff, .int .i64 0, .int .i64 0, .int .i64 0, .int .i64 0, .nils .word, .nils .bool, .int .i64 0] [(0, 1, (.t 2)), (7, 2, (.t 3))]), .s (.alloc 1 [.nils .word, .int .i64 0, .ff, .int .i64 0, .int .i64 0, .int .i64 0, .int .i64 0, .nils .word, .nils .bool, .int .i64 0]), .s (.store 10 (.t 1) (.t 4))] (.alt 0 false (.alt 1 false (.tk 2 (.one 3 true (.one 4 true (.done (some [0, 1]))))) (.alt 3 false (.one 1 true (.tk 2 (.one 4 true (.done (some [0, 1]))))) (.nil))) (.alt 1 false (.alt 0 false (.tk 2 (.one 3 true (.one 4 true (.done (some [0, 1]))))) (.alt 3 false (.one 0 true (.tk 2 (.one 4 true (.done (some [0, 1]))))) (.nil))) (.alt 3 false (.alt 0 false (.one 1 true (.tk 2 (.one 4 true (.done (some [0, 1]))))) (.alt 1 false (.one 0 true (.tk 2 (.one 4 true (.done (some [0, 1]))))) (.nil))) (.nil))))) (.seq (.rgd [] [.s (.fa 5 (.t 1) 0), .s (.load 6 false 1 (.t 5)), .s (.build 7 [.int .i64 0, .int .i64 0, .int .i64 0, .int .i64 0] [(1, 1, (.k (.v (.c (.int .i64 24))))), (2, 1, (.k (.v (.c (.int .i64 59)))))]), .s (.call (some 8) 150 [(.t 7), (.k (.v (.c (.int .i64 0))))]), .s (.ia 9 .word (.t 6) (.k (.v (.c (.int .i64 0))))), .s (.store 6 (.t 9) (.t 8))] (.tk 0 (.tk 1 (.tk 2 (.one 3 false (.tk 4 (.one 5 true (.done none)))))))) (.seq (.reg [.s (.build 10 [.int .i64 0, .int .i64 0, .int .i64 0, .int .i64 0] [(1, 1, (.k (.v (.c (.int .i64 48))))), (2, 1, (.k (.v (.c (.int .i64 4)))))]), .s (.call (some 11) 150 [(.t 10), (.k (.v (.c (.int .i64 0))))]), .s (.fa 12 (.t 1) 1), .s (.store 6 (.t 12) (.t 11))]) (.seq (.reg [.s (.load 13 true 10 (.t 1)), .s (.store 10 (.t 0) (.t 13))]) (.ret)))))⟩
def c_spec_StateNew : Fun := ⟨168, [], fun ts K => as0 ts (K (tG (stateNew.tc true [])) [])⟩
theorem run_spec_StateNew  : runK [c_spec_MemoryNew, c_spec_KeyWord] (0) [] pf_spec_StateNew [] fun r o => r = tG (stateNew.tc true []) ∧ o = [] := by
  conv => whnf
  repeat' (first | (refine sel_i (fun h => ?_) (fun h => ?_) <;> conv => whnf) | (refine chk_c ?_ ?_ <;> conv => whnf) | (refine And.intro ?_ rfl) | (refine And.intro ?_ ?_ <;> conv => whnf))
  all_goals first
    | (refine ⟨?_⟩; decide)
    | exact True.intro
    | rfl
    | trace_state
theorem ok_spec_StateNew : FunOk Try.prog c_spec_StateNew := funOk (E := [c_spec_MemoryNew, c_spec_KeyWord]) (envOk_cons ok_spec_MemoryNew (envOk_cons ok_spec_KeyWord (envOk_nil))) mixd Try.func168 (pf := pf_spec_StateNew) (by kernel_rfl) fun ts K h => by
  obtain ⟨e0, h⟩ := as0_out h
  subst e0
  exact ⟨_, _, h, Nat.le_of_ble_eq_true (show Nat.ble 0 Try.f168.ntmps = true by kernel_rfl), _, run_spec_StateNew ⟩


/-! what is kept is read as it was -/
theorem getD_mid {p a r : List Int} {k : Nat} (h : k < a.length) : (p ++ a ++ r).getD (p.length + k) 0 = a.getD k 0 := by
  rw [List.getD_eq_getElem?_getD, List.append_assoc, List.getElem?_append_right (by omega), Nat.add_sub_cancel_left, List.getElem?_append_left h, ← List.getD_eq_getElem?_getD]
theorem wordOk_bare {w : Word} (h : wordOk w = true) (h2 : w.is = false) : w = ⟨w.n, false, ⟨0, 0, 0, 0⟩⟩ := by
  simp only [wordOk, h2, Bool.and_eq_true, Bool.false_eq_true, if_false, decide_eq_true_eq] at h
  obtain ⟨n, is, k⟩ := w
  dsimp only at h h2
  rw [h2, h.2]
theorem wordBytes_0 {w : Word} (h : wordOk w = true) (h2 : w.is = false) : wordBytes w = [w.n / 256, w.n % 256, 0] := by
  unfold wordBytes; rw [if_pos h, if_neg (by rw [h2]; decide)]
theorem wordBytes_1 {w : Word} (h : wordOk w = true) (h2 : w.is = true) : wordBytes w = [w.n / 256, w.n % 256, 1, w.key.base / 256, w.key.base % 256, w.key.top / 256, w.key.top % 256, w.key.perms, w.key.sealed] := by
  unfold wordBytes; rw [if_pos h, if_pos h2]
theorem wordOf_at {p r : List Int} {w : Word} (h : wordOk w = true) : wordOf (p ++ wordBytes w ++ r) (p.length : Int) = some (w, (p.length : Int) + (wordBytes w).length) := by
  have hn := wordOk_n h
  cases h2 : w.is with
  | false =>
    have e := wordBytes_0 h h2
    have hl : (p ++ wordBytes w ++ r).length = p.length + 3 + r.length := by rw [e]; simp; omega
    have g := fun k (hk : k < 3) => getD_mid (p := p) (a := wordBytes w) (r := r) (k := k) (by rw [e]; exact hk)
    have g0 := g 0 (by decide); have g1 := g 1 (by decide); have g2 := g 2 (by decide)
    rw [wordOf_plain (by rw [inR_t]; omega) (by rw [Int.toNat_natCast, g2, e]; rfl), Int.toNat_natCast]
    rw [Nat.add_zero] at g0
    rw [g0, g1, e]
    conv => rhs; rw [wordOk_bare h h2]
    refine congrArg some (Prod.ext ?_ rfl)
    show (⟨w.n / 256 * 256 + w.n % 256, false, ⟨0, 0, 0, 0⟩⟩ : Word) = ⟨w.n, false, ⟨0, 0, 0, 0⟩⟩
    rw [show w.n / 256 * 256 + w.n % 256 = w.n by omega]
  | true =>
    have e := wordBytes_1 h h2
    have hk := wordOk_key h h2
    have hl : (p ++ wordBytes w ++ r).length = p.length + 9 + r.length := by rw [e]; simp; omega
    have g := fun k (hk : k < 9) => getD_mid (p := p) (a := wordBytes w) (r := r) (k := k) (by rw [e]; exact hk)
    have g0 := g 0 (by decide); have g1 := g 1 (by decide); have g2 := g 2 (by decide); have g3 := g 3 (by decide); have g4 := g 4 (by decide)
    have g5 := g 5 (by decide); have g6 := g 6 (by decide); have g7 := g 7 (by decide); have g8 := g 8 (by decide)
    rw [Nat.add_zero] at g0
    have hw : wordAt (p ++ wordBytes w ++ r) p.length = w := by
      unfold wordAt
      rw [g0, g1, g3, g4, g5, g6, g7, g8, e]
      show (⟨w.n / 256 * 256 + w.n % 256, true, ⟨w.key.base / 256 * 256 + w.key.base % 256, w.key.top / 256 * 256 + w.key.top % 256, w.key.perms, w.key.sealed⟩⟩ : Word) = w
      rw [show w.n / 256 * 256 + w.n % 256 = w.n by omega, show w.key.base / 256 * 256 + w.key.base % 256 = w.key.base by omega, show w.key.top / 256 * 256 + w.key.top % 256 = w.key.top by omega, ← h2]
    rw [wordOf_key (by rw [inR_t]; omega) (by rw [Int.toNat_natCast, g2, e]; rfl) (by omega) (by rw [Int.toNat_natCast, hw]; exact h), Int.toNat_natCast, hw, e]
    rfl
theorem stateOfGo_at : ∀ {ws p r acc : List _}, (∀ w ∈ ws, wordOk w = true) → stateOfGo (p ++ wordsBytes ws ++ r) ws.length acc (p.length : Int) = some (acc ++ ws, ((p.length + (wordsBytes ws).length : Nat) : Int))
  | [], p, r, acc, _ => by simp [stateOfGo, wordsBytes]
  | w :: ws, p, r, acc, h => by
    have hw := h w (by simp)
    have e : wordsBytes (w :: ws) = wordBytes w ++ wordsBytes ws := rfl
    have e2 : p ++ wordsBytes (w :: ws) ++ r = p ++ wordBytes w ++ (wordsBytes ws ++ r) := by rw [e]; simp
    rw [e2]
    show (match wordOf (p ++ wordBytes w ++ (wordsBytes ws ++ r)) (p.length : Int) with | some (v, k) => stateOfGo (p ++ wordBytes w ++ (wordsBytes ws ++ r)) ws.length (acc ++ [v]) k | none => none) = _
    rw [wordOf_at hw]
    have ih := stateOfGo_at (ws := ws) (p := p ++ wordBytes w) (r := r) (acc := acc ++ [w]) (fun v hv => h v (by simp [hv]))
    rw [List.length_append] at ih
    have e3 : (p.length : Int) + ((wordBytes w).length : Int) = ((p.length + (wordBytes w).length : Nat) : Int) := by omega
    simp only
    rw [e3, ← List.append_assoc, ih, e, List.length_append, List.append_assoc, Nat.add_assoc]
    rfl
def stateWords (s : State) : List Word := s.regs ++ [s.pc] ++ s.mem.words
theorem stateWords_ok {s : State} (h : stateOk s = true) : ∀ w ∈ stateWords s, wordOk w = true := fun w hw => by
  obtain ⟨r1, r2, r3, r4, r5, r6⟩ := stateOk_iff.1 h
  simp only [stateWords, List.mem_append, List.mem_singleton] at hw
  rcases hw with (hw | hw) | hw
  · exact r2 w hw
  · rw [hw]; exact r3
  · exact (memoryOk_iff.1 r4).2.2 w hw
theorem stateBytes_eq {s : State} (h : stateOk s = true) : stateBytes s = wordsBytes (stateWords s) ++ (goneBytes s.mem.gone ++ [s.trap]) := by
  rw [stateBytes_ok h, stateWords, wordsBytes_app, wordsBytes_app, wordsBytes_one]; simp
theorem stateWords_len {s : State} (h : stateOk s = true) : (stateWords s).length = 33 := by
  obtain ⟨e1, e2, e3⟩ := stateOk_len h
  simp [stateWords]; omega
theorem goneByte_1 (g : List Bool) : (goneBytes g).map (fun v => v == 1) = g := by
  rw [goneBytes, List.map_map]
  conv => rhs; rw [← List.map_id g]
  refine List.map_congr_left fun b _ => ?_
  cases b <;> rfl
theorem stateOf_bytes {s : State} (h : stateOk s = true) : stateOf (stateBytes s) = some s := by
  obtain ⟨e1, e2, e3⟩ := stateOk_len h
  have hw := stateOfGo_at (ws := stateWords s) (p := []) (r := goneBytes s.mem.gone ++ [s.trap]) (acc := []) (stateWords_ok h)
  rw [List.nil_append, ← stateBytes_eq h, stateWords_len h, List.nil_append, List.length_nil, Nat.zero_add] at hw
  have hl : (stateBytes s).length = (wordsBytes (stateWords s)).length + 25 := by rw [stateBytes_eq h]; simp [goneBytes_len]; omega
  have ha : stateAt (stateBytes s) (stateWords s) (wordsBytes (stateWords s)).length = s := by
    have h1 : (stateWords s).take 8 = s.regs := by rw [stateWords, List.append_assoc, List.take_append_of_le_length (by omega), List.take_of_length_le (by omega)]
    have h2 : (stateWords s).getD 8 (FT.zero .word) = s.pc := by
      rw [stateWords, List.getD_eq_getElem?_getD, List.append_assoc, List.getElem?_append_right (by omega), e1]; rfl
    have h3 : (stateWords s).drop 9 = s.mem.words := by
      rw [stateWords, List.drop_append_of_le_length (by simp; omega), List.drop_eq_nil_of_le (by simp; omega), List.nil_append]
    have h4 : win (stateBytes s) (wordsBytes (stateWords s)).length 24 = goneBytes s.mem.gone := by
      unfold win
      rw [stateBytes_eq h, List.drop_append_of_le_length (Nat.le_refl _), List.drop_eq_nil_of_le (Nat.le_refl _), List.nil_append, List.take_append_of_le_length (by rw [goneBytes_len]; omega), List.take_of_length_le (by rw [goneBytes_len]; omega)]
    have h5 : (stateBytes s).getD ((wordsBytes (stateWords s)).length + 24) 0 = s.trap := by
      rw [stateBytes_eq h, List.getD_eq_getElem?_getD, List.getElem?_append_right (by omega), Nat.add_sub_cancel_left, List.getElem?_append_right (by rw [goneBytes_len]; omega), goneBytes_len, e3]; rfl
    unfold stateAt
    rw [h1, h2, h3, h4, h5, goneByte_1]
  rw [stateOf_ok hw (by omega) (by rw [ha]), ha]
theorem stateOf_cut {s : State} (h : stateOk s = true) : stateOf ((stateBytes s).take ((stateBytes s).length - 1)) = none := by
  obtain ⟨e1, e2, e3⟩ := stateOk_len h
  have he : (stateBytes s).take ((stateBytes s).length - 1) = wordsBytes (stateWords s) ++ goneBytes s.mem.gone := by
    have e : stateBytes s = (wordsBytes (stateWords s) ++ goneBytes s.mem.gone) ++ [s.trap] := by rw [stateBytes_eq h]; simp
    rw [e, List.length_append, List.length_singleton, Nat.add_sub_cancel, List.take_append_of_le_length (Nat.le_refl _), List.take_of_length_le (Nat.le_refl _)]
  have hw := stateOfGo_at (ws := stateWords s) (p := []) (r := goneBytes s.mem.gone) (acc := []) (stateWords_ok h)
  rw [List.nil_append, stateWords_len h, List.nil_append, List.length_nil, Nat.zero_add] at hw
  rw [he]
  refine stateOf_len hw ?_
  rw [List.length_append, goneBytes_len]; omega
theorem wordOf_cut {w : Word} : wordOf ((wordBytes w).take ((wordBytes w).length - 1)) 0 = none := by
  by_cases h : wordOk w = true
  · cases h2 : w.is with
    | false => rw [wordBytes_0 h h2]; exact wordOf_out (show inR 0 0 (((2 : Nat) : Int) - 3) = false by decide)
    | true => rw [wordBytes_1 h h2]; exact wordOf_no (show (1 : Int) ≠ 0 by decide) (fun q => by have := q.2.1; simp at this)
  · have : wordBytes w = [] := by unfold wordBytes; rw [if_neg h]
    rw [this]; exact wordOf_out (by decide)
theorem wordOf_bytes {b : List Int} (hb : U8s b) {a e : Int} {w : Word} (h : wordOf b a = some (w, e)) : wordBytes w = win b a.toNat (e - a).toNat := by
  have h0 := wordOf_some h
  obtain ⟨n, rfl⟩ := Int.eq_ofNat_of_zero_le h0.1
  unfold wordOf at h
  split at h
  · rename_i h1
    have h1 := inR_t.1 h1
    rw [Int.toNat_natCast] at h
    split at h
    · rename_i h2
      simp only [Option.some.injEq, Prod.mk.injEq] at h
      obtain ⟨rfl, rfl⟩ := h
      rw [wordBytes_plain hb, Int.toNat_natCast, show ((n : Int) + 3 - n).toNat = 3 by omega, win3 (by omega), h2]
    · split at h
      · rename_i h3
        simp only [Option.some.injEq, Prod.mk.injEq] at h
        obtain ⟨rfl, rfl⟩ := h
        rw [wordBytes_at hb h3.2.2, Int.toNat_natCast, show ((n : Int) + 9 - n).toNat = 9 by omega, win9 (by omega), h3.1]
      · cases h
  · cases h
theorem wordBytes_back {w : Word} (h : wordOk w = true) : wordOf (wordBytes w) 0 = some (w, ((wordBytes w).length : Int)) := by
  have := wordOf_at (p := []) (r := []) h
  simpa using this
/-! ### a run is a part of it, and then the rest -/

/-! two that are apart -/
theorem twoOk_iff {t : Two} : twoOk t = true ↔ stateOk (sideState t 0) = true ∧ stateOk (sideState t 1) = true := by simp [twoOk]
theorem meetI_f {a b : List Int} : meetI a b = false ↔ ∀ c ∈ a, c ∉ b := by
  simp only [meetI, List.any_eq_false]
  constructor
  · intro h c hc hb
    exact h c hc (List.any_eq_true.2 ⟨c, hb, beq_iff_eq.2 rfl⟩)
  · intro h c hc hb
    obtain ⟨x, hx, e⟩ := List.any_eq_true.1 hb
    rw [beq_iff_eq.1 e] at hc
    exact h x hc hx
def Ap (C D : List Word) : Prop := ∀ j : Nat, j < 24 → coverP C 2 j = true → coverP D 1 j = false ∧ coverP D 2 j = false
def NoSeal (C : List Word) : Prop := ∀ c ∈ C, hasP c 32 = false
structure Both (A B : List Word) (t : Two) : Prop where
  a : Inv A (sideState t 0)
  b : Inv B (sideState t 1)
  ab : Ap A B
  ba : Ap B A
  na : NoSeal A
  nb : NoSeal B
theorem Both.ok {A B : List Word} {t : Two} (h : Both A B t) : twoOk t = true := twoOk_iff.2 ⟨h.a.ok, h.b.ok⟩
theorem Both.apart {A B : List Word} {t : Two} (h : Both A B t) (ha : ∀ x ∈ closure t.mem (heldW t.a), Und A x) (hb : ∀ x ∈ closure t.mem (heldW t.b), Und B x) : apartB t = true := by
  have hs : ∀ {C : List Word} {l : List Word}, (∀ x ∈ closure t.mem l, Und C x) → NoSeal C → canSeal t.mem l = false := fun {C l} hu hn => by
    cases e : canSeal t.mem l with
    | false => rfl
    | true =>
      simp only [canSeal, List.any_eq_true] at e
      obtain ⟨w, h1, h2⟩ := e
      obtain ⟨p1, p2⟩ := hasP_iff.1 h2
      obtain ⟨d, d1, d2, d3⟩ := hu w h1 p1
      obtain ⟨q1, q2, q3, q4, q5⟩ := coversK_iff.1 d3
      have := hn d d1
      rw [hasP_iff.2 ⟨d2, andI_bit q5 p2⟩] at this
      cases this
  have hcov : ∀ {C : List Word} {l : List Word} {p : Int} {j : Nat}, (∀ x ∈ closure t.mem l, Und C x) → coverP (closure t.mem l) p j = true → coverP C p j = true := fun {C l p j} hu hc => by
    obtain ⟨w, w1, w2, w3, w4⟩ := coverP_iff.1 hc
    exact cover_up (hu w w1) w2 w3 w4
  have hx : ∀ {C D : List Word} {l k : List Word}, (∀ x ∈ closure t.mem l, Und C x) → (∀ x ∈ closure t.mem k, Und D x) → Ap C D → crossesB t.mem l k = false := fun {C D l k} hu hv hap => by
    refine meetI_f.2 fun c hc hc2 => ?_
    obtain ⟨j, h1, h2, rfl⟩ := mem_cellsBy.1 hc
    have := hap j h1 (hcov hu h2)
    rcases List.mem_append.1 hc2 with q | q
    · obtain ⟨i, i1, i2, i3⟩ := mem_cellsBy.1 q
      have : i = j := by omega
      subst this
      have := hcov hv i2
      simp_all
    · obtain ⟨i, i1, i2, i3⟩ := mem_cellsBy.1 q
      have : i = j := by omega
      subst this
      have := hcov hv i2
      simp_all
  simp only [apartB, Bool.and_eq_true, Bool.not_eq_true']
  exact ⟨⟨⟨h.ok, hs ha h.na⟩, hs hb h.nb⟩, hx ha hb h.ab, hx hb ha h.ba⟩
end Go.Pi
