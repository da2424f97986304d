/- Contracts of functions, each out of its run by PI. No conditions. -/
import Derived.Test.YthpjpaginggjaaaC3
namespace Go.Pi
open Go.Proofs
set_option linter.unusedVariables false
set_option linter.unusedSimpArgs false
set_option maxRecDepth 100000
attribute [local irreducible] iterN
def inOneS (l : List Span) (k : Key) : Bool := decide (k.base ≥ k.top) || l.any (fun s => decide (k.base ≥ s.at_) && decide (k.top ≤ IntKind.i64.wrap (s.at_ + s.len)))
theorem inOne_yes {l : List Span} {w : Word} (h : InSpan l w) (hw : w.is = true) (hl : ∀ s ∈ l, spanOk s = true) : inOneS l w.key = true := by
  unfold inOneS
  by_cases hb : w.key.base ≥ w.key.top
  · rw [decide_eq_true hb]; rfl
  · obtain ⟨s, hs, h1, h2⟩ := h hw (by omega)
    have ho := hl s hs
    simp only [spanOk, Bool.and_eq_true, inR_t] at ho
    rw [Bool.or_eq_true, List.any_eq_true]
    exact .inr ⟨s, hs, by rw [wrap_id (by omega) (by omega), decide_eq_true (show w.key.base ≥ s.at_ by omega), decide_eq_true (show w.key.top ≤ s.at_ + s.len by omega)]; rfl⟩

def lb_laws_inOne_0 : PC := .seq (.seq (.reg [.s (.mv 11 (.t 5)), .s (.mv 12 (.t 0)), .s (.len 13 false (.t 12)), .s (.bin 14 .lss (.t 11) (.t 13))]) (.cond (.t 14) (.skip) (.exit 0))) (.seq (.blk 1 (.seq (.rgd [] [.s (.fa 17 (.t 3) 0), .s (.load 18 false 1 (.t 17)), .s (.mv 19 (.t 0)), .s (.mv 20 (.t 5)), .s (.ia 21 .span (.t 19) (.t 20)), .s (.fa 22 (.t 21) 0), .s (.load 23 false 1 (.t 22)), .s (.bin 24 .geq (.t 18) (.t 23)), .s (.mv 25 (.t 24)), .g 25 true (some 26) (.fa 26 (.t 3) 1), .g 25 true (some 27) (.load 27 false 1 (.t 26)), .g 25 true (some 28) (.mv 28 (.t 0)), .g 25 true (some 29) (.mv 29 (.t 5)), .g 25 true (some 30) (.ia 30 .span (.t 28) (.t 29)), .g 25 true (some 31) (.fa 31 (.t 30) 0), .g 25 true (some 32) (.load 32 false 1 (.t 31)), .g 25 true (some 33) (.mv 33 (.t 0)), .g 25 true (some 34) (.mv 34 (.t 5)), .g 25 true (some 35) (.ia 35 .span (.t 33) (.t 34)), .g 25 true (some 36) (.fa 36 (.t 35) 1), .g 25 true (some 37) (.load 37 false 1 (.t 36)), .g 25 true (some 38) (.bin 38 .add (.t 32) (.t 37)), .g 25 true (some 39) (.bin 39 .leq (.t 27) (.t 38)), .s (.pick 40 (.t 25) (.t 39) (.k (.v (.c .ff))))] (.tk 0 (.tk 1 (.tk 2 (.tk 3 (.tk 4 (.tk 5 (.tk 6 (.tk 7 (.tk 8 (.tk 9 (.tk 10 (.tk 11 (.tk 12 (.tk 13 (.tk 14 (.tk 15 (.tk 16 (.tk 17 (.tk 18 (.tk 19 (.tk 20 (.tk 21 (.tk 22 (.tk 23 (.done none)))))))))))))))))))))))))) (.cond (.t 40) (.seq (.reg [.s (.mv 4 (.k (.v (.c .tt))))]) (.ret)) (.skip)))) (.reg [.s (.mv 15 (.t 5)), .s (.bin 16 .add (.t 15) (.k (.v (.c (.int .i64 1))))), .s (.mv 5 (.t 16))]))
def pf_laws_inOne : PF := ⟨[.t 4], .seq (.reg [.s (.box 3 (.t 1)), .s (.mv 4 (.k (.v (.c .ff))))]) (.seq (.seq (.reg [.s (.fa 6 (.t 3) 0), .s (.load 7 false 1 (.t 6)), .s (.fa 8 (.t 3) 1), .s (.load 9 false 1 (.t 8)), .s (.bin 10 .geq (.t 7) (.t 9))]) (.cond (.t 10) (.seq (.reg [.s (.mv 4 (.k (.v (.c .tt))))]) (.ret)) (.skip))) (.seq (.seq (.reg [.s (.mv 5 (.k (.v (.c (.int .i64 0)))))]) (.blk 0 (.loop [0, 3, 5] lb_laws_inOne_0))) (.seq (.reg [.s (.mv 4 (.k (.v (.c .ff))))]) (.ret))))⟩
def c_laws_inOne : Fun := ⟨75, [], fun ts K => as2 ts fun t0 t1 => arC (pL .span) t0 fun l => arG pKeyT t1 fun k => chk (l.length ≤ 2147483647) (K (tB (inOneS l k)) [])⟩
theorem run_laws_inOne (l : List (FT.Ty .span)) (k : Key) (hpre : l.length ≤ 2147483647) : runK [] (l.length + 1) [] pf_laws_inOne [tL false .span l, tG (k.tc [])] fun r o => r = tB (inOneS l k) ∧ o = [] := by
  conv => whnf
  refine sel_i (fun h => ?_) (fun h => ?_)
  · conv => whnf
    refine ⟨?_, rfl⟩
    unfold inOneS
    have h0 : decide (k.base ≥ k.top) = true := h
    rw [h0]; rfl
  have hb : inOneS l k = l.any (fun s => decide (k.base ≥ s.at_) && decide (k.top ≤ IntKind.i64.wrap (s.at_ + s.len))) := by
    unfold inOneS
    have h0 : decide (k.base ≥ k.top) = false := h
    rw [h0]; rfl
  rw [hb]
  clear h
  conv => whnf
  refine loop (α := Nat) (fun i => ⟨[(0, .v (.c (.sl false .span 0))), (3, .v (.c (.ptr 1 0))), (5, .v (.c (.int .i64 (i : Int))))],
        [(1, some (.box true [.int .i64 k.base, .int .i64 k.top, .int .i64 k.perms, .int .i64 k.sealed])), (0, some (.flat false .span none l))], nums.tail.tail, [], false, []⟩)
      (fun i => i ≤ l.length ∧ (l.drop i).any (fun s => decide (k.base ≥ s.at_) && decide (k.top ≤ IntKind.i64.wrap (s.at_ + s.len))) = l.any (fun s => decide (k.base ≥ s.at_) && decide (k.top ≤ IntKind.i64.wrap (s.at_ + s.len)))) (fun i => l.length - i) (fun i R hI hR => ?_) 0 _ ⟨by simp, by simp⟩ (by show l.length - 0 < l.length + 1; omega)
  obtain ⟨hi, hx⟩ := hI
  have hy := fun (h1 : i < l.length) (h2 : (decide (k.base ≥ (l.getD i (FT.zero .span)).at_) && decide (k.top ≤ IntKind.i64.wrap ((l.getD i (FT.zero .span)).at_ + (l.getD i (FT.zero .span)).len))) = true) => any_yes (z := FT.zero .span) h1 h2 hx
  have hn := fun (h1 : i < l.length) (h2 : (decide (k.base ≥ (l.getD i (FT.zero .span)).at_) && decide (k.top ≤ IntKind.i64.wrap ((l.getD i (FT.zero .span)).at_ + (l.getD i (FT.zero .span)).len))) = false) => any_no (z := FT.zero .span) h1 h2 hx
  have he := fun (h1 : l.length ≤ i) => any_end h1 hx
  generalize l.any (fun s => decide (k.base ≥ s.at_) && decide (k.top ≤ IntKind.i64.wrap (s.at_ + s.len))) = A at *
  conv => whnf
  repeat' (first | (refine sel_i (fun h => ?_) (fun h => ?_) <;> conv => whnf) | (refine chk_c ?_ ?_ <;> conv => whnf) | (refine And.intro ?_ rfl) | (refine And.intro ?_ ?_ <;> conv => whnf))
  all_goals (try simp only [Int.toNat_natCast] at *)
  all_goals first
    | (refine ⟨?_⟩; first | (have h := of_decide_eq_true h; omega) | (have h := of_decide_eq_true (by assumption : decide ((i : Int) < (l.length : Int)) = true); omega))
    | (have hlt : i < l.length := by have h := of_decide_eq_true (by assumption : decide ((i : Int) < (l.length : Int)) = true); omega
       first
         | (rw [hy hlt (by simp only [*, Bool.and_self, Bool.true_and])]; done)
         | (rw [wrap_id (n := (i : Int) + 1) (by omega) (by omega)]
            exact hR (i + 1) ⟨hlt, hn hlt (by simp only [*, Bool.and_false, Bool.false_and])⟩ (by omega)))
    | (rw [he (by have h := of_decide_eq_false h; omega)]; done)
    | trace_state
theorem ok_laws_inOne : FunOk Try.prog c_laws_inOne := funOk (E := []) (envOk_nil) mixd Try.func75 (pf := pf_laws_inOne) (by kernel_rfl) fun ts K h => by
  obtain ⟨t0, t1, e0, h⟩ := as2_out h
  subst e0
  obtain ⟨l, e1, hq⟩ := arC_out (rd_l .span) h
  clear h
  subst e1
  have h := hq
  clear hq
  obtain ⟨k, e1, hq⟩ := arG_out rd_key h
  clear h
  subst e1
  have h := hq
  clear hq
  obtain ⟨hpre, h⟩ := chk_o h
  exact ⟨_, _, h, Nat.le_of_ble_eq_true (show Nat.ble 2 Try.f75.ntmps = true by kernel_rfl), _, run_laws_inOne l k hpre⟩
end Go.Pi
