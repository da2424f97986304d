/- Contracts of functions, each out of its run by PI. No conditions. -/
import Derived.Test.YthpjpaginggjaaaC4
namespace Go.Pi
open Go.Proofs
set_option linter.unusedVariables false
set_option linter.unusedSimpArgs false
set_option maxRecDepth 100000
attribute [local irreducible] iterN
def pf_spec_DrawWordBytes : PF := ⟨[.c 2 true 6], .seq (.reg [.s (.alloc 2 [.int .i64 0, .ff, .int .i64 0, .int .i64 0, .int .i64 0, .int .i64 0])]) (.seq (.reg [.s (.mv 3 (.t 0)), .s (.call (some 4) 81 [(.t 3)]), .s (.call (some 5) 84 [(.t 4)]), .s (.store 6 (.t 2) (.t 5))]) (.ret))⟩
def c_spec_DrawWordBytes : Fun := ⟨30, [], fun ts K => as1 ts fun t0 => arC (pL (.int .u8)) t0 fun code => chk (code.length ≤ 1048576) (∀ (w : Word), (True) → K (tG (w.tc [])) [])⟩
theorem run_spec_DrawWordBytes (code : List (FT.Ty (.int .u8))) (hpre : code.length ≤ 1048576) {K : Tree → List Tree → Prop} (hK : ∀ (w : Word), (True) → K (tG (w.tc [])) []) : runK [c_spec_l1New, c_spec_l3Draw] (0) [] pf_spec_DrawWordBytes [tL false (.int .u8) code] K := by
  conv => whnf
  repeat' (first | (refine sel_i (fun h => ?_) (fun h => ?_) <;> conv => whnf) | (refine chk_c ?_ ?_ <;> conv => whnf) | (refine And.intro ?_ rfl) | (refine And.intro ?_ ?_ <;> conv => whnf) | (intro x y z d hd; (try have g1 := And.left hd); (try have g2 := And.right hd); (try have g3 := And.left (And.right hd)); (try have g4 := And.right (And.right hd)); conv => whnf) | (intro x y d hd; (try have g1 := And.left hd); (try have g2 := And.right hd); (try have g3 := And.left (And.right hd)); (try have g4 := And.right (And.right hd)); conv => whnf) | (intro x d hd; (try have g1 := And.left hd); (try have g2 := And.right hd); (try have g3 := And.left (And.right hd)); (try have g4 := And.right (And.right hd)); conv => whnf) | (intro d hd; (try have g1 := And.left hd); (try have g2 := And.right hd); (try have g3 := And.left (And.right hd)); (try have g4 := And.right (And.right hd)); conv => whnf))
  all_goals first
    | (refine ⟨?_⟩; exact hd)
    | (refine ⟨?_⟩; exact hpre)
    | exact hK x trivial
    | trace_state
theorem ok_spec_DrawWordBytes : FunOk Try.prog c_spec_DrawWordBytes := funOkR (E := [c_spec_l1New, c_spec_l3Draw]) (envOk_cons ok_spec_l1New (envOk_cons ok_spec_l3Draw (envOk_nil))) mixd Try.func30 (pf := pf_spec_DrawWordBytes) (by kernel_rfl) fun ts K h => by
  obtain ⟨t0, e0, h⟩ := as1_out h
  subst e0
  obtain ⟨code, e1, hq⟩ := arC_out (rd_l (.int .u8)) h
  clear h
  subst e1
  have h := hq
  clear hq
  obtain ⟨hpre, h⟩ := chk_o h
  exact ⟨Nat.le_of_ble_eq_true (show Nat.ble 1 Try.f30.ntmps = true by kernel_rfl), _, run_spec_DrawWordBytes code hpre h⟩

def pf_spec_DrawWordOf : PF := ⟨[.t 2, .t 3], .seq (.reg [.s (.mv 2 (.k (.v (.c (.nils (.int .u8)))))), .s (.mv 3 (.k (.v (.c (.int .i64 0)))))]) (.seq (.reg [.s (.mv 6 (.t 0)), .s (.call (some 7) 81 [(.t 6)]), .s (.mv 4 (.t 7))]) (.seq (.reg [.s (.mv 8 (.t 4)), .s (.call (some 9) 104 [(.t 8)]), .s (.call (some 10) 40 [(.t 9)]), .s (.mv 11 (.t 4)), .s (.call (some 12) 104 [(.t 11)]), .s (.call (some 13) 40 [(.t 12)]), .s (.app 14 (.int .u8) (.t 10) (.t 13)), .s (.mv 5 (.t 14))]) (.seq (.reg [.s (.mv 15 (.t 4)), .s (.mv 16 (.t 5)), .s (.call (some 17) 105 [(.t 15), (.t 16)]), .s (.mv 5 (.t 17))]) (.seq (.reg [.s (.mv 18 (.t 5)), .s (.mv 19 (.t 4)), .s (.mv 20 (.t 5)), .s (.len 21 false (.t 20)), .s (.bs 22 (.int .i64) [(.k (.v (.c (.int .i64 0)))), (.k (.v (.c (.int .i64 0)))), (.k (.v (.c (.int .i64 0)))), (.k (.v (.c (.int .i64 3)))), (.k (.v (.c (.int .i64 9)))), (.t 21), (.k (.v (.c (.int .i64 (-1))))), (.k (.v (.c (.int .i64 9223372036854775807))))]), .s (.call (some 23) 106 [(.t 19), (.t 22)]), .s (.mv 2 (.t 18)), .s (.mv 3 (.t 23))]) (.ret)))))⟩
def c_spec_DrawWordOf : Fun := ⟨32, [], fun ts K => as1 ts fun t0 => arC (pL (.int .u8)) t0 fun code => chk (code.length ≤ 1048576) (∀ (b : List Int) (k : Int), ((b.length ≤ 40 ∧ U8s b) ∧ k ∈ [0, 0, 0, 3, 9, (b.length : Int), -1, 9223372036854775807]) → K (.tup [.c (tl true (.int .u8) b), .c (.int .i64 k)]) [])⟩
theorem run_spec_DrawWordOf (code : List (FT.Ty (.int .u8))) (hpre : code.length ≤ 1048576) {K : Tree → List Tree → Prop} (hK : ∀ (b : List Int) (k : Int), ((b.length ≤ 40 ∧ U8s b) ∧ k ∈ [0, 0, 0, 3, 9, (b.length : Int), -1, 9223372036854775807]) → K (.tup [.c (tl true (.int .u8) b), .c (.int .i64 k)]) []) : runK [c_spec_WordBytes, c_spec_l1New, c_spec_l3DrawRight, c_spec_l24Dent, c_spec_l1PickInt] (0) [] pf_spec_DrawWordOf [tL false (.int .u8) code] K := by
  conv => whnf
  repeat' (first | (refine sel_i (fun h => ?_) (fun h => ?_) <;> conv => whnf) | (refine chk_c ?_ ?_ <;> conv => whnf) | (refine And.intro ?_ rfl) | (refine And.intro ?_ ?_ <;> conv => whnf) | (intro x y z d hd; (try have g1 := And.left hd); (try have g2 := And.right hd); (try have g3 := And.left (And.right hd)); (try have g4 := And.right (And.right hd)); conv => whnf) | (intro x y d hd; (try have g1 := And.left hd); (try have g2 := And.right hd); (try have g3 := And.left (And.right hd)); (try have g4 := And.right (And.right hd)); conv => whnf) | (intro x d hd; (try have g1 := And.left hd); (try have g2 := And.right hd); (try have g3 := And.left (And.right hd)); (try have g4 := And.right (And.right hd)); conv => whnf) | (intro d hd; (try have g1 := And.left hd); (try have g2 := And.right hd); (try have g3 := And.left (And.right hd)); (try have g4 := And.right (And.right hd)); conv => whnf))
  all_goals first
    | (refine ⟨?_⟩; exact hd)
    | (refine ⟨?_⟩; exact hd.2)
    | (refine ⟨?_⟩; exact hpre)
    | (refine ⟨?_⟩; have q1 := fun w => wordBytes_len w; refine Nat.le_trans (Nat.add_le_add (q1 _) (q1 _)) (by decide))
    | (refine ⟨?_⟩; have q1 := fun w => wordBytes_len w; refine ⟨hd.2, ?_, (wordBytes_u8 _).app (wordBytes_u8 _)⟩; rw [List.length_append]; exact Nat.le_trans (Nat.add_le_add (q1 _) (q1 _)) (by decide))
    | (refine ⟨?_⟩; exact ⟨hd.2, by simp, by simp⟩)
    | (refine ⟨?_⟩; rfl)
    | (rename_i e _ hdd _ _ _ _; obtain ⟨⟨hu1, hu2⟩, -⟩ := hdd
       have q1 := fun w => wordBytes_len w
       rw [List.length_append] at hu1
       exact hK _ _ ⟨⟨Nat.le_trans hu1 (Nat.succ_le_succ (Nat.le_trans (Nat.add_le_add (q1 _) (q1 _)) (by decide))), hu2⟩, hd.1⟩)
    | trace_state
theorem ok_spec_DrawWordOf : FunOk Try.prog c_spec_DrawWordOf := funOkR (E := [c_spec_WordBytes, c_spec_l1New, c_spec_l3DrawRight, c_spec_l24Dent, c_spec_l1PickInt]) (envOk_cons ok_spec_WordBytes (envOk_cons ok_spec_l1New (envOk_cons ok_spec_l3DrawRight (envOk_cons ok_spec_l24Dent (envOk_cons ok_spec_l1PickInt (envOk_nil)))))) mixd Try.func32 (pf := pf_spec_DrawWordOf) (by kernel_rfl) fun ts K h => by
  obtain ⟨t0, e0, h⟩ := as1_out h
  subst e0
  obtain ⟨code, e1, hq⟩ := arC_out (rd_l (.int .u8)) h
  clear h
  subst e1
  have h := hq
  clear hq
  obtain ⟨hpre, h⟩ := chk_o h
  exact ⟨Nat.le_of_ble_eq_true (show Nat.ble 1 Try.f32.ntmps = true by kernel_rfl), _, run_spec_DrawWordOf code hpre h⟩

def pf_spec_DrawStateBytes : PF := ⟨[.c 2 true 10], .seq (.reg [.s (.alloc 2 [.nils .word, .int .i64 0, .ff, .int .i64 0, .int .i64 0, .int .i64 0, .int .i64 0, .nils .word, .nils .bool, .int .i64 0])]) (.seq (.reg [.s (.mv 6 (.t 0)), .s (.call (some 7) 81 [(.t 6)]), .s (.call (some 8) 108 [(.t 7)]), .s (.mv 5 (.t 8)), .s (.ext 9 (.t 5) 0), .s (.ext 10 (.t 5) 1), .s (.alloc 4 [.nils .word, .int .i64 0, .ff, .int .i64 0, .int .i64 0, .int .i64 0, .int .i64 0, .nils .word, .nils .bool, .int .i64 0]), .s (.mv 3 (.t 9)), .s (.store 10 (.t 4) (.t 10))]) (.seq (.reg [.s (.load 11 true 10 (.t 4)), .s (.store 10 (.t 2) (.t 11))]) (.ret)))⟩
def c_spec_DrawStateBytes : Fun := ⟨35, [], fun ts K => as1 ts fun t0 => arC (pL (.int .u8)) t0 fun code => chk (code.length ≤ 1048576) (∀ (s : State), (LState s 24) → K (tG (s.tc true [])) [])⟩
theorem run_spec_DrawStateBytes (code : List (FT.Ty (.int .u8))) (hpre : code.length ≤ 1048576) {K : Tree → List Tree → Prop} (hK : ∀ (s : State), (LState s 24) → K (tG (s.tc true [])) []) : runK [c_spec_l1New, c_spec_l9Draw] (0) [] pf_spec_DrawStateBytes [tL false (.int .u8) code] K := by
  conv => whnf
  repeat' (first | (refine sel_i (fun h => ?_) (fun h => ?_) <;> conv => whnf) | (refine chk_c ?_ ?_ <;> conv => whnf) | (refine And.intro ?_ rfl) | (refine And.intro ?_ ?_ <;> conv => whnf) | (intro x y z d hd; (try have g1 := And.left hd); (try have g2 := And.right hd); (try have g3 := And.left (And.right hd)); (try have g4 := And.right (And.right hd)); conv => whnf) | (intro x y d hd; (try have g1 := And.left hd); (try have g2 := And.right hd); (try have g3 := And.left (And.right hd)); (try have g4 := And.right (And.right hd)); conv => whnf) | (intro x d hd; (try have g1 := And.left hd); (try have g2 := And.right hd); (try have g3 := And.left (And.right hd)); (try have g4 := And.right (And.right hd)); conv => whnf) | (intro d hd; (try have g1 := And.left hd); (try have g2 := And.right hd); (try have g3 := And.left (And.right hd)); (try have g4 := And.right (And.right hd)); conv => whnf))
  all_goals first
    | (refine ⟨?_⟩; exact hd)
    | (refine ⟨?_⟩; exact hpre)
    | exact hK y hd.1.2
    | trace_state
theorem ok_spec_DrawStateBytes : FunOk Try.prog c_spec_DrawStateBytes := funOkR (E := [c_spec_l1New, c_spec_l9Draw]) (envOk_cons ok_spec_l1New (envOk_cons ok_spec_l9Draw (envOk_nil))) mixd Try.func35 (pf := pf_spec_DrawStateBytes) (by kernel_rfl) fun ts K h => by
  obtain ⟨t0, e0, h⟩ := as1_out h
  subst e0
  obtain ⟨code, e1, hq⟩ := arC_out (rd_l (.int .u8)) h
  clear h
  subst e1
  have h := hq
  clear hq
  obtain ⟨hpre, h⟩ := chk_o h
  exact ⟨Nat.le_of_ble_eq_true (show Nat.ble 1 Try.f35.ntmps = true by kernel_rfl), _, run_spec_DrawStateBytes code hpre h⟩

def pf_spec_DrawStateOf : PF := ⟨[.t 2], .seq (.reg [.s (.mv 2 (.k (.v (.c (.nils (.int .u8))))))]) (.seq (.reg [.s (.mv 6 (.t 0)), .s (.call (some 7) 81 [(.t 6)]), .s (.mv 3 (.t 7))]) (.seq (.reg [.s (.mv 9 (.t 3)), .s (.call (some 10) 109 [(.t 9)]), .s (.mv 8 (.t 10)), .s (.ext 11 (.t 8) 0), .s (.ext 12 (.t 8) 1), .s (.alloc 5 [.nils .word, .int .i64 0, .ff, .int .i64 0, .int .i64 0, .int .i64 0, .int .i64 0, .nils .word, .nils .bool, .int .i64 0]), .s (.mv 4 (.t 11)), .s (.store 10 (.t 5) (.t 12))]) (.seq (.reg [.s (.mv 13 (.t 3)), .s (.load 14 true 10 (.t 5)), .s (.call (some 15) 41 [(.t 14)]), .s (.call (some 16) 105 [(.t 13), (.t 15)]), .s (.mv 2 (.t 16))]) (.ret))))⟩
def c_spec_DrawStateOf : Fun := ⟨37, [], fun ts K => as1 ts fun t0 => arC (pL (.int .u8)) t0 fun code => chk (code.length ≤ 1048576) (∀ (b : List Int), (b.length ≤ 500 ∧ U8s b) → K (tL true (.int .u8) b) [])⟩
theorem run_spec_DrawStateOf (code : List (FT.Ty (.int .u8))) (hpre : code.length ≤ 1048576) {K : Tree → List Tree → Prop} (hK : ∀ (b : List Int), (b.length ≤ 500 ∧ U8s b) → K (tL true (.int .u8) b) []) : runK [c_spec_StateBytes, c_spec_l1New, c_spec_l24Dent, c_spec_l9DrawState] (0) [] pf_spec_DrawStateOf [tL false (.int .u8) code] K := by
  conv => whnf
  repeat' (first | (refine sel_i (fun h => ?_) (fun h => ?_) <;> conv => whnf) | (refine chk_c ?_ ?_ <;> conv => whnf) | (refine And.intro ?_ rfl) | (refine And.intro ?_ ?_ <;> conv => whnf) | (intro x y z d hd; (try have g1 := And.left hd); (try have g2 := And.right hd); (try have g3 := And.left (And.right hd)); (try have g4 := And.right (And.right hd)); conv => whnf) | (intro x y d hd; (try have g1 := And.left hd); (try have g2 := And.right hd); (try have g3 := And.left (And.right hd)); (try have g4 := And.right (And.right hd)); conv => whnf) | (intro x d hd; (try have g1 := And.left hd); (try have g2 := And.right hd); (try have g3 := And.left (And.right hd)); (try have g4 := And.right (And.right hd)); conv => whnf) | (intro d hd; (try have g1 := And.left hd); (try have g2 := And.right hd); (try have g3 := And.left (And.right hd)); (try have g4 := And.right (And.right hd)); conv => whnf))
  all_goals first
    | (refine ⟨?_⟩; exact hd)
    | (refine ⟨?_⟩; exact hd.2)
    | (refine ⟨?_⟩; exact hpre)
    | (refine ⟨?_⟩; exact (stateOk_len (s := y) (by assumption)).l)
    | (refine ⟨?_⟩; exact ⟨hd.2.2, Nat.le_trans (stateBytes_len _) (by decide), stateBytes_u8 _⟩)
    | (exact hK _ ⟨Nat.le_trans hd.1.1 (Nat.succ_le_succ (Nat.le_trans (stateBytes_len _) (by decide))), hd.1.2⟩)
    | trace_state
theorem ok_spec_DrawStateOf : FunOk Try.prog c_spec_DrawStateOf := funOkR (E := [c_spec_StateBytes, c_spec_l1New, c_spec_l24Dent, c_spec_l9DrawState]) (envOk_cons ok_spec_StateBytes (envOk_cons ok_spec_l1New (envOk_cons ok_spec_l24Dent (envOk_cons ok_spec_l9DrawState (envOk_nil))))) mixd Try.func37 (pf := pf_spec_DrawStateOf) (by kernel_rfl) fun ts K h => by
  obtain ⟨t0, e0, h⟩ := as1_out h
  subst e0
  obtain ⟨code, e1, hq⟩ := arC_out (rd_l (.int .u8)) h
  clear h
  subst e1
  have h := hq
  clear hq
  obtain ⟨hpre, h⟩ := chk_o h
  exact ⟨Nat.le_of_ble_eq_true (show Nat.ble 1 Try.f37.ntmps = true by kernel_rfl), _, run_spec_DrawStateOf code hpre h⟩






/-! what the small programs do -/




theorem wfk {raw : List Int} {k : Int} (h1 : raw.length ≤ 40) (h : k ∈ [0, 0, 0, 3, 9, (raw.length : Int), -1, 9223372036854775807]) : wfI .i64 k := by
  show (decide (IntKind.i64.min ≤ k) && decide (k ≤ IntKind.i64.max)) = true
  have e1 : IntKind.i64.min = -9223372036854775808 := rfl
  have e2 : IntKind.i64.max = 9223372036854775807 := rfl
  simp at h
  simp; omega
theorem word_got {raw : List Int} {k : Int} (hu : U8s raw) (h : (wordOf raw k).isSome = true) :
    (0 ≤ k ∧ k ≤ ((wordOf raw k).getD (⟨0, false, ⟨0, 0, 0, 0⟩⟩, 0)).2 ∧ ((wordOf raw k).getD (⟨0, false, ⟨0, 0, 0, 0⟩⟩, 0)).2 ≤ raw.length) ∧
      wordBytes ((wordOf raw k).getD (⟨0, false, ⟨0, 0, 0, 0⟩⟩, 0)).1 = win raw (0 + k.toNat) (((wordOf raw k).getD (⟨0, false, ⟨0, 0, 0, 0⟩⟩, 0)).2 - k).toNat := by
  cases e : wordOf raw k with
  | none => rw [e] at h; cases h
  | some p =>
    obtain ⟨x, n⟩ := p
    obtain ⟨h1, h2, h3⟩ := wordOf_some e
    rw [Nat.zero_add]
    exact ⟨⟨h1, by show k ≤ n; omega, h3⟩, wordOf_bytes hu e⟩
theorem state_got {t : List Int} (h : (stateOf t).isSome = true) : stateBytes ((stateOf t).getD zState) = t := by
  cases e : stateOf t with
  | none => rw [e] at h; cases h
  | some u => exact stateOf_some e
theorem win_cut (b : List Int) (h : 0 < b.length) (h2 : b.length ≤ 1000000) : win b 0 (IntKind.i64.wrap ((b.length : Int) - 1)).toNat = b.take (b.length - 1) := by
  rw [wrap_id (by omega) (by omega), show ((b.length : Int) - 1).toNat = b.length - 1 by omega]; rfl
theorem word_back {w : Word} (h : 0 < (wordBytes w).length) : wordOf (wordBytes w) 0 = some (w, ((wordBytes w).length : Int)) ∧ wordOf (win (wordBytes w) 0 (IntKind.i64.wrap (((wordBytes w).length : Int) - 1)).toNat) 0 = none := by
  have hl := wordBytes_len w
  refine ⟨wordBytes_back ?_, by rw [win_cut _ h (by omega)]; exact wordOf_cut⟩
  cases e : wordOk w with
  | true => rfl
  | false => rw [show wordBytes w = [] by unfold wordBytes; rw [e]; rfl] at h; exact absurd h (by decide)
theorem state_back {s : State} (h : ¬ (stateBytes s).length = 0) : stateOf (stateBytes s) = some s ∧ stateOf (win (stateBytes s) 0 (IntKind.i64.wrap (((stateBytes s).length : Int) - 1)).toNat) = none := by
  have hl := stateBytes_len s
  have ho : stateOk s = true := by
    cases e : stateOk s with
    | true => rfl
    | false => rw [stateBytes_no e] at h; exact absurd rfl h
  exact ⟨stateOf_bytes ho, by rw [win_cut _ (by omega) (by omega)]; exact stateOf_cut ho⟩
theorem state_none {s : State} (h : (stateBytes s).length = 0) : stateOk s = false := by
  cases e : stateOk s with
  | false => rfl
  | true => rw [stateBytes_ok e] at h; simp at h
theorem ne_self2 {a : Int} (h : (a != a) = true) : False := by simp at h
theorem ne_selfB {a : Bool} (h : (!(a == a)) = true) : False := by cases a <;> cases h
theorem strI_same {a : List Int} (h : U8s a) : (strI a == strI a) = true := by rw [strI_eq h h]; simp
end Go.Pi
