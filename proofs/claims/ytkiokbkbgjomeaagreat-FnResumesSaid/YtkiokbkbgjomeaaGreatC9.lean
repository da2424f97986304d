/- Contracts of functions, each out of its run by PI. No conditions. -/
import Derived.Test.YtkiokbkbgjomeaaGreatC8
namespace Go.Pi
open Go.Proofs
set_option linter.unusedVariables false
set_option linter.unusedSimpArgs false
set_option maxRecDepth 100000
attribute [local irreducible] iterN
theorem U8s.app {a b : List Int} (ha : U8s a) (hb : U8s b) : U8s (a ++ b) := fun x hx => by
  rcases List.mem_append.1 hx with q | q
  · exact ha x q
  · exact hb x q
theorem U8s.put {a : List Int} (ha : U8s a) {i : Nat} {v : Int} (hv : 0 ≤ v ∧ v ≤ 255) : U8s (a.set i v) := fun x hx => by
  rcases mem_set hx with q | q
  · exact ha x q
  · rw [q]; exact hv
theorem wrap8 (n : Int) : 0 ≤ IntKind.u8.wrap n ∧ IntKind.u8.wrap n ≤ 255 := by
  show 0 ≤ n % 256 ∧ n % 256 ≤ 255
  omega
theorem kState {K : Tree → List Tree → Prop} {o : List Tree} {P : State → Prop} {l : List Inst} (hK : ∀ s : State, P s → K (.tup [.c (tl true .inst l), .g (s.tc true [])]) o) (a : List Word) (n : Int) (is : Bool) (e f g h : Int) (b : List Word) (c : List Bool) (t : Int) (hp : P ⟨a, ⟨n, is, ⟨e, f, g, h⟩⟩, ⟨b, c⟩, t⟩) :
    K (.tup [.c (.ow .inst l), .g [.ow .word a, .int .i64 n, .bool is, .int .i64 e, .int .i64 f, .int .i64 g, .int .i64 h, .ow .word b, .ow .bool c, .int .i64 t]]) o := hK ⟨a, ⟨n, is, ⟨e, f, g, h⟩⟩, ⟨b, c⟩, t⟩ hp

def pf_spec_l9Draw : PF := ⟨[.t 2, .c 3 true 10], .seq (.reg [.s (.mv 2 (.k (.v (.c (.nils .inst))))), .s (.alloc 3 [.nils .word, .int .i64 0, .ff, .int .i64 0, .int .i64 0, .int .i64 0, .int .i64 0, .nils .word, .nils .bool, .int .i64 0])]) (.seq (.reg [.s (.mv 7 (.t 0)), .s (.call (some 8) 65 [(.t 7)]), .s (.mv 6 (.t 8)), .s (.ext 9 (.t 6) 0), .s (.ext 10 (.t 6) 1), .s (.alloc 5 [.nils .word, .int .i64 0, .ff, .int .i64 0, .int .i64 0, .int .i64 0, .int .i64 0, .nils .word, .nils .bool, .int .i64 0]), .s (.mv 4 (.t 9)), .s (.store 10 (.t 5) (.t 10))]) (.seq (.seq (.reg [.s (.mv 11 (.t 0)), .s (.call (some 12) 99 [(.t 11), (.k (.v (.c (.int .i64 15))))])]) (.blk 0 (.seq (.reg [.s (.bin 14 .eql (.t 12) (.k (.v (.c (.int .i64 0))))), .s (.mv 13 (.t 14))]) (.cond (.t 13) (.rgd [0] [.s (.fa 15 (.t 5) 0), .s (.load 16 false 1 (.t 15)), .s (.mv 17 (.t 0)), .s (.call (some 18) 99 [(.t 17), (.k (.v (.c (.int .i64 8))))]), .s (.mv 19 (.t 0)), .s (.call (some 20) 159 [(.t 19)]), .s (.ia 21 .word (.t 16) (.t 18)), .s (.store 6 (.t 21) (.t 20))] (.tk 0 (.tk 1 (.tk 2 (.tk 4 (.one 3 false (.one 5 false (.tk 6 (.one 7 true (.done none)))))))))) (.seq (.reg [.s (.bin 23 .eql (.t 12) (.k (.v (.c (.int .i64 1))))), .s (.mv 22 (.t 23))]) (.cond (.t 22) (.reg [.s (.mv 24 (.t 0)), .s (.call (some 25) 159 [(.t 24)]), .s (.fa 26 (.t 5) 1), .s (.store 6 (.t 26) (.t 25))]) (.seq (.reg [.s (.bin 28 .eql (.t 12) (.k (.v (.c (.int .i64 2))))), .s (.mv 27 (.t 28))]) (.cond (.t 27) (.reg [.s (.mv 29 (.t 0)), .s (.call (some 30) 160 [(.t 29)]), .s (.fa 31 (.t 5) 7), .s (.store 2 (.t 31) (.t 30))]) (.seq (.reg [.s (.bin 33 .eql (.t 12) (.k (.v (.c (.int .i64 3))))), .s (.mv 32 (.t 33))]) (.cond (.t 32) (.reg [.s (.mv 34 (.t 0)), .s (.call (some 35) 99 [(.t 34), (.k (.v (.c (.int .i64 8))))]), .s (.bin 36 .sub (.t 35) (.k (.v (.c (.int .i64 1))))), .s (.fa 37 (.t 5) 9), .s (.store 1 (.t 37) (.t 36))]) (.seq (.reg [.s (.bin 39 .eql (.t 12) (.k (.v (.c (.int .i64 4))))), .s (.mv 38 (.t 39))]) (.cond (.t 38) (.reg [.s (.fa 40 (.t 5) 0), .s (.load 41 false 1 (.t 40)), .s (.slc 42 .word (.t 41) (some (.k (.v (.c (.int .i64 1))))) none), .s (.fa 43 (.t 5) 0), .s (.store 1 (.t 43) (.t 42))]) (.seq (.reg [.s (.bin 45 .eql (.t 12) (.k (.v (.c (.int .i64 5))))), .s (.mv 44 (.t 45))]) (.cond (.t 44) (.rgd [0] [.s (.mv 46 (.t 4)), .s (.mv 47 (.t 0)), .s (.mv 48 (.t 4)), .s (.len 49 false (.t 48)), .s (.call (some 50) 99 [(.t 47), (.t 49)]), .s (.mv 51 (.t 0)), .s (.mv 52 (.t 4)), .s (.ia 53 .inst (.t 52) (.k (.v (.c (.int .i64 0))))), .s (.load 54 true 5 (.t 53)), .s (.call (some 55) 161 [(.t 51), (.t 54)]), .s (.ia 56 .inst (.t 46) (.t 50)), .s (.store 5 (.t 56) (.t 55))] (.tk 0 (.tk 1 (.tk 2 (.tk 3 (.tk 5 (.tk 6 (.tk 7 (.tk 8 (.one 4 false (.one 9 true (.tk 10 (.one 11 true (.done none)))))))))))))) (.skip))))))))))))))) (.seq (.rgd [] [.s (.mv 57 (.t 4)), .s (.load 58 true 10 (.t 5)), .s (.mv 2 (.t 57)), .s (.store 10 (.t 3) (.t 58))] (.tk 0 (.tk 1 (.tk 2 (.one 3 true (.done none)))))) (.ret))))⟩
def c_spec_l9Draw : Fun := ⟨88, [true], fun ts K => as1 ts fun t0 => arQ pCurT t0 fun c => chk (CurOk c) (∀ (l : List Inst) (s : State) (d : Cur), ((l.length ≤ 20 ∧ LState s 24) ∧ CurOk d) → K (.tup [.c (tl true .inst l), .g (s.tc true [])]) ([curOut d]))⟩
theorem run_spec_l9Draw (c : Cur) (hpre : CurOk c) {K : Tree → List Tree → Prop} (hK : ∀ (l : List Inst) (s : State) (d : Cur), ((l.length ≤ 20 ∧ LState s 24) ∧ CurOk d) → K (.tup [.c (tl true .inst l), .g (s.tc true [])]) ([curOut d])) : runK [c_spec_l9DrawState, c_spec_l1Below, c_spec_l3Draw, c_spec_l8Draw, c_spec_l6Spoil] (0) [true] pf_spec_l9Draw [.v (.ptr true 0 (c.tc []))] K := by
  conv => whnf
  repeat' (first | (refine sel_i (fun h => ?_) (fun h => ?_) <;> conv => whnf) | (refine chk_c ?_ ?_ <;> conv => whnf) | (refine And.intro ?_ rfl) | (refine And.intro ?_ ?_ <;> conv => whnf) | (intro x y z d hd; (try have g1 := And.left hd); (try have g2 := And.right hd); (try have g3 := And.left (And.right hd)); (try have g4 := And.right (And.right hd)); conv => whnf) | (intro x y d hd; (try have g1 := And.left hd); (try have g2 := And.right hd); (try have g3 := And.left (And.right hd)); (try have g4 := And.right (And.right hd)); conv => whnf) | (intro x d hd; (try have g1 := And.left hd); (try have g2 := And.right hd); (try have g3 := And.left (And.right hd)); (try have g4 := And.right (And.right hd)); conv => whnf) | (intro d hd; (try have g1 := And.left hd); (try have g2 := And.right hd); (try have g3 := And.left (And.right hd)); (try have g4 := And.right (And.right hd)); conv => whnf))
  all_goals first
    | (refine ⟨?_⟩; exact hd)
    | (refine ⟨?_⟩; exact hd.2)
    | (refine ⟨?_⟩; exact hd.2.2)
    | (refine ⟨?_⟩; exact hpre)
    | (refine ⟨?_⟩; exact ⟨hd, by simp⟩)
    | (refine ⟨?_⟩; exact ⟨hd.2, by simp⟩)
    | (refine ⟨?_⟩; exact ⟨hd.2.2, by simp⟩)
    | (refine ⟨?_⟩; decide)
    | (refine ⟨?_⟩; rfl)
    | (refine ⟨?_⟩; obtain ⟨hl1, hl2, hl3⟩ := stateOk_len (s := y) (by assumption); omega)
    | (have hm : LMem x 24 := (by assumption); obtain ⟨hl1, hl2, hl3⟩ := stateOk_len (s := y) (by assumption); refine kState (fun s hs => hK _ s _ hs) _ _ _ _ _ _ _ _ _ _ ⟨⟨?_, ?_, ?_, ?_⟩, ?_⟩ <;> first | exact hm.1 | exact hm.2 | exact hd | exact hd.2 | exact hd.2.2 | omega | (simp; omega))
    | (obtain ⟨hl1, hl2, hl3⟩ := stateOk_len (s := y) (by assumption); exact kState (fun s hs => hK _ s _ hs) _ _ _ _ _ _ _ _ _ _ ⟨⟨by first | omega | (simp; omega), by refine ⟨?_, ?_, ?_⟩ <;> first | omega | (simp; omega) | (simp [win]; omega)⟩, by first | exact hd | exact hd.2 | exact hd.2.2⟩)
    | trace_state
theorem ok_spec_l9Draw : FunOk Tryz.prog c_spec_l9Draw := funOkR (E := [c_spec_l9DrawState, c_spec_l1Below, c_spec_l3Draw, c_spec_l8Draw, c_spec_l6Spoil]) (envOk_cons ok_spec_l9DrawState (envOk_cons ok_spec_l1Below (envOk_cons ok_spec_l3Draw (envOk_cons ok_spec_l8Draw (envOk_cons ok_spec_l6Spoil (envOk_nil)))))) mixd Tryz.func88 (pf := pf_spec_l9Draw) (by kernel_rfl) fun ts K h => by
  obtain ⟨t0, e0, h⟩ := as1_out h
  subst e0
  obtain ⟨c, e1, hq⟩ := arQ_out rd_cur h
  clear h
  subst e1
  have h := hq
  clear hq
  obtain ⟨hpre, h⟩ := chk_o h
  exact ⟨Nat.le_of_ble_eq_true (show Nat.ble 1 Tryz.f88.ntmps = true by kernel_rfl), _, run_spec_l9Draw c hpre h⟩

def pf_spec_DrawGoing : PF := ⟨[.t 2, .c 3 true 10], .seq (.reg [.s (.mv 2 (.k (.v (.c (.nils .inst))))), .s (.alloc 3 [.nils .word, .int .i64 0, .ff, .int .i64 0, .int .i64 0, .int .i64 0, .int .i64 0, .nils .word, .nils .bool, .int .i64 0])]) (.seq (.reg [.s (.mv 7 (.t 0)), .s (.call (some 8) 64 [(.t 7)]), .s (.mv 4 (.t 8))]) (.seq (.reg [.s (.mv 10 (.t 4)), .s (.call (some 11) 65 [(.t 10)]), .s (.mv 9 (.t 11)), .s (.ext 12 (.t 9) 0), .s (.ext 13 (.t 9) 1), .s (.alloc 6 [.nils .word, .int .i64 0, .ff, .int .i64 0, .int .i64 0, .int .i64 0, .int .i64 0, .nils .word, .nils .bool, .int .i64 0]), .s (.mv 5 (.t 12)), .s (.store 10 (.t 6) (.t 13))]) (.seq (.seq (.reg [.s (.mv 14 (.t 4)), .s (.call (some 15) 66 [(.t 14), (.k (.v (.c (.int .i64 2))))])]) (.cond (.t 15) (.rgd [4] [.s (.fa 16 (.t 6) 0), .s (.load 17 false 1 (.t 16)), .s (.mv 18 (.t 4)), .s (.call (some 19) 67 [(.t 18)]), .s (.ia 20 .word (.t 17) (.k (.v (.c (.int .i64 0))))), .s (.store 6 (.t 20) (.t 19))] (.tk 0 (.tk 1 (.tk 2 (.one 3 false (.tk 4 (.one 5 true (.done none)))))))) (.skip))) (.seq (.rgd [] [.s (.mv 21 (.t 5)), .s (.load 22 true 10 (.t 6)), .s (.mv 2 (.t 21)), .s (.store 10 (.t 3) (.t 22))] (.tk 0 (.tk 1 (.tk 2 (.one 3 true (.done none)))))) (.ret)))))⟩
def c_spec_DrawGoing : Fun := ⟨11, [], fun ts K => as1 ts fun t0 => arC (pL (.int .u8)) t0 fun code => chk (code.length ≤ 1048576) (∀ (l : List Inst) (s : State), ((l.length ≤ 20 ∧ 1 ≤ l.length) ∧ stateOk s = true) → K (.tup [.c (tl true .inst l), .g (s.tc true [])]) [])⟩
theorem run_spec_DrawGoing (code : List (FT.Ty (.int .u8))) (hpre : code.length ≤ 1048576) {K : Tree → List Tree → Prop} (hK : ∀ (l : List Inst) (s : State), ((l.length ≤ 20 ∧ 1 ≤ l.length) ∧ stateOk s = true) → K (.tup [.c (tl true .inst l), .g (s.tc true [])]) []) : runK [c_spec_l1New, c_spec_l9DrawState, c_spec_l1Once, c_spec_l3DrawRight] (0) [] pf_spec_DrawGoing [tL false (.int .u8) code] K := by
  conv => whnf
  repeat' (first | (refine sel_i (fun h => ?_) (fun h => ?_) <;> conv => whnf) | (refine chk_c ?_ ?_ <;> conv => whnf) | (refine And.intro ?_ rfl) | (refine And.intro ?_ ?_ <;> conv => whnf) | (intro x y z d hd; (try have g1 := And.left hd); (try have g2 := And.right hd); (try have g3 := And.left (And.right hd)); (try have g4 := And.right (And.right hd)); conv => whnf) | (intro x y d hd; (try have g1 := And.left hd); (try have g2 := And.right hd); (try have g3 := And.left (And.right hd)); (try have g4 := And.right (And.right hd)); conv => whnf) | (intro x d hd; (try have g1 := And.left hd); (try have g2 := And.right hd); (try have g3 := And.left (And.right hd)); (try have g4 := And.right (And.right hd)); conv => whnf) | (intro d hd; (try have g1 := And.left hd); (try have g2 := And.right hd); (try have g3 := And.left (And.right hd)); (try have g4 := And.right (And.right hd)); conv => whnf))
  all_goals first
    | (refine ⟨?_⟩; exact hd)
    | (refine ⟨?_⟩; exact hd.2)
    | (refine ⟨?_⟩; exact hd.2.2)
    | (refine ⟨?_⟩; exact hpre)
    | (refine ⟨?_⟩; exact ⟨hd, by simp⟩)
    | (refine ⟨?_⟩; exact ⟨hd.2, by simp⟩)
    | (refine ⟨?_⟩; exact ⟨hd.2.2, by simp⟩)
    | (refine ⟨?_⟩; decide)
    | (refine ⟨?_⟩; rfl)
    | (refine ⟨?_⟩; obtain ⟨hl1, hl2, hl3⟩ := stateOk_len (s := y) (by assumption); omega)
    | (refine ⟨?_⟩; obtain ⟨hl1, hl2, hl3⟩ := stateOk_len (s := y) (by assumption); rw [hl1]; decide)
    | (have hs : stateOk y = true := (by assumption); have hw : wordOk x = true := (by assumption); refine kState (fun s hs => hK _ s hs) _ _ _ _ _ _ _ _ _ _ ⟨?_, ?_⟩ <;> first | assumption | exact stateOk_setR hs hw (stateOk_iff.1 hs).2.2.2.1)
    | (refine kState (fun s hs => hK _ s hs) _ _ _ _ _ _ _ _ _ _ ⟨?_, ?_⟩ <;> assumption)
    | trace_state
theorem ok_spec_DrawGoing : FunOk Tryz.prog c_spec_DrawGoing := funOkR (E := [c_spec_l1New, c_spec_l9DrawState, c_spec_l1Once, c_spec_l3DrawRight]) (envOk_cons ok_spec_l1New (envOk_cons ok_spec_l9DrawState (envOk_cons ok_spec_l1Once (envOk_cons ok_spec_l3DrawRight (envOk_nil))))) mixd Tryz.func11 (pf := pf_spec_DrawGoing) (by kernel_rfl) fun ts K h => by
  obtain ⟨t0, e0, h⟩ := as1_out h
  subst e0
  obtain ⟨code, e1, hq⟩ := arC_out (rd_l (.int .u8)) h
  clear h
  subst e1
  have h := hq
  clear hq
  obtain ⟨hpre, h⟩ := chk_o h
  exact ⟨Nat.le_of_ble_eq_true (show Nat.ble 1 Tryz.f11.ntmps = true by kernel_rfl), _, run_spec_DrawGoing code hpre h⟩

def pf_spec_DrawSeenOf : PF := ⟨[.t 2, .c 3 true 10], .seq (.reg [.s (.mv 2 (.k (.v (.c (.nils .inst))))), .s (.alloc 3 [.nils .word, .int .i64 0, .ff, .int .i64 0, .int .i64 0, .int .i64 0, .int .i64 0, .nils .word, .nils .bool, .int .i64 0])]) (.seq (.reg [.s (.mv 7 (.t 0)), .s (.call (some 8) 64 [(.t 7)]), .s (.call (some 9) 88 [(.t 8)]), .s (.mv 6 (.t 9)), .s (.ext 10 (.t 6) 0), .s (.ext 11 (.t 6) 1), .s (.alloc 5 [.nils .word, .int .i64 0, .ff, .int .i64 0, .int .i64 0, .int .i64 0, .int .i64 0, .nils .word, .nils .bool, .int .i64 0]), .s (.mv 4 (.t 10)), .s (.store 10 (.t 5) (.t 11))]) (.seq (.rgd [] [.s (.mv 12 (.t 4)), .s (.load 13 true 10 (.t 5)), .s (.mv 2 (.t 12)), .s (.store 10 (.t 3) (.t 13))] (.tk 0 (.tk 1 (.tk 2 (.one 3 true (.done none)))))) (.ret)))⟩
def c_spec_DrawSeenOf : Fun := ⟨23, [], fun ts K => as1 ts fun t0 => arC (pL (.int .u8)) t0 fun code => chk (code.length ≤ 1048576) (∀ (l : List Inst) (s : State), (l.length ≤ 20 ∧ LState s 24) → K (.tup [.c (tl true .inst l), .g (s.tc true [])]) [])⟩
theorem run_spec_DrawSeenOf (code : List (FT.Ty (.int .u8))) (hpre : code.length ≤ 1048576) {K : Tree → List Tree → Prop} (hK : ∀ (l : List Inst) (s : State), (l.length ≤ 20 ∧ LState s 24) → K (.tup [.c (tl true .inst l), .g (s.tc true [])]) []) : runK [c_spec_l1New, c_spec_l9Draw] (0) [] pf_spec_DrawSeenOf [tL false (.int .u8) code] K := by
  conv => whnf
  repeat' (first | (refine sel_i (fun h => ?_) (fun h => ?_) <;> conv => whnf) | (refine chk_c ?_ ?_ <;> conv => whnf) | (refine And.intro ?_ rfl) | (refine And.intro ?_ ?_ <;> conv => whnf) | (intro x y z d hd; (try have g1 := And.left hd); (try have g2 := And.right hd); (try have g3 := And.left (And.right hd)); (try have g4 := And.right (And.right hd)); conv => whnf) | (intro x y d hd; (try have g1 := And.left hd); (try have g2 := And.right hd); (try have g3 := And.left (And.right hd)); (try have g4 := And.right (And.right hd)); conv => whnf) | (intro x d hd; (try have g1 := And.left hd); (try have g2 := And.right hd); (try have g3 := And.left (And.right hd)); (try have g4 := And.right (And.right hd)); conv => whnf) | (intro d hd; (try have g1 := And.left hd); (try have g2 := And.right hd); (try have g3 := And.left (And.right hd)); (try have g4 := And.right (And.right hd)); conv => whnf))
  all_goals first
    | (refine ⟨?_⟩; exact hd)
    | (refine ⟨?_⟩; exact hd.2)
    | (refine ⟨?_⟩; exact hd.2.2)
    | (refine ⟨?_⟩; exact hpre)
    | (refine ⟨?_⟩; exact ⟨hd, by simp⟩)
    | (refine ⟨?_⟩; exact ⟨hd.2, by simp⟩)
    | (refine ⟨?_⟩; exact ⟨hd.2.2, by simp⟩)
    | (refine ⟨?_⟩; decide)
    | (refine ⟨?_⟩; rfl)
    | (exact kState (fun s hs => hK _ s hs) _ _ _ _ _ _ _ _ _ _ hd.1)
    | trace_state
theorem ok_spec_DrawSeenOf : FunOk Tryz.prog c_spec_DrawSeenOf := funOkR (E := [c_spec_l1New, c_spec_l9Draw]) (envOk_cons ok_spec_l1New (envOk_cons ok_spec_l9Draw (envOk_nil))) mixd Tryz.func23 (pf := pf_spec_DrawSeenOf) (by kernel_rfl) fun ts K h => by
  obtain ⟨t0, e0, h⟩ := as1_out h
  subst e0
  obtain ⟨code, e1, hq⟩ := arC_out (rd_l (.int .u8)) h
  clear h
  subst e1
  have h := hq
  clear hq
  obtain ⟨hpre, h⟩ := chk_o h
  exact ⟨Nat.le_of_ble_eq_true (show Nat.ble 1 Tryz.f23.ntmps = true by kernel_rfl), _, run_spec_DrawSeenOf code hpre h⟩

def pf_spec_l24Dent : PF := ⟨[.t 4], .seq (.reg [.s (.mv 4 (.k (.v (.c (.nils (.int .u8))))))]) (.seq (.seq (.reg [.s (.mv 5 (.t 0)), .s (.call (some 6) 99 [(.t 5), (.k (.v (.c (.int .i64 6))))])]) (.blk 0 (.seq (.reg [.s (.bin 8 .eql (.t 6) (.k (.v (.c (.int .i64 0))))), .s (.mv 7 (.t 8))]) (.cond (.t 7) (.seq (.reg [.s (.mv 9 (.t 1)), .s (.mv 10 (.t 0)), .s (.mv 11 (.t 1)), .s (.len 12 false (.t 11)), .s (.bin 13 .add (.t 12) (.k (.v (.c (.int .i64 1))))), .s (.call (some 14) 99 [(.t 10), (.t 13)]), .s (.slc 15 (.int .u8) (.t 9) none (some (.t 14))), .s (.mv 4 (.t 15))]) (.ret)) (.seq (.reg [.s (.bin 17 .eql (.t 6) (.k (.v (.c (.int .i64 1))))), .s (.mv 16 (.t 17))]) (.cond (.t 16) (.seq (.reg [.s (.mv 18 (.t 1)), .s (.bs 19 (.int .u8) [(.k (.v (.c (.int .u8 0))))]), .s (.app 20 (.int .u8) (.t 18) (.t 19)), .s (.mv 4 (.t 20))]) (.ret)) (.seq (.reg [.s (.bin 22 .eql (.t 6) (.k (.v (.c (.int .i64 2))))), .s (.mv 21 (.t 22))]) (.cond (.t 21) (.seq (.reg [.s (.mv 23 (.t 1)), .s (.len 24 false (.t 23)), .s (.bin 25 .gtr (.t 24) (.k (.v (.c (.int .i64 0)))))]) (.cond (.t 25) (.reg [.s (.mv 26 (.t 1)), .s (.mv 27 (.t 0)), .s (.mv 28 (.t 1)), .s (.len 29 false (.t 28)), .s (.call (some 30) 99 [(.t 27), (.t 29)]), .s (.mv 31 (.t 0)), .s (.bs 32 (.int .i64) [(.k (.v (.c (.int .i64 0)))), (.k (.v (.c (.int .i64 1)))), (.k (.v (.c (.int .i64 2)))), (.k (.v (.c (.int .i64 64)))), (.k (.v (.c (.int .i64 255))))]), .s (.call (some 33) 93 [(.t 31), (.t 32)]), .s (.conv 34 .u8 (.t 33)), .s (.ia 35 (.int .u8) (.t 26) (.t 30)), .s (.store 1 (.t 35) (.t 34))]) (.skip))) (.skip))))))))) (.seq (.reg [.s (.mv 36 (.t 1)), .s (.mv 4 (.t 36))]) (.ret)))⟩
def c_spec_l24Dent : Fun := ⟨92, [true, true], fun ts K => as2 ts fun t0 t1 => arQ pCurT t0 fun c => arC (pO (.int .u8)) t1 fun b => chk (CurOk c ∧ b.length ≤ 1000 ∧ U8s b) (∀ (e : List Int) (d : Cur), ((e.length ≤ b.length + 1 ∧ U8s e) ∧ CurOk d) → K (tL true (.int .u8) e) ([curOut d, .v (.c .unk)]))⟩
theorem run_spec_l24Dent (c : Cur) (b : List (FT.Ty (.int .u8))) (hpre : CurOk c ∧ b.length ≤ 1000 ∧ U8s b) {K : Tree → List Tree → Prop} (hK : ∀ (e : List Int) (d : Cur), ((e.length ≤ b.length + 1 ∧ U8s e) ∧ CurOk d) → K (tL true (.int .u8) e) ([curOut d, .v (.c .unk)])) : runK [c_spec_l1PickInt, c_spec_l1Below] (0) [true, true] pf_spec_l24Dent [.v (.ptr true 0 (c.tc [])), tL true (.int .u8) b] K := by
  obtain ⟨hpre, hb1, hb2⟩ := hpre
  conv => whnf
  repeat' (first | (refine sel_i (fun h => ?_) (fun h => ?_) <;> conv => whnf) | (refine chk_c ?_ ?_ <;> conv => whnf) | (refine And.intro ?_ rfl) | (refine And.intro ?_ ?_ <;> conv => whnf) | (intro x y z d hd; (try have g1 := And.left hd); (try have g2 := And.right hd); (try have g3 := And.left (And.right hd)); (try have g4 := And.right (And.right hd)); conv => whnf) | (intro x y d hd; (try have g1 := And.left hd); (try have g2 := And.right hd); (try have g3 := And.left (And.right hd)); (try have g4 := And.right (And.right hd)); conv => whnf) | (intro x d hd; (try have g1 := And.left hd); (try have g2 := And.right hd); (try have g3 := And.left (And.right hd)); (try have g4 := And.right (And.right hd)); conv => whnf) | (intro d hd; (try have g1 := And.left hd); (try have g2 := And.right hd); (try have g3 := And.left (And.right hd)); (try have g4 := And.right (And.right hd)); conv => whnf))
  all_goals first
    | (refine ⟨?_⟩; exact hd)
    | (refine ⟨?_⟩; exact hd.2)
    | (refine ⟨?_⟩; exact hd.2.2)
    | (refine ⟨?_⟩; exact hpre)
    | (refine ⟨?_⟩; exact ⟨hd, by simp⟩)
    | (refine ⟨?_⟩; exact ⟨hd.2, by simp⟩)
    | (refine ⟨?_⟩; exact ⟨hd.2.2, by simp⟩)
    | (refine ⟨?_⟩; decide)
    | (refine ⟨?_⟩; rfl)
    | (refine ⟨?_⟩; rw [wrap_id (n := (b.length : Int) + 1) (by omega) (by omega)] at hd; omega)
    | (refine ⟨?_⟩; simp; omega)
    | (refine ⟨?_⟩; simp at h; omega)
    | (refine ⟨?_⟩; omega)
    | (exact hK _ d ⟨⟨by simp [win]; omega, hb2.win _ _⟩, by first | exact hd | exact hd.2⟩)
    | (exact hK _ d ⟨⟨by simp, hb2.app (fun v hv => by rw [List.mem_singleton.1 hv]; decide)⟩, by first | exact hd | exact hd.2⟩)
    | (exact hK _ d ⟨⟨by simp, hb2.put (wrap8 x)⟩, by first | exact hd | exact hd.2⟩)
    | (exact hK _ d ⟨⟨by omega, hb2⟩, by first | exact hd | exact hd.2⟩)
    | trace_state
theorem ok_spec_l24Dent : FunOk Tryz.prog c_spec_l24Dent := funOkR (E := [c_spec_l1PickInt, c_spec_l1Below]) (envOk_cons ok_spec_l1PickInt (envOk_cons ok_spec_l1Below (envOk_nil))) mixd Tryz.func92 (pf := pf_spec_l24Dent) (by kernel_rfl) fun ts K h => by
  obtain ⟨t0, t1, e0, h⟩ := as2_out h
  subst e0
  obtain ⟨c, e1, hq⟩ := arQ_out rd_cur h
  clear h
  subst e1
  have h := hq
  clear hq
  obtain ⟨b, e1, hq⟩ := arC_out (rd_o (.int .u8)) h
  clear h
  subst e1
  have h := hq
  clear hq
  obtain ⟨hpre, h⟩ := chk_o h
  exact ⟨Nat.le_of_ble_eq_true (show Nat.ble 2 Tryz.f92.ntmps = true by kernel_rfl), _, run_spec_l24Dent c b hpre h⟩

def pf_spec_DrawGoes : PF := ⟨[.t 2, .t 3, .t 4], .seq (.reg [.s (.mv 2 (.k (.v (.c (.nils .inst))))), .s (.mv 3 (.k (.v (.c (.nils (.int .u8)))))), .s (.mv 4 (.k (.v (.c (.int .i64 0)))))]) (.seq (.reg [.s (.mv 9 (.t 0)), .s (.call (some 10) 64 [(.t 9)]), .s (.mv 5 (.t 10))]) (.seq (.reg [.s (.mv 12 (.t 5)), .s (.call (some 13) 65 [(.t 12)]), .s (.mv 11 (.t 13)), .s (.ext 14 (.t 11) 0), .s (.ext 15 (.t 11) 1), .s (.alloc 7 [.nils .word, .int .i64 0, .ff, .int .i64 0, .int .i64 0, .int .i64 0, .int .i64 0, .nils .word, .nils .bool, .int .i64 0]), .s (.mv 6 (.t 14)), .s (.store 10 (.t 7) (.t 15))]) (.seq (.reg [.s (.load 16 true 10 (.t 7)), .s (.call (some 17) 91 [(.t 16)]), .s (.mv 8 (.t 17))]) (.seq (.seq (.reg [.s (.mv 18 (.t 5)), .s (.call (some 19) 66 [(.t 18), (.k (.v (.c (.int .i64 4))))])]) (.cond (.t 19) (.reg [.s (.mv 20 (.t 5)), .s (.mv 21 (.t 8)), .s (.call (some 22) 92 [(.t 20), (.t 21)]), .s (.mv 8 (.t 22))]) (.skip))) (.seq (.reg [.s (.mv 23 (.t 6)), .s (.mv 24 (.t 8)), .s (.mv 25 (.t 5)), .s (.bs 26 (.int .i64) [(.k (.v (.c (.int .i64 0)))), (.k (.v (.c (.int .i64 1)))), (.k (.v (.c (.int .i64 5)))), (.k (.v (.c (.int .i64 30)))), (.k (.v (.c (.int .i64 (-1)))))]), .s (.call (some 27) 93 [(.t 25), (.t 26)]), .s (.mv 2 (.t 23)), .s (.mv 3 (.t 24)), .s (.mv 4 (.t 27))]) (.ret))))))⟩
def c_spec_DrawGoes : Fun := ⟨26, [], fun ts K => as1 ts fun t0 => arC (pL (.int .u8)) t0 fun code => chk (code.length ≤ 1048576) (∀ (l : List Inst) (b : List Int) (n : Int), ((l.length ≤ 20 ∧ b.length ≤ 500) ∧ U8s b) → K (.tup [.c (tl true .inst l), .c (tl true (.int .u8) b), .c (.int .i64 n)]) [])⟩
theorem run_spec_DrawGoes (code : List (FT.Ty (.int .u8))) (hpre : code.length ≤ 1048576) {K : Tree → List Tree → Prop} (hK : ∀ (l : List Inst) (b : List Int) (n : Int), ((l.length ≤ 20 ∧ b.length ≤ 500) ∧ U8s b) → K (.tup [.c (tl true .inst l), .c (tl true (.int .u8) b), .c (.int .i64 n)]) []) : runK [c_spec_l1New, c_spec_l9DrawState, c_spec_l1Once, c_spec_StateBytes, c_spec_l24Dent, c_spec_l1PickInt] (0) [] pf_spec_DrawGoes [tL false (.int .u8) code] K := by
  conv => whnf
  repeat' (first | (refine sel_i (fun h => ?_) (fun h => ?_) <;> conv => whnf) | (refine chk_c ?_ ?_ <;> conv => whnf) | (refine And.intro ?_ rfl) | (refine And.intro ?_ ?_ <;> conv => whnf) | (intro x y z d hd; (try have g1 := And.left hd); (try have g2 := And.right hd); (try have g3 := And.left (And.right hd)); (try have g4 := And.right (And.right hd)); conv => whnf) | (intro x y d hd; (try have g1 := And.left hd); (try have g2 := And.right hd); (try have g3 := And.left (And.right hd)); (try have g4 := And.right (And.right hd)); conv => whnf) | (intro x d hd; (try have g1 := And.left hd); (try have g2 := And.right hd); (try have g3 := And.left (And.right hd)); (try have g4 := And.right (And.right hd)); conv => whnf) | (intro d hd; (try have g1 := And.left hd); (try have g2 := And.right hd); (try have g3 := And.left (And.right hd)); (try have g4 := And.right (And.right hd)); conv => whnf))
  all_goals first
    | (refine ⟨?_⟩; exact hd)
    | (refine ⟨?_⟩; exact hd.2)
    | (refine ⟨?_⟩; exact hd.2.2)
    | (refine ⟨?_⟩; exact hpre)
    | (refine ⟨?_⟩; exact ⟨hd, by simp⟩)
    | (refine ⟨?_⟩; exact ⟨hd.2, by simp⟩)
    | (refine ⟨?_⟩; exact ⟨hd.2.2, by simp⟩)
    | (refine ⟨?_⟩; decide)
    | (refine ⟨?_⟩; rfl)
    | (refine ⟨?_⟩; exact (stateOk_len (s := y) (by assumption)).l)
    | (refine ⟨?_⟩; exact ⟨hd, Nat.le_trans (stateBytes_len _) (by decide), stateBytes_u8 _⟩)
    | (have hsb := stateBytes_len y; exact hK _ _ _ ⟨⟨by omega, Nat.le_trans hsb (by decide)⟩, stateBytes_u8 y⟩)
    | (rename_i e _ hdd _ _ _ _; obtain ⟨⟨hu1, hu2⟩, -⟩ := hdd; have hu3 := Nat.le_trans hu1 (Nat.succ_le_succ (stateBytes_len _)); refine hK _ _ _ ⟨⟨?_, Nat.le_trans hu3 (by decide)⟩, hu2⟩; omega)
    | trace_state
theorem ok_spec_DrawGoes : FunOk Tryz.prog c_spec_DrawGoes := funOkR (E := [c_spec_l1New, c_spec_l9DrawState, c_spec_l1Once, c_spec_StateBytes, c_spec_l24Dent, c_spec_l1PickInt]) (envOk_cons ok_spec_l1New (envOk_cons ok_spec_l9DrawState (envOk_cons ok_spec_l1Once (envOk_cons ok_spec_StateBytes (envOk_cons ok_spec_l24Dent (envOk_cons ok_spec_l1PickInt (envOk_nil))))))) mixd Tryz.func26 (pf := pf_spec_DrawGoes) (by kernel_rfl) fun ts K h => by
  obtain ⟨t0, e0, h⟩ := as1_out h
  subst e0
  obtain ⟨code, e1, hq⟩ := arC_out (rd_l (.int .u8)) h
  clear h
  subst e1
  have h := hq
  clear hq
  obtain ⟨hpre, h⟩ := chk_o h
  exact ⟨Nat.le_of_ble_eq_true (show Nat.ble 1 Tryz.f26.ntmps = true by kernel_rfl), _, run_spec_DrawGoes code hpre h⟩

theorem eq_end {α : Type} [DecidableEq α] {xs ys : List α} {i : Nat} (hl : xs.length = ys.length) (h : xs.length ≤ i) (he : xs.take i = ys.take i) : decide (xs = ys) = true := by
  rw [List.take_of_length_le h, List.take_of_length_le (by omega)] at he
  exact decide_eq_true he
theorem eq_no {α : Type} [DecidableEq α] {xs ys : List α} {i : Nat} {z : α} (hne : ¬ xs.getD i z = ys.getD i z) : decide (xs = ys) = false :=
  decide_eq_false fun e => hne (by rw [e])
theorem eq_yes {α : Type} {xs ys : List α} {i : Nat} {z : α} (hl : xs.length = ys.length) (h : i < xs.length) (hq : xs.getD i z = ys.getD i z) (he : xs.take i = ys.take i) : xs.take (i + 1) = ys.take (i + 1) := by
  have h2 : i < ys.length := by omega
  rw [List.take_add_one, List.take_add_one, he, List.getElem?_eq_getElem h, List.getElem?_eq_getElem h2]
  rw [List.getD_eq_getElem?_getD, List.getD_eq_getElem?_getD, List.getElem?_eq_getElem h, List.getElem?_eq_getElem h2] at hq
  simp only [Option.getD_some] at hq
  rw [hq]
theorem len_ne {α : Type} [DecidableEq α] {xs ys : List α} (h : ((xs.length : Int) != (ys.length : Int)) = true) : decide (xs = ys) = false :=
  decide_eq_false fun e => by rw [e] at h; simp at h
theorem len_eq {α : Type} {xs ys : List α} (h : ((xs.length : Int) != (ys.length : Int)) = false) : xs.length = ys.length := by
  simp at h; omega
theorem eqWd {a b : Word} : (a.n == b.n && (a.is == b.is && (a.key.base == b.key.base && (a.key.top == b.key.top && (a.key.perms == b.key.perms && a.key.sealed == b.key.sealed))))) = decide (a = b) := by
  obtain ⟨a1, a2, a3, a4, a5, a6⟩ := a
  obtain ⟨b1, b2, b3, b4, b5, b6⟩ := b
  rw [Bool.eq_iff_iff]
  simp
theorem eqStE {s t : State} (h1 : s.regs = t.regs) (h2 : s.pc = t.pc) (h3 : s.mem = t.mem) : (s.trap == t.trap) = decide (s = t) := by
  obtain ⟨a1, a2, a3, a4⟩ := s
  obtain ⟨b1, b2, b3, b4⟩ := t
  dsimp only at h1 h2 h3
  rw [Bool.eq_iff_iff]; simp [h1, h2, h3]
theorem eqSdE {s t : Side} (h1 : s.regs = t.regs) (h2 : s.pc = t.pc) : (s.trap == t.trap) = decide (s = t) := by
  obtain ⟨a1, a2, a4⟩ := s
  obtain ⟨b1, b2, b4⟩ := t
  dsimp only at h1 h2
  rw [Bool.eq_iff_iff]; simp [h1, h2]
theorem eqMm {s t : Mem} (h1 : s.words = t.words) (h2 : s.gone = t.gone) : s = t := by
  obtain ⟨a1, a2⟩ := s
  obtain ⟨b1, b2⟩ := t
  dsimp only at h1 h2
  rw [h1, h2]

def lb_laws_hasInt_0 : PC := .seq (.seq (.reg [.s (.mv 6 (.t 5)), .s (.mv 7 (.t 0)), .s (.len 8 false (.t 7)), .s (.bin 9 .lss (.t 6) (.t 8))]) (.cond (.t 9) (.skip) (.exit 0))) (.seq (.blk 1 (.seq (.reg [.s (.mv 12 (.t 0)), .s (.mv 13 (.t 5)), .s (.ia 14 (.int .i64) (.t 12) (.t 13)), .s (.load 15 false 1 (.t 14)), .s (.mv 16 (.t 1)), .s (.bin 17 .eql (.t 15) (.t 16))]) (.cond (.t 17) (.seq (.reg [.s (.mv 4 (.k (.v (.c .tt))))]) (.ret)) (.skip)))) (.reg [.s (.mv 10 (.t 5)), .s (.bin 11 .add (.t 10) (.k (.v (.c (.int .i64 1))))), .s (.mv 5 (.t 11))]))
def pf_laws_hasInt : PF := ⟨[.t 4], .seq (.reg [.s (.mv 4 (.k (.v (.c .ff))))]) (.seq (.seq (.reg [.s (.mv 5 (.k (.v (.c (.int .i64 0)))))]) (.blk 0 (.loop [0, 1, 5] lb_laws_hasInt_0))) (.seq (.reg [.s (.mv 4 (.k (.v (.c .ff))))]) (.ret)))⟩
def c_laws_hasInt : Fun := ⟨22, [], fun ts K => as2 ts fun t0 t1 => arC (pL (.int .i64)) t0 fun l => arC (pI .i64) t1 fun x => chk (l.length ≤ 2147483647) (K (tB (l.any (fun v => v == x))) [])⟩
theorem run_laws_hasInt (l : List (FT.Ty (.int .i64))) (x : Int) (hpre : l.length ≤ 2147483647) : runK [] (l.length + 1) [] pf_laws_hasInt [tL false (.int .i64) l, tI .i64 x] fun r o => r = tB (l.any (fun v => v == x)) ∧ o = [] := by
  conv => whnf
  refine loop (α := Nat) (fun i => ⟨[(0, .v (.c (.sl false (.int .i64) 0))), (1, .v (.c (.int .i64 x))), (5, .v (.c (.int .i64 (i : Int))))], [(0, some (.flat false (.int .i64) none l))], nums.tail, [], false, []⟩)
      (fun i => i ≤ l.length ∧ (l.drop i).any (fun v => v == x) = l.any (fun v => v == x)) (fun i => l.length - i) (fun i R hI hR => ?_) 0 _ ⟨by simp, by simp⟩ (by omega)
  obtain ⟨hi, hx⟩ := hI
  conv => whnf
  repeat' (first | (refine sel_i (fun h => ?_) (fun h => ?_) <;> conv => whnf) | (refine chk_c ?_ ?_ <;> conv => whnf) | (refine And.intro ?_ rfl) | (refine And.intro ?_ ?_ <;> conv => whnf))
  all_goals (try simp only [Int.toNat_natCast, decide_eq_true_eq, decide_eq_false_iff_not] at *)
  all_goals first
    | (refine ⟨?_⟩; omega)
    | (rw [any_yes (z := FT.zero (.int .i64)) (by omega) (by assumption) hx]; done)
    | (rw [any_end (by omega) hx]; done)
    | (rw [wrap_id (n := (i : Int) + 1) (by omega) (by omega)]; exact hR (i + 1) ⟨by omega, any_no (z := FT.zero (.int .i64)) (by omega) (by assumption) hx⟩ (by omega))
    | trace_state
theorem ok_laws_hasInt : FunOk Tryz.prog c_laws_hasInt := funOk (E := []) (envOk_nil) mixd Tryz.func22 (pf := pf_laws_hasInt) (by kernel_rfl) fun ts K h => by
  obtain ⟨t0, t1, e0, h⟩ := as2_out h
  subst e0
  obtain ⟨l, e1, hq⟩ := arC_out (rd_l (.int .i64)) h
  clear h
  subst e1
  have h := hq
  clear hq
  obtain ⟨x, e1, hq⟩ := arC_out (rd_int .i64) h
  clear h
  subst e1
  have h := hq
  clear hq
  obtain ⟨hpre, h⟩ := chk_o h
  exact ⟨_, _, h, Nat.le_of_ble_eq_true (show Nat.ble 2 Tryz.f22.ntmps = true by kernel_rfl), _, run_laws_hasInt l x hpre⟩

def lb_laws_allIn_0 : PC := .seq (.seq (.reg [.s (.mv 6 (.t 5)), .s (.mv 7 (.t 0)), .s (.len 8 false (.t 7)), .s (.bin 9 .lss (.t 6) (.t 8))]) (.cond (.t 9) (.skip) (.exit 0))) (.seq (.blk 1 (.seq (.reg [.s (.mv 12 (.t 1)), .s (.mv 13 (.t 0)), .s (.mv 14 (.t 5)), .s (.ia 15 (.int .i64) (.t 13) (.t 14)), .s (.load 16 false 1 (.t 15)), .s (.call (some 17) 22 [(.t 12), (.t 16)]), .s (.bnot 18 (.t 17))]) (.cond (.t 18) (.seq (.reg [.s (.mv 4 (.k (.v (.c .ff))))]) (.ret)) (.skip)))) (.reg [.s (.mv 10 (.t 5)), .s (.bin 11 .add (.t 10) (.k (.v (.c (.int .i64 1))))), .s (.mv 5 (.t 11))]))
def pf_laws_allIn : PF := ⟨[.t 4], .seq (.reg [.s (.mv 4 (.k (.v (.c .ff))))]) (.seq (.seq (.reg [.s (.mv 5 (.k (.v (.c (.int .i64 0)))))]) (.blk 0 (.loop [0, 1, 5] lb_laws_allIn_0))) (.seq (.reg [.s (.mv 4 (.k (.v (.c .tt))))]) (.ret)))⟩
def c_laws_allIn : Fun := ⟨18, [], fun ts K => as2 ts fun t0 t1 => arC (pL (.int .i64)) t0 fun a => arC (pL (.int .i64)) t1 fun b => chk (a.length ≤ 2147483647 ∧ b.length ≤ 2147483647) (K (tB (a.all (fun x => b.any (fun v => v == x)))) [])⟩
theorem run_laws_allIn (a : List (FT.Ty (.int .i64))) (b : List (FT.Ty (.int .i64))) (hpre : a.length ≤ 2147483647 ∧ b.length ≤ 2147483647) : runK [c_laws_hasInt] (a.length + 1) [] pf_laws_allIn [tL false (.int .i64) a, tL false (.int .i64) b] fun r o => r = tB (a.all (fun x => b.any (fun v => v == x))) ∧ o = [] := by
  obtain ⟨l1, l2⟩ := hpre
  conv => whnf
  refine loop (α := Nat) (fun i => ⟨[(0, .v (.c (.sl false (.int .i64) 0))), (1, .v (.c (.sl false (.int .i64) 1))), (5, .v (.c (.int .i64 (i : Int))))], [(1, some (.flat false (.int .i64) none b)), (0, some (.flat false (.int .i64) none a))], nums.tail.tail, [], false, []⟩)
      (fun i => i ≤ a.length ∧ (a.drop i).all (fun x => b.any (fun v => v == x)) = a.all (fun x => b.any (fun v => v == x))) (fun i => a.length - i) (fun i R hI hR => ?_) 0 _ ⟨by simp, by simp⟩ (by omega)
  obtain ⟨hi, hx⟩ := hI
  conv => whnf
  repeat' (first | (refine sel_i (fun h => ?_) (fun h => ?_) <;> conv => whnf) | (refine chk_c ?_ ?_ <;> conv => whnf) | (refine And.intro ?_ rfl) | (refine And.intro ?_ ?_ <;> conv => whnf))
  all_goals (try simp only [Int.toNat_natCast, Bool.not_eq_true', Bool.not_eq_false', decide_eq_true_eq, decide_eq_false_iff_not] at *)
  all_goals first
    | (refine ⟨?_⟩; omega)
    | (refine ⟨?_⟩; exact l2)
    | (rw [all_no (z := FT.zero (.int .i64)) (by omega) (by assumption) hx]; done)
    | (rw [all_end (by omega) hx]; done)
    | (rw [wrap_id (n := (i : Int) + 1) (by omega) (by omega)]; exact hR (i + 1) ⟨by omega, all_yes (z := FT.zero (.int .i64)) (by omega) (by assumption) hx⟩ (by omega))
    | trace_state
theorem ok_laws_allIn : FunOk Tryz.prog c_laws_allIn := funOk (E := [c_laws_hasInt]) (envOk_cons ok_laws_hasInt (envOk_nil)) mixd Tryz.func18 (pf := pf_laws_allIn) (by kernel_rfl) fun ts K h => by
  obtain ⟨t0, t1, e0, h⟩ := as2_out h
  subst e0
  obtain ⟨a, e1, hq⟩ := arC_out (rd_l (.int .i64)) h
  clear h
  subst e1
  have h := hq
  clear hq
  obtain ⟨b, e1, hq⟩ := arC_out (rd_l (.int .i64)) h
  clear h
  subst e1
  have h := hq
  clear hq
  obtain ⟨hpre, h⟩ := chk_o h
  exact ⟨_, _, h, Nat.le_of_ble_eq_true (show Nat.ble 2 Tryz.f18.ntmps = true by kernel_rfl), _, run_laws_allIn a b hpre⟩

def lb_slices_Equal_Word_0 : PC := .seq (.reg [.s (.bin 14 .lss (.t 13) (.t 12))]) (.seq (.cond (.t 14) (.skip) (.exit 0)) (.seq (.blk 1 (.seq (.reg [.s (.mv 15 (.t 13)), .s (.mv 5 (.t 15))]) (.seq (.rgd [] [.s (.mv 16 (.t 0)), .s (.mv 17 (.t 5)), .s (.ia 18 .word (.t 16) (.t 17)), .s (.load 19 true 6 (.t 18)), .s (.mv 20 (.t 1)), .s (.mv 21 (.t 5)), .s (.ia 22 .word (.t 20) (.t 21)), .s (.load 23 true 6 (.t 22)), .s (.eqs 24 true [.i, .b, .i, .i, .i, .i] true (.t 19) (.t 23))] (.tk 0 (.tk 1 (.tk 2 (.tk 3 (.tk 4 (.tk 5 (.tk 6 (.tk 7 (.tk 8 (.done none))))))))))) (.cond (.t 24) (.seq (.reg [.s (.mv 4 (.k (.v (.c .ff))))]) (.ret)) (.skip))))) (.reg [.s (.bin 25 .add (.t 13) (.k (.v (.c (.int .i64 1))))), .s (.mv 13 (.t 25))])))
def pf_slices_Equal_Word : PF := ⟨[.t 4], .seq (.reg [.s (.mv 4 (.k (.v (.c .ff))))]) (.seq (.seq (.reg [.s (.mv 6 (.t 0)), .s (.len 7 false (.t 6)), .s (.mv 8 (.t 1)), .s (.len 9 false (.t 8)), .s (.bin 10 .neq (.t 7) (.t 9))]) (.cond (.t 10) (.seq (.reg [.s (.mv 4 (.k (.v (.c .ff))))]) (.ret)) (.skip))) (.seq (.seq (.reg [.s (.mv 11 (.t 0)), .s (.len 12 false (.t 11)), .s (.mv 13 (.k (.v (.c (.int .i64 0)))))]) (.blk 0 (.loop [0, 1, 12, 13] lb_slices_Equal_Word_0))) (.seq (.reg [.s (.mv 4 (.k (.v (.c .tt))))]) (.ret))))⟩
def c_slices_Equal_Word : Fun := ⟨86, [], fun ts K => as2 ts fun t0 t1 => arC (pL .word) t0 fun a => arC (pL .word) t1 fun b => chk (a.length ≤ 2147483647 ∧ b.length ≤ 2147483647) (K (tB (decide (a = b))) [])⟩
theorem run_slices_Equal_Word (a : List (FT.Ty .word)) (b : List (FT.Ty .word)) (hpre : a.length ≤ 2147483647 ∧ b.length ≤ 2147483647) : runK [] (a.length + 1) [] pf_slices_Equal_Word [tL false .word a, tL false .word b] fun r o => r = tB (decide (a = b)) ∧ o = [] := by
  obtain ⟨l1, l2⟩ := hpre
  conv => whnf
  refine sel_i (fun h => ?_) (fun h => ?_) <;> conv => whnf
  · rw [len_ne h]; exact ⟨rfl, rfl⟩
  have hl := len_eq h
  clear h
  refine loop (α := Nat) (fun i => ⟨[(0, .v (.c (.sl false .word 0))), (1, .v (.c (.sl false .word 1))), (12, .v (.c (.int .i64 (a.length : Int)))), (13, .v (.c (.int .i64 (i : Int))))], [(1, some (.flat false .word none b)), (0, some (.flat false .word none a))], nums.tail.tail, [], false, []⟩)
      (fun i => i ≤ a.length ∧ a.take i = b.take i) (fun i => a.length - i) (fun i R hI hR => ?_) 0 _ ⟨by simp, by simp⟩ (by omega)
  obtain ⟨hi, hx⟩ := hI
  conv => whnf
  repeat' (first | (refine sel_i (fun h => ?_) (fun h => ?_) <;> conv => whnf) | (refine chk_c ?_ ?_ <;> conv => whnf) | (refine And.intro ?_ rfl) | (refine And.intro ?_ ?_ <;> conv => whnf))
  all_goals (try simp only [eqWd, etaKey, etaWord, Int.toNat_natCast, Bool.not_eq_true', Bool.not_eq_false', decide_eq_true_eq, decide_eq_false_iff_not] at *)
  all_goals first
    | (refine ⟨?_⟩; omega)
    | (rw [eq_no (z := FT.zero .word) (by assumption)]; done)
    | (rw [eq_end hl (by omega) hx]; done)
    | (rw [wrap_id (n := (i : Int) + 1) (by omega) (by omega)]; exact hR (i + 1) ⟨by omega, eq_yes (z := FT.zero .word) hl (by omega) (by assumption) hx⟩ (by omega))
    | trace_state
theorem ok_slices_Equal_Word : FunOk Tryz.prog c_slices_Equal_Word := funOk (E := []) (envOk_nil) mixd Tryz.func86 (pf := pf_slices_Equal_Word) (by kernel_rfl) fun ts K h => by
  obtain ⟨t0, t1, e0, h⟩ := as2_out h
  subst e0
  obtain ⟨a, e1, hq⟩ := arC_out (rd_l .word) h
  clear h
  subst e1
  have h := hq
  clear hq
  obtain ⟨b, e1, hq⟩ := arC_out (rd_l .word) h
  clear h
  subst e1
  have h := hq
  clear hq
  obtain ⟨hpre, h⟩ := chk_o h
  exact ⟨_, _, h, Nat.le_of_ble_eq_true (show Nat.ble 2 Tryz.f86.ntmps = true by kernel_rfl), _, run_slices_Equal_Word a b hpre⟩

def lb_slices_Equal_bool_0 : PC := .seq (.reg [.s (.bin 14 .lss (.t 13) (.t 12))]) (.seq (.cond (.t 14) (.skip) (.exit 0)) (.seq (.blk 1 (.seq (.reg [.s (.mv 15 (.t 13)), .s (.mv 5 (.t 15))]) (.seq (.rgd [] [.s (.mv 16 (.t 0)), .s (.mv 17 (.t 5)), .s (.ia 18 .bool (.t 16) (.t 17)), .s (.load 19 false 1 (.t 18)), .s (.mv 20 (.t 1)), .s (.mv 21 (.t 5)), .s (.ia 22 .bool (.t 20) (.t 21)), .s (.load 23 false 1 (.t 22)), .s (.eqs 24 false [.b] true (.t 19) (.t 23))] (.tk 0 (.tk 1 (.tk 2 (.tk 3 (.tk 4 (.tk 5 (.tk 6 (.tk 7 (.tk 8 (.done none))))))))))) (.cond (.t 24) (.seq (.reg [.s (.mv 4 (.k (.v (.c .ff))))]) (.ret)) (.skip))))) (.reg [.s (.bin 25 .add (.t 13) (.k (.v (.c (.int .i64 1))))), .s (.mv 13 (.t 25))])))
def pf_slices_Equal_bool : PF := ⟨[.t 4], .seq (.reg [.s (.mv 4 (.k (.v (.c .ff))))]) (.seq (.seq (.reg [.s (.mv 6 (.t 0)), .s (.len 7 false (.t 6)), .s (.mv 8 (.t 1)), .s (.len 9 false (.t 8)), .s (.bin 10 .neq (.t 7) (.t 9))]) (.cond (.t 10) (.seq (.reg [.s (.mv 4 (.k (.v (.c .ff))))]) (.ret)) (.skip))) (.seq (.seq (.reg [.s (.mv 11 (.t 0)), .s (.len 12 false (.t 11)), .s (.mv 13 (.k (.v (.c (.int .i64 0)))))]) (.blk 0 (.loop [0, 1, 12, 13] lb_slices_Equal_bool_0))) (.seq (.reg [.s (.mv 4 (.k (.v (.c .tt))))]) (.ret))))⟩
def c_slices_Equal_bool : Fun := ⟨87, [], fun ts K => as2 ts fun t0 t1 => arC (pL .bool) t0 fun a => arC (pL .bool) t1 fun b => chk (a.length ≤ 2147483647 ∧ b.length ≤ 2147483647) (K (tB (decide (a = b))) [])⟩
theorem run_slices_Equal_bool (a : List (FT.Ty .bool)) (b : List (FT.Ty .bool)) (hpre : a.length ≤ 2147483647 ∧ b.length ≤ 2147483647) : runK [] (a.length + 1) [] pf_slices_Equal_bool [tL false .bool a, tL false .bool b] fun r o => r = tB (decide (a = b)) ∧ o = [] := by
  obtain ⟨l1, l2⟩ := hpre
  conv => whnf
  refine sel_i (fun h => ?_) (fun h => ?_) <;> conv => whnf
  · rw [len_ne h]; exact ⟨rfl, rfl⟩
  have hl := len_eq h
  clear h
  refine loop (α := Nat) (fun i => ⟨[(0, .v (.c (.sl false .bool 0))), (1, .v (.c (.sl false .bool 1))), (12, .v (.c (.int .i64 (a.length : Int)))), (13, .v (.c (.int .i64 (i : Int))))], [(1, some (.flat false .bool none b)), (0, some (.flat false .bool none a))], nums.tail.tail, [], false, []⟩)
      (fun i => i ≤ a.length ∧ a.take i = b.take i) (fun i => a.length - i) (fun i R hI hR => ?_) 0 _ ⟨by simp, by simp⟩ (by omega)
  obtain ⟨hi, hx⟩ := hI
  conv => whnf
  repeat' (first | (refine sel_i (fun h => ?_) (fun h => ?_) <;> conv => whnf) | (refine chk_c ?_ ?_ <;> conv => whnf) | (refine And.intro ?_ rfl) | (refine And.intro ?_ ?_ <;> conv => whnf))
  all_goals (try simp only [Int.toNat_natCast, Bool.not_eq_true', Bool.not_eq_false', decide_eq_true_eq, decide_eq_false_iff_not] at *)
  all_goals first
    | (refine ⟨?_⟩; omega)
    | (rw [eq_no (z := FT.zero .bool) (i := i) (by simpa using h)]; done)
    | (rw [eq_end hl (by omega) hx]; done)
    | (rw [wrap_id (n := (i : Int) + 1) (by omega) (by omega)]; exact hR (i + 1) ⟨by omega, eq_yes (z := FT.zero .bool) hl (by omega) (by simpa using h) hx⟩ (by omega))
    | trace_state
theorem ok_slices_Equal_bool : FunOk Tryz.prog c_slices_Equal_bool := funOk (E := []) (envOk_nil) mixd Tryz.func87 (pf := pf_slices_Equal_bool) (by kernel_rfl) fun ts K h => by
  obtain ⟨t0, t1, e0, h⟩ := as2_out h
  subst e0
  obtain ⟨a, e1, hq⟩ := arC_out (rd_l .bool) h
  clear h
  subst e1
  have h := hq
  clear hq
  obtain ⟨b, e1, hq⟩ := arC_out (rd_l .bool) h
  clear h
  subst e1
  have h := hq
  clear hq
  obtain ⟨hpre, h⟩ := chk_o h
  exact ⟨_, _, h, Nat.le_of_ble_eq_true (show Nat.ble 2 Tryz.f87.ntmps = true by kernel_rfl), _, run_slices_Equal_bool a b hpre⟩

def pf_impl_Alike : PF := ⟨[.t 4], .seq (.reg [.s (.box 2 (.t 0)), .s (.box 3 (.t 1)), .s (.mv 4 (.k (.v (.c .ff))))]) (.seq (.reg [.s (.fa 5 (.t 2) 0), .s (.load 6 false 1 (.t 5)), .s (.fa 7 (.t 3) 0), .s (.load 8 false 1 (.t 7)), .s (.call (some 9) 86 [(.t 6), (.t 8)]), .s (.mv 10 (.t 9)), .g 10 true (some 11) (.fa 11 (.t 2) 1), .g 10 true (some 12) (.load 12 true 6 (.t 11)), .g 10 true (some 13) (.fa 13 (.t 3) 1), .g 10 true (some 14) (.load 14 true 6 (.t 13)), .g 10 true (some 15) (.eqs 15 true [.i, .b, .i, .i, .i, .i] false (.t 12) (.t 14)), .s (.pick 16 (.t 10) (.t 15) (.k (.v (.c .ff)))), .s (.mv 17 (.t 16)), .g 17 true (some 18) (.fa 18 (.t 2) 7), .g 17 true (some 19) (.fa 19 (.t 18) 0), .g 17 true (some 20) (.load 20 false 1 (.t 19)), .g 17 true (some 21) (.fa 21 (.t 3) 7), .g 17 true (some 22) (.fa 22 (.t 21) 0), .g 17 true (some 23) (.load 23 false 1 (.t 22)), .g 17 true (some 24) (.call (some 24) 86 [(.t 20), (.t 23)]), .s (.pick 25 (.t 17) (.t 24) (.k (.v (.c .ff)))), .s (.mv 26 (.t 25)), .g 26 true (some 27) (.fa 27 (.t 2) 7), .g 26 true (some 28) (.fa 28 (.t 27) 1), .g 26 true (some 29) (.load 29 false 1 (.t 28)), .g 26 true (some 30) (.fa 30 (.t 3) 7), .g 26 true (some 31) (.fa 31 (.t 30) 1), .g 26 true (some 32) (.load 32 false 1 (.t 31)), .g 26 true (some 33) (.call (some 33) 87 [(.t 29), (.t 32)]), .s (.pick 34 (.t 26) (.t 33) (.k (.v (.c .ff)))), .s (.mv 35 (.t 34)), .g 35 true (some 36) (.fa 36 (.t 2) 9), .g 35 true (some 37) (.load 37 false 1 (.t 36)), .g 35 true (some 38) (.fa 38 (.t 3) 9), .g 35 true (some 39) (.load 39 false 1 (.t 38)), .g 35 true (some 40) (.bin 40 .eql (.t 37) (.t 39)), .s (.pick 41 (.t 35) (.t 40) (.k (.v (.c .ff)))), .s (.mv 4 (.t 41))]) (.ret))⟩
def c_impl_Alike : Fun := ⟨21, [], fun ts K => as2 ts fun t0 t1 => arG pStateT t0 fun s => arG pStateT t1 fun t => chk (LState s 2147483647 ∧ LState t 2147483647) (K (tB (decide (s = t))) [])⟩
theorem run_impl_Alike (s : State) (t : State) (hpre : LState s 2147483647 ∧ LState t 2147483647) : runK [c_slices_Equal_Word, c_slices_Equal_bool] (0) [] pf_impl_Alike [tG (s.tc false []), tG (t.tc false [])] fun r o => r = tB (decide (s = t)) ∧ o = [] := by
  obtain ⟨⟨l1, l2, l3⟩, l4, l5, l6⟩ := hpre
  conv => whnf
  repeat' (first | (refine sel_i (fun h => ?_) (fun h => ?_) <;> conv => whnf) | (refine chk_c ?_ ?_ <;> conv => whnf) | (refine And.intro ?_ rfl) | (refine And.intro ?_ ?_ <;> conv => whnf))
  all_goals (try simp only [eqWd, etaKey, etaWord, etaMemory, etaState, decide_eq_true_eq, decide_eq_false_iff_not] at *)
  all_goals first
    | (refine ⟨?_⟩; exact ⟨by assumption, by assumption⟩)
    | (rw [eqStE (by assumption) (by assumption) (eqMm (by assumption) (by assumption))]; done)
    | (obtain ⟨s1, ⟨s2, s3, ⟨s4, s5, s6, s7⟩⟩, ⟨s8, s9⟩, s10⟩ := s; obtain ⟨t1, ⟨t2, t3, ⟨t4, t5, t6, t7⟩⟩, ⟨t8, t9⟩, t10⟩ := t; simp_all; done)
    | trace_state
theorem ok_impl_Alike : FunOk Tryz.prog c_impl_Alike := funOk (E := [c_slices_Equal_Word, c_slices_Equal_bool]) (envOk_cons ok_slices_Equal_Word (envOk_cons ok_slices_Equal_bool (envOk_nil))) mixd Tryz.func21 (pf := pf_impl_Alike) (by kernel_rfl) fun ts K h => by
  obtain ⟨t0, t1, e0, h⟩ := as2_out h
  subst e0
  obtain ⟨s, e1, hq⟩ := arG_out rd_state h
  clear h
  subst e1
  have h := hq
  clear hq
  obtain ⟨t, e1, hq⟩ := arG_out rd_state h
  clear h
  subst e1
  have h := hq
  clear hq
  obtain ⟨hpre, h⟩ := chk_o h
  exact ⟨_, _, h, Nat.le_of_ble_eq_true (show Nat.ble 2 Tryz.f21.ntmps = true by kernel_rfl), _, run_impl_Alike s t hpre⟩

def lb_laws_sameWords_0 : PC := .seq (.seq (.reg [.s (.mv 11 (.t 5)), .s (.mv 12 (.t 0)), .s (.len 13 false (.t 12)), .s (.bin 14 .lss (.t 11) (.t 13))]) (.cond (.t 14) (.skip) (.exit 0))) (.seq (.blk 1 (.seq (.rgd [] [.s (.mv 17 (.t 0)), .s (.mv 18 (.t 5)), .s (.ia 19 .word (.t 17) (.t 18)), .s (.load 20 true 6 (.t 19)), .s (.mv 21 (.t 1)), .s (.mv 22 (.t 5)), .s (.ia 23 .word (.t 21) (.t 22)), .s (.load 24 true 6 (.t 23)), .s (.eqs 25 true [.i, .b, .i, .i, .i, .i] true (.t 20) (.t 24))] (.tk 0 (.tk 1 (.tk 2 (.tk 3 (.tk 4 (.tk 5 (.tk 6 (.tk 7 (.tk 8 (.done none))))))))))) (.cond (.t 25) (.seq (.reg [.s (.mv 4 (.k (.v (.c .ff))))]) (.ret)) (.skip)))) (.reg [.s (.mv 15 (.t 5)), .s (.bin 16 .add (.t 15) (.k (.v (.c (.int .i64 1))))), .s (.mv 5 (.t 16))]))
def pf_laws_sameWords : PF := ⟨[.t 4], .seq (.reg [.s (.mv 4 (.k (.v (.c .ff))))]) (.seq (.seq (.reg [.s (.mv 6 (.t 0)), .s (.len 7 false (.t 6)), .s (.mv 8 (.t 1)), .s (.len 9 false (.t 8)), .s (.bin 10 .neq (.t 7) (.t 9))]) (.cond (.t 10) (.seq (.reg [.s (.mv 4 (.k (.v (.c .ff))))]) (.ret)) (.skip))) (.seq (.seq (.reg [.s (.mv 5 (.k (.v (.c (.int .i64 0)))))]) (.blk 0 (.loop [0, 1, 5] lb_laws_sameWords_0))) (.seq (.reg [.s (.mv 4 (.k (.v (.c .tt))))]) (.ret))))⟩
def c_laws_sameWords : Fun := ⟨51, [], fun ts K => as2 ts fun t0 t1 => arC (pL .word) t0 fun a => arC (pL .word) t1 fun b => chk (a.length ≤ 2147483647 ∧ b.length ≤ 2147483647) (K (tB (decide (a = b))) [])⟩
theorem run_laws_sameWords (a : List (FT.Ty .word)) (b : List (FT.Ty .word)) (hpre : a.length ≤ 2147483647 ∧ b.length ≤ 2147483647) : runK [] (a.length + 1) [] pf_laws_sameWords [tL false .word a, tL false .word b] fun r o => r = tB (decide (a = b)) ∧ o = [] := by
  obtain ⟨l1, l2⟩ := hpre
  conv => whnf
  refine sel_i (fun h => ?_) (fun h => ?_) <;> conv => whnf
  · rw [len_ne h]; exact ⟨rfl, rfl⟩
  have hl := len_eq h
  clear h
  refine loop (α := Nat) (fun i => ⟨[(0, .v (.c (.sl false .word 0))), (1, .v (.c (.sl false .word 1))), (5, .v (.c (.int .i64 (i : Int))))], [(1, some (.flat false .word none b)), (0, some (.flat false .word none a))], nums.tail.tail, [], false, []⟩)
      (fun i => i ≤ a.length ∧ a.take i = b.take i) (fun i => a.length - i) (fun i R hI hR => ?_) 0 _ ⟨by simp, by simp⟩ (by omega)
  obtain ⟨hi, hx⟩ := hI
  conv => whnf
  repeat' (first | (refine sel_i (fun h => ?_) (fun h => ?_) <;> conv => whnf) | (refine chk_c ?_ ?_ <;> conv => whnf) | (refine And.intro ?_ rfl) | (refine And.intro ?_ ?_ <;> conv => whnf))
  all_goals (try simp only [eqWd, etaKey, etaWord, Int.toNat_natCast, Bool.not_eq_true', Bool.not_eq_false', decide_eq_true_eq, decide_eq_false_iff_not] at *)
  all_goals first
    | (refine ⟨?_⟩; omega)
    | (rw [eq_no (z := FT.zero .word) (by assumption)]; done)
    | (rw [eq_end hl (by omega) hx]; done)
    | (rw [wrap_id (n := (i : Int) + 1) (by omega) (by omega)]; exact hR (i + 1) ⟨by omega, eq_yes (z := FT.zero .word) hl (by omega) (by assumption) hx⟩ (by omega))
    | trace_state
theorem ok_laws_sameWords : FunOk Tryz.prog c_laws_sameWords := funOk (E := []) (envOk_nil) mixd Tryz.func51 (pf := pf_laws_sameWords) (by kernel_rfl) fun ts K h => by
  obtain ⟨t0, t1, e0, h⟩ := as2_out h
  subst e0
  obtain ⟨a, e1, hq⟩ := arC_out (rd_l .word) h
  clear h
  subst e1
  have h := hq
  clear hq
  obtain ⟨b, e1, hq⟩ := arC_out (rd_l .word) h
  clear h
  subst e1
  have h := hq
  clear hq
  obtain ⟨hpre, h⟩ := chk_o h
  exact ⟨_, _, h, Nat.le_of_ble_eq_true (show Nat.ble 2 Tryz.f51.ntmps = true by kernel_rfl), _, run_laws_sameWords a b hpre⟩

def lb_laws_sameMem_0 : PC := .seq (.seq (.reg [.s (.mv 21 (.t 5)), .s (.fa 22 (.t 2) 1), .s (.load 23 false 1 (.t 22)), .s (.len 24 false (.t 23)), .s (.bin 25 .lss (.t 21) (.t 24))]) (.cond (.t 25) (.skip) (.exit 0))) (.seq (.blk 1 (.seq (.rgd [] [.s (.fa 28 (.t 2) 1), .s (.load 29 false 1 (.t 28)), .s (.mv 30 (.t 5)), .s (.ia 31 .bool (.t 29) (.t 30)), .s (.load 32 false 1 (.t 31)), .s (.fa 33 (.t 3) 1), .s (.load 34 false 1 (.t 33)), .s (.mv 35 (.t 5)), .s (.ia 36 .bool (.t 34) (.t 35)), .s (.load 37 false 1 (.t 36)), .s (.eqs 38 false [.b] true (.t 32) (.t 37))] (.tk 0 (.tk 1 (.tk 2 (.tk 3 (.tk 4 (.tk 5 (.tk 6 (.tk 7 (.tk 8 (.tk 9 (.tk 10 (.done none))))))))))))) (.cond (.t 38) (.seq (.reg [.s (.mv 4 (.k (.v (.c .ff))))]) (.ret)) (.skip)))) (.reg [.s (.mv 26 (.t 5)), .s (.bin 27 .add (.t 26) (.k (.v (.c (.int .i64 1))))), .s (.mv 5 (.t 27))]))
def pf_laws_sameMem : PF := ⟨[.t 4], .seq (.reg [.s (.box 2 (.t 0)), .s (.box 3 (.t 1)), .s (.mv 4 (.k (.v (.c .ff))))]) (.seq (.seq (.reg [.s (.fa 6 (.t 2) 0), .s (.load 7 false 1 (.t 6)), .s (.fa 8 (.t 3) 0), .s (.load 9 false 1 (.t 8)), .s (.call (some 10) 51 [(.t 7), (.t 9)]), .s (.bnot 11 (.t 10)), .s (.mv 12 (.t 11)), .g 12 false (some 13) (.fa 13 (.t 2) 1), .g 12 false (some 14) (.load 14 false 1 (.t 13)), .g 12 false (some 15) (.len 15 false (.t 14)), .g 12 false (some 16) (.fa 16 (.t 3) 1), .g 12 false (some 17) (.load 17 false 1 (.t 16)), .g 12 false (some 18) (.len 18 false (.t 17)), .g 12 false (some 19) (.bin 19 .neq (.t 15) (.t 18)), .s (.pick 20 (.t 12) (.k (.v (.c .tt))) (.t 19))]) (.cond (.t 20) (.seq (.reg [.s (.mv 4 (.k (.v (.c .ff))))]) (.ret)) (.skip))) (.seq (.seq (.reg [.s (.mv 5 (.k (.v (.c (.int .i64 0)))))]) (.blk 0 (.loop [2, 3, 5] lb_laws_sameMem_0))) (.seq (.reg [.s (.mv 4 (.k (.v (.c .tt))))]) (.ret))))⟩
def c_laws_sameMem : Fun := ⟨104, [], fun ts K => as2 ts fun t0 t1 => arG pMemT t0 fun a => arG pMemT t1 fun b => chk (LMem a 2147483647 ∧ LMem b 2147483647) (K (tB (decide (a = b))) [])⟩
theorem run_laws_sameMem (a : Mem) (b : Mem) (hpre : LMem a 2147483647 ∧ LMem b 2147483647) : runK [c_laws_sameWords] (a.gone.length + 1) [] pf_laws_sameMem [tG (a.tc false []), tG (b.tc false [])] fun r o => r = tB (decide (a = b)) ∧ o = [] := by
  obtain ⟨⟨l1, l2⟩, l3, l4⟩ := hpre
  obtain ⟨a1, a2⟩ := a
  obtain ⟨b1, b2⟩ := b
  dsimp only at l1 l2 l3 l4
  conv => whnf
  refine chk_i ⟨l1, l3⟩ ?_
  conv => whnf
  refine sel_i (fun h => ?_) (fun h => ?_) <;> conv => whnf
  · refine ⟨?_, rfl⟩; simp at h; simp [h]
  refine sel_i (fun h2 => ?_) (fun h2 => ?_) <;> conv => whnf
  · refine ⟨?_, rfl⟩; have := of_decide_eq_false (len_ne h2); simp [this]
  have hl := len_eq h2
  have hw : a1 = b1 := by simpa using h
  subst hw
  clear h h2
  refine loop (α := Nat) (fun i => ⟨[(2, .v (.c (.ptr 0 0))), (3, .v (.c (.ptr 3 0))), (5, .v (.c (.int .i64 (i : Int))))],
        [(5, some (.flat false .bool none b2)), (4, some (.flat false .word none a1)), (3, some (.box true [.sl false .word 4, .sl false .bool 5])),
          (2, some (.flat false .bool none a2)), (1, some (.flat false .word none a1)), (0, some (.box true [.sl false .word 1, .sl false .bool 2]))], nums.tail.tail.tail.tail.tail.tail, [], false, []⟩)
      (fun i => i ≤ a2.length ∧ a2.take i = b2.take i) (fun i => a2.length - i) (fun i R hI hR => ?_) 0 _ ⟨by simp, by simp⟩ (by show a2.length - 0 < a2.length + 1; omega)
  obtain ⟨hi, hx⟩ := hI
  conv => whnf
  repeat' (first | (refine sel_i (fun h => ?_) (fun h => ?_) <;> conv => whnf) | (refine chk_c ?_ ?_ <;> conv => whnf) | (refine And.intro ?_ rfl) | (refine And.intro ?_ ?_ <;> conv => whnf))
  all_goals (try simp only [Int.toNat_natCast, Bool.not_eq_true', Bool.not_eq_false', decide_eq_true_eq, decide_eq_false_iff_not] at *)
  all_goals first
    | (refine ⟨?_⟩; omega)
    | (have e := of_decide_eq_false (eq_no (xs := a2) (ys := b2) (z := FT.zero .bool) (i := i) (by simpa using h)); simp [e]; done)
    | (have e := of_decide_eq_true (eq_end hl (by omega) hx); simp [e]; done)
    | (rw [wrap_id (n := (i : Int) + 1) (by omega) (by omega)]; exact hR (i + 1) ⟨by omega, eq_yes (z := FT.zero .bool) hl (by omega) (by simpa using h) hx⟩ (by omega))
    | trace_state
theorem ok_laws_sameMem : FunOk Tryz.prog c_laws_sameMem := funOk (E := [c_laws_sameWords]) (envOk_cons ok_laws_sameWords (envOk_nil)) mixd Tryz.func104 (pf := pf_laws_sameMem) (by kernel_rfl) fun ts K h => by
  obtain ⟨t0, t1, e0, h⟩ := as2_out h
  subst e0
  obtain ⟨a, e1, hq⟩ := arG_out rd_mem h
  clear h
  subst e1
  have h := hq
  clear hq
  obtain ⟨b, e1, hq⟩ := arG_out rd_mem h
  clear h
  subst e1
  have h := hq
  clear hq
  obtain ⟨hpre, h⟩ := chk_o h
  exact ⟨_, _, h, Nat.le_of_ble_eq_true (show Nat.ble 2 Tryz.f104.ntmps = true by kernel_rfl), _, run_laws_sameMem a b hpre⟩

def pf_laws_sameState : PF := ⟨[.t 4], .seq (.reg [.s (.box 2 (.t 0)), .s (.box 3 (.t 1)), .s (.mv 4 (.k (.v (.c .ff))))]) (.seq (.reg [.s (.fa 5 (.t 2) 0), .s (.load 6 false 1 (.t 5)), .s (.fa 7 (.t 3) 0), .s (.load 8 false 1 (.t 7)), .s (.call (some 9) 51 [(.t 6), (.t 8)]), .s (.mv 10 (.t 9)), .g 10 true (some 11) (.fa 11 (.t 2) 1), .g 10 true (some 12) (.load 12 true 6 (.t 11)), .g 10 true (some 13) (.fa 13 (.t 3) 1), .g 10 true (some 14) (.load 14 true 6 (.t 13)), .g 10 true (some 15) (.eqs 15 true [.i, .b, .i, .i, .i, .i] false (.t 12) (.t 14)), .s (.pick 16 (.t 10) (.t 15) (.k (.v (.c .ff)))), .s (.mv 17 (.t 16)), .g 17 true (some 18) (.fa 18 (.t 2) 7), .g 17 true (some 19) (.load 19 true 2 (.t 18)), .g 17 true (some 20) (.fa 20 (.t 3) 7), .g 17 true (some 21) (.load 21 true 2 (.t 20)), .g 17 true (some 22) (.call (some 22) 104 [(.t 19), (.t 21)]), .s (.pick 23 (.t 17) (.t 22) (.k (.v (.c .ff)))), .s (.mv 24 (.t 23)), .g 24 true (some 25) (.fa 25 (.t 2) 9), .g 24 true (some 26) (.load 26 false 1 (.t 25)), .g 24 true (some 27) (.fa 27 (.t 3) 9), .g 24 true (some 28) (.load 28 false 1 (.t 27)), .g 24 true (some 29) (.bin 29 .eql (.t 26) (.t 28)), .s (.pick 30 (.t 24) (.t 29) (.k (.v (.c .ff)))), .s (.mv 4 (.t 30))]) (.ret))⟩
def c_laws_sameState : Fun := ⟨41, [], fun ts K => as2 ts fun t0 t1 => arG pStateT t0 fun a => arG pStateT t1 fun b => chk (LState a 2147483647 ∧ LState b 2147483647) (K (tB (decide (a = b))) [])⟩
theorem run_laws_sameState (a : State) (b : State) (hpre : LState a 2147483647 ∧ LState b 2147483647) : runK [c_laws_sameWords, c_laws_sameMem] (0) [] pf_laws_sameState [tG (a.tc false []), tG (b.tc false [])] fun r o => r = tB (decide (a = b)) ∧ o = [] := by
  obtain ⟨⟨l1, l2, l3⟩, l4, l5, l6⟩ := hpre
  conv => whnf
  repeat' (first | (refine sel_i (fun h => ?_) (fun h => ?_) <;> conv => whnf) | (refine chk_c ?_ ?_ <;> conv => whnf) | (refine And.intro ?_ rfl) | (refine And.intro ?_ ?_ <;> conv => whnf))
  all_goals (try simp only [eqWd, etaKey, etaWord, etaMemory, etaState, decide_eq_true_eq, decide_eq_false_iff_not] at *)
  all_goals first
    | (refine ⟨?_⟩; exact ⟨by assumption, by assumption⟩)
    | (refine ⟨?_⟩; exact ⟨⟨by assumption, by assumption⟩, by assumption, by assumption⟩)
    | (rw [eqStE (by assumption) (by assumption) (by assumption)]; done)
    | (obtain ⟨s1, ⟨s2, s3, ⟨s4, s5, s6, s7⟩⟩, ⟨s8, s9⟩, s10⟩ := a; obtain ⟨t1, ⟨t2, t3, ⟨t4, t5, t6, t7⟩⟩, ⟨t8, t9⟩, t10⟩ := b; simp_all; done)
    | trace_state
theorem ok_laws_sameState : FunOk Tryz.prog c_laws_sameState := funOk (E := [c_laws_sameWords, c_laws_sameMem]) (envOk_cons ok_laws_sameWords (envOk_cons ok_laws_sameMem (envOk_nil))) mixd Tryz.func41 (pf := pf_laws_sameState) (by kernel_rfl) fun ts K h => by
  obtain ⟨t0, t1, e0, h⟩ := as2_out h
  subst e0
  obtain ⟨a, e1, hq⟩ := arG_out rd_state h
  clear h
  subst e1
  have h := hq
  clear hq
  obtain ⟨b, e1, hq⟩ := arG_out rd_state h
  clear h
  subst e1
  have h := hq
  clear hq
  obtain ⟨hpre, h⟩ := chk_o h
  exact ⟨_, _, h, Nat.le_of_ble_eq_true (show Nat.ble 2 Tryz.f41.ntmps = true by kernel_rfl), _, run_laws_sameState a b hpre⟩

def pf_laws_sameSide : PF := ⟨[.t 4], .seq (.reg [.s (.box 2 (.t 0)), .s (.box 3 (.t 1)), .s (.mv 4 (.k (.v (.c .ff))))]) (.seq (.reg [.s (.fa 5 (.t 2) 0), .s (.load 6 false 1 (.t 5)), .s (.fa 7 (.t 3) 0), .s (.load 8 false 1 (.t 7)), .s (.call (some 9) 51 [(.t 6), (.t 8)]), .s (.mv 10 (.t 9)), .g 10 true (some 11) (.fa 11 (.t 2) 1), .g 10 true (some 12) (.load 12 true 6 (.t 11)), .g 10 true (some 13) (.fa 13 (.t 3) 1), .g 10 true (some 14) (.load 14 true 6 (.t 13)), .g 10 true (some 15) (.eqs 15 true [.i, .b, .i, .i, .i, .i] false (.t 12) (.t 14)), .s (.pick 16 (.t 10) (.t 15) (.k (.v (.c .ff)))), .s (.mv 17 (.t 16)), .g 17 true (some 18) (.fa 18 (.t 2) 7), .g 17 true (some 19) (.load 19 false 1 (.t 18)), .g 17 true (some 20) (.fa 20 (.t 3) 7), .g 17 true (some 21) (.load 21 false 1 (.t 20)), .g 17 true (some 22) (.bin 22 .eql (.t 19) (.t 21)), .s (.pick 23 (.t 17) (.t 22) (.k (.v (.c .ff)))), .s (.mv 4 (.t 23))]) (.ret))⟩
def c_laws_sameSide : Fun := ⟨46, [], fun ts K => as2 ts fun t0 t1 => arG pSideT t0 fun a => arG pSideT t1 fun b => chk (a.regs.length ≤ 2147483647 ∧ b.regs.length ≤ 2147483647) (K (tB (decide (a = b))) [])⟩
theorem run_laws_sameSide (a : Side) (b : Side) (hpre : a.regs.length ≤ 2147483647 ∧ b.regs.length ≤ 2147483647) : runK [c_laws_sameWords] (0) [] pf_laws_sameSide [tG (a.tc false []), tG (b.tc false [])] fun r o => r = tB (decide (a = b)) ∧ o = [] := by
  obtain ⟨l1, l2⟩ := hpre
  conv => whnf
  repeat' (first | (refine sel_i (fun h => ?_) (fun h => ?_) <;> conv => whnf) | (refine chk_c ?_ ?_ <;> conv => whnf) | (refine And.intro ?_ rfl) | (refine And.intro ?_ ?_ <;> conv => whnf))
  all_goals (try simp only [eqWd, etaKey, etaWord, etaMemory, etaState, decide_eq_true_eq, decide_eq_false_iff_not] at *)
  all_goals first
    | (refine ⟨?_⟩; exact ⟨by assumption, by assumption⟩)
    | (rw [eqSdE (by assumption) (by assumption)]; done)
    | (obtain ⟨s1, ⟨s2, s3, ⟨s4, s5, s6, s7⟩⟩, s10⟩ := a; obtain ⟨t1, ⟨t2, t3, ⟨t4, t5, t6, t7⟩⟩, t10⟩ := b; simp_all; done)
    | trace_state
theorem ok_laws_sameSide : FunOk Tryz.prog c_laws_sameSide := funOk (E := [c_laws_sameWords]) (envOk_cons ok_laws_sameWords (envOk_nil)) mixd Tryz.func46 (pf := pf_laws_sameSide) (by kernel_rfl) fun ts K h => by
  obtain ⟨t0, t1, e0, h⟩ := as2_out h
  subst e0
  obtain ⟨a, e1, hq⟩ := arG_out rd_side h
  clear h
  subst e1
  have h := hq
  clear hq
  obtain ⟨b, e1, hq⟩ := arG_out rd_side h
  clear h
  subst e1
  have h := hq
  clear hq
  obtain ⟨hpre, h⟩ := chk_o h
  exact ⟨_, _, h, Nat.le_of_ble_eq_true (show Nat.ble 2 Tryz.f46.ntmps = true by kernel_rfl), _, run_laws_sameSide a b hpre⟩

def pf_laws_sameTwo : PF := ⟨[.t 4], .seq (.reg [.s (.box 2 (.t 0)), .s (.box 3 (.t 1)), .s (.mv 4 (.k (.v (.c .ff))))]) (.seq (.reg [.s (.fa 5 (.t 2) 0), .s (.load 6 true 2 (.t 5)), .s (.fa 7 (.t 3) 0), .s (.load 8 true 2 (.t 7)), .s (.call (some 9) 104 [(.t 6), (.t 8)]), .s (.mv 10 (.t 9)), .g 10 true (some 11) (.fa 11 (.t 2) 2), .g 10 true (some 12) (.load 12 true 8 (.t 11)), .g 10 true (some 13) (.fa 13 (.t 3) 2), .g 10 true (some 14) (.load 14 true 8 (.t 13)), .g 10 true (some 15) (.call (some 15) 46 [(.t 12), (.t 14)]), .s (.pick 16 (.t 10) (.t 15) (.k (.v (.c .ff)))), .s (.mv 17 (.t 16)), .g 17 true (some 18) (.fa 18 (.t 2) 10), .g 17 true (some 19) (.load 19 true 8 (.t 18)), .g 17 true (some 20) (.fa 20 (.t 3) 10), .g 17 true (some 21) (.load 21 true 8 (.t 20)), .g 17 true (some 22) (.call (some 22) 46 [(.t 19), (.t 21)]), .s (.pick 23 (.t 17) (.t 22) (.k (.v (.c .ff)))), .s (.mv 4 (.t 23))]) (.ret))⟩
def c_laws_sameTwo : Fun := ⟨38, [], fun ts K => as2 ts fun t0 t1 => arG pTwoT t0 fun a => arG pTwoT t1 fun b => chk (LTwo a 2147483647 ∧ LTwo b 2147483647) (K (tB (decide (a = b))) [])⟩
theorem run_laws_sameTwo (a : Two) (b : Two) (hpre : LTwo a 2147483647 ∧ LTwo b 2147483647) : runK [c_laws_sameSide, c_laws_sameMem] (0) [] pf_laws_sameTwo [tG (a.tc false []), tG (b.tc false [])] fun r o => r = tB (decide (a = b)) ∧ o = [] := by
  obtain ⟨⟨⟨l1, l2⟩, l3, l4⟩, ⟨l5, l6⟩, l7, l8⟩ := hpre
  conv => whnf
  repeat' (first | (refine sel_i (fun h => ?_) (fun h => ?_) <;> conv => whnf) | (refine chk_c ?_ ?_ <;> conv => whnf) | (refine And.intro ?_ rfl) | (refine And.intro ?_ ?_ <;> conv => whnf))
  all_goals (try simp only [eqWd, etaKey, etaWord, etaMemory, etaSide, etaTwo, decide_eq_true_eq, decide_eq_false_iff_not] at *)
  all_goals first
    | (refine ⟨?_⟩; exact ⟨by assumption, by assumption⟩)
    | (refine ⟨?_⟩; exact ⟨⟨by assumption, by assumption⟩, by assumption, by assumption⟩)
    | (obtain ⟨s1, s2, s3⟩ := a; obtain ⟨t1, t2, t3⟩ := b; simp_all; done)
    | trace_state
theorem ok_laws_sameTwo : FunOk Tryz.prog c_laws_sameTwo := funOk (E := [c_laws_sameSide, c_laws_sameMem]) (envOk_cons ok_laws_sameSide (envOk_cons ok_laws_sameMem (envOk_nil))) mixd Tryz.func38 (pf := pf_laws_sameTwo) (by kernel_rfl) fun ts K h => by
  obtain ⟨t0, t1, e0, h⟩ := as2_out h
  subst e0
  obtain ⟨a, e1, hq⟩ := arG_out rd_two h
  clear h
  subst e1
  have h := hq
  clear hq
  obtain ⟨b, e1, hq⟩ := arG_out rd_two h
  clear h
  subst e1
  have h := hq
  clear hq
  obtain ⟨hpre, h⟩ := chk_o h
  exact ⟨_, _, h, Nat.le_of_ble_eq_true (show Nat.ble 2 Tryz.f38.ntmps = true by kernel_rfl), _, run_laws_sameTwo a b hpre⟩

theorem effE_quiet {l : List Inst} {s : State} (h : ¬ (effE l s).trap = 0) : (effE l s).r = -1 ∧ (effE l s).addr = -1 := by
  unfold effE at h ⊢
  simp only at h ⊢
  split
  · exact ⟨rfl, rfl⟩
  · rename_i h1
    rw [if_neg h1] at h
    split
    · exact ⟨rfl, rfl⟩
    · rename_i h2
      rw [if_neg h2] at h
      unfold workE at h ⊢
      split
      · rename_i h3; rw [if_pos h3] at h; exact absurd rfl h
      · rename_i h3; rw [if_neg h3] at h
        split
        · rename_i h4; rw [if_pos h4] at h
          split
          · exact ⟨rfl, rfl⟩
          · rename_i h5; rw [if_neg h5] at h; exact absurd rfl h
        · rename_i h4; rw [if_neg h4] at h
          split
          · rename_i h5; rw [if_pos h5] at h; exact absurd rfl h
          · rename_i h5; rw [if_neg h5] at h
            split
            · rename_i h6; rw [if_pos h6] at h
              split
              · exact ⟨rfl, rfl⟩
              · rename_i h7; rw [if_neg h7] at h; exact absurd rfl h
            · rename_i h6; rw [if_neg h6] at h
              split
              · exact ⟨rfl, rfl⟩
              · rename_i h7; rw [if_neg h7] at h
                split at h <;> exact absurd rfl h
theorem seen_reg {l : List Inst} {s : State} (hs : stateOk s = true) (h0 : s.trap = 0) {r : Nat} (h : ¬ s.regs.getD r (FT.zero .word) = (stepS l s).regs.getD r (FT.zero .word)) : (r : Int) = (effE l s).r := by
  by_cases ht : (effE l s).trap = 0
  · rw [stepS_0 hs h0 ht] at h
    unfold putE at h; dsimp only at h
    split at h
    · rename_i hr
      have hr := inR_t.1 hr
      rw [getD_set2] at h
      split at h
      · rename_i hq; omega
      · exact absurd rfl h
    · exact absurd rfl h
  · rw [stepS_e hs h0 ht] at h; exact absurd rfl h
theorem seen_cell {l : List Inst} {s : State} (hs : stateOk s = true) (h0 : s.trap = 0) {r : Nat} (h : ¬ s.mem.words.getD r (FT.zero .word) = (stepS l s).mem.words.getD r (FT.zero .word)) : (r : Int) = (effE l s).addr := by
  by_cases ht : (effE l s).trap = 0
  · rw [stepS_0 hs h0 ht] at h
    unfold putE at h; dsimp only at h
    split at h
    · rename_i hr
      have hr := inR_t.1 hr
      rw [getD_set2] at h
      split at h
      · rename_i hq; omega
      · exact absurd rfl h
    · exact absurd rfl h
  · rw [stepS_e hs h0 ht] at h; exact absurd rfl h
theorem seen_of {l : List Inst} {s : State} (h : (seenOf l s).2 = true) : stateOk s = true ∧ s.trap = 0 := by
  unfold seenOf at h; split at h
  · cases h
  · rename_i q
    exact ⟨by cases e : stateOk s with | true => rfl | false => exact absurd (.inl e) q, by
      by_cases t : s.trap = 0
      · exact t
      · exact absurd (.inr t) q⟩
theorem goes_u8 (l : List Inst) (b : List Int) (n : Int) : U8s (goes l b n).1 := by
  unfold goes; split
  · exact stateBytes_u8 _
  · exact fun x hx => by cases hx
theorem goes_is {l : List Inst} {b : List Int} {n : Int} (h : (!(goes l b n).2) = false) : ∃ s, stateOf b = some s := by
  cases e : stateOf b with
  | some s => exact ⟨s, rfl⟩
  | none => rw [goes_no (by rw [e]; rfl)] at h; cases h
theorem stateOf_okS {b : List Int} {s : State} (h : stateOf b = some s) : stateOk s = true := by
  cases e : stateOk s with
  | true => rfl
  | false =>
    have h2 := stateOf_some h
    unfold stateBytes at h2
    rw [if_neg (by rw [e]; decide)] at h2
    subst h2
    cases h
theorem tmod8 {d : Int} (h : 0 ≤ d) : 0 ≤ d.tmod 8 ∧ d.tmod 8 ≤ 7 := by
  rw [Int.tmod_eq_emod_of_nonneg h]; omega
theorem resumes {l : List Inst} {s : State} (hs : stateOk s = true) {d : Int} (h : 0 ≤ d) :
    goes l (stateBytes (inOrder l s (d.tmod 8)).1) 12 = (stateBytes (inOrder l s (IntKind.i64.wrap (d.tmod 8 + 12))).1, true) := by
  obtain ⟨k1, k2⟩ := tmod8 h
  have e := stateOf_bytes (inOrder_ok (l := l) (n := d.tmod 8) hs)
  rw [goes_ok (by rw [e]; rfl), e, wrap_id (by omega) (by omega), inOrder_add hs k1 (by decide) (by omega)]
  rfl
end Go.Pi
