/- Contracts of functions, each out of its run by PI. No conditions. -/
import Derived.Test.YtkiokbkbgjomeaaGreatC4
namespace Go.Pi
open Go.Proofs
set_option linter.unusedVariables false
set_option linter.unusedSimpArgs false
set_option maxRecDepth 100000
attribute [local irreducible] iterN
theorem kKey {K : Tree → List Tree → Prop} {o : List Tree} {P : Prop} (hK : ∀ w : Key, P → K (tG (w.tc [])) o) (a b c d : Int) (h : P) : K (.v (.g [.int .i64 a, .int .i64 b, .int .i64 c, .int .i64 d])) o := hK ⟨a, b, c, d⟩ h
theorem kWord {K : Tree → List Tree → Prop} {o : List Tree} {P : Prop} (hK : ∀ w : Word, P → K (tG (w.tc [])) o) (n : Int) (is : Bool) (a b c d : Int) (h : P) : K (.v (.g [.int .i64 n, .bool is, .int .i64 a, .int .i64 b, .int .i64 c, .int .i64 d])) o := hK ⟨n, is, ⟨a, b, c, d⟩⟩ h
theorem kInst {K : Tree → List Tree → Prop} {o : List Tree} {P : Prop} (hK : ∀ w : Inst, P → K (tG (w.tc [])) o) (e a b c d : Int) (h : P) : K (.v (.g [.int .i64 e, .int .i64 a, .int .i64 b, .int .i64 c, .int .i64 d])) o := hK ⟨e, a, b, c, d⟩ h

def pf_spec_Root : PF := ⟨[.c 0 true 4], .seq (.reg [.s (.alloc 0 [.int .i64 0, .int .i64 0, .int .i64 0, .int .i64 0])]) (.seq (.reg [.s (.build 1 [.int .i64 0, .int .i64 0, .int .i64 0, .int .i64 0] [(1, 1, (.k (.v (.c (.int .i64 4096))))), (2, 1, (.k (.v (.c (.int .i64 63)))))]), .s (.store 4 (.t 0) (.t 1))]) (.ret))⟩
def c_spec_Root : Fun := ⟨201, [], fun ts K => as0 ts (K (tG ((⟨0, 4096, 63, 0⟩ : Key).tc [])) [])⟩
theorem run_spec_Root  : runK [] (0) [] pf_spec_Root [] fun r o => r = tG ((⟨0, 4096, 63, 0⟩ : Key).tc []) ∧ o = [] := by
  conv => whnf
  repeat' (first | (refine sel_i (fun h => ?_) (fun h => ?_) <;> conv => whnf) | (refine chk_c ?_ ?_ <;> conv => whnf) | (refine And.intro ?_ rfl) | (refine And.intro ?_ ?_ <;> conv => whnf))
  rfl
theorem ok_spec_Root : FunOk Tryz.prog c_spec_Root := funOk (E := []) (envOk_nil) mixd Tryz.func201 (pf := pf_spec_Root) (by kernel_rfl) fun ts K h => by
  obtain ⟨e0, h⟩ := as0_out h
  subst e0
  exact ⟨_, _, h, Nat.le_of_ble_eq_true (show Nat.ble 0 Tryz.f201.ntmps = true by kernel_rfl), _, run_spec_Root ⟩

def pf_spec_l2DrawRight : PF := ⟨[.c 2 true 4], .seq (.reg [.s (.alloc 2 [.int .i64 0, .int .i64 0, .int .i64 0, .int .i64 0])]) (.seq (.reg [.s (.call (some 4) 201 []), .s (.alloc 3 [.int .i64 0, .int .i64 0, .int .i64 0, .int .i64 0]), .s (.store 4 (.t 3) (.t 4))]) (.seq (.seq (.reg [.s (.mv 5 (.t 0)), .s (.call (some 6) 99 [(.t 5), (.k (.v (.c (.int .i64 4))))])]) (.blk 0 (.seq (.reg [.s (.bin 8 .eql (.t 6) (.k (.v (.c (.int .i64 0))))), .s (.mv 7 (.t 8))]) (.cond (.t 7) (.seq (.reg [.s (.mv 9 (.t 0)), .s (.call (some 10) 99 [(.t 9), (.k (.v (.c (.int .i64 30))))]), .s (.fa 11 (.t 3) 0), .s (.store 1 (.t 11) (.t 10))]) (.rgd [0] [.s (.fa 12 (.t 3) 0), .s (.load 13 false 1 (.t 12)), .s (.mv 14 (.t 0)), .s (.call (some 15) 99 [(.t 14), (.k (.v (.c (.int .i64 33))))]), .s (.bin 16 .add (.t 13) (.t 15)), .s (.fa 17 (.t 3) 1), .s (.store 1 (.t 17) (.t 16))] (.tk 0 (.tk 1 (.tk 2 (.one 3 false (.tk 4 (.tk 5 (.one 6 true (.done none)))))))))) (.seq (.reg [.s (.bin 19 .eql (.t 6) (.k (.v (.c (.int .i64 1))))), .s (.mv 18 (.t 19))]) (.cond (.t 18) (.seq (.reg [.s (.mv 20 (.t 0)), .s (.call (some 21) 99 [(.t 20), (.k (.v (.c (.int .i64 20))))]), .s (.bin 22 .mul (.k (.v (.c (.int .i64 64)))) (.t 21)), .s (.fa 23 (.t 3) 0), .s (.store 1 (.t 23) (.t 22))]) (.rgd [0] [.s (.fa 24 (.t 3) 0), .s (.load 25 false 1 (.t 24)), .s (.mv 26 (.t 0)), .s (.call (some 27) 99 [(.t 26), (.k (.v (.c (.int .i64 9))))]), .s (.bin 28 .mul (.k (.v (.c (.int .i64 64)))) (.t 27)), .s (.bin 29 .add (.t 25) (.t 28)), .s (.fa 30 (.t 3) 1), .s (.store 1 (.t 30) (.t 29))] (.tk 0 (.tk 1 (.tk 2 (.one 3 false (.tk 4 (.tk 5 (.tk 6 (.one 7 true (.done none))))))))))) (.seq (.reg [.s (.bin 32 .eql (.t 6) (.k (.v (.c (.int .i64 2))))), .s (.mv 31 (.t 32))]) (.cond (.t 31) (.reg [.s (.fa 33 (.t 3) 1), .s (.store 1 (.t 33) (.k (.v (.c (.int .i64 32)))))]) (.skip))))))))) (.seq (.seq (.reg [.s (.mv 34 (.t 0)), .s (.call (some 35) 66 [(.t 34), (.k (.v (.c (.int .i64 2))))])]) (.cond (.t 35) (.reg [.s (.mv 36 (.t 0)), .s (.call (some 37) 99 [(.t 36), (.k (.v (.c (.int .i64 64))))]), .s (.fa 38 (.t 3) 2), .s (.store 1 (.t 38) (.t 37))]) (.skip))) (.seq (.seq (.reg [.s (.mv 39 (.t 0)), .s (.call (some 40) 66 [(.t 39), (.k (.v (.c (.int .i64 5))))])]) (.cond (.t 40) (.reg [.s (.mv 41 (.t 0)), .s (.call (some 42) 99 [(.t 41), (.k (.v (.c (.int .i64 7))))]), .s (.bin 43 .add (.k (.v (.c (.int .i64 1)))) (.t 42)), .s (.fa 44 (.t 3) 3), .s (.store 1 (.t 44) (.t 43))]) (.skip))) (.seq (.reg [.s (.load 45 true 4 (.t 3)), .s (.store 4 (.t 2) (.t 45))]) (.ret))))))⟩
def c_spec_l2DrawRight : Fun := ⟨142, [true], fun ts K => as1 ts fun t0 => arQ pCurT t0 fun c => chk (CurOk c) (∀ (k : Key) (d : Cur), (CurOk d) → K (tG (k.tc [])) ([curOut d]))⟩
theorem run_spec_l2DrawRight (c : Cur) (hpre : CurOk c) {K : Tree → List Tree → Prop} (hK : ∀ (k : Key) (d : Cur), (CurOk d) → K (tG (k.tc [])) ([curOut d])) : runK [c_spec_l1Once, c_spec_l1Below, c_spec_Root] (0) [true] pf_spec_l2DrawRight [.v (.ptr true 0 (c.tc []))] K := by
  conv => whnf
  repeat' (first | (refine sel_i (fun h => ?_) (fun h => ?_) <;> conv => whnf) | (refine chk_c ?_ ?_ <;> conv => whnf) | (refine And.intro ?_ rfl) | (refine And.intro ?_ ?_ <;> conv => whnf) | (intro x y z d hd; (try have g1 := And.left hd); (try have g2 := And.right hd); (try have g3 := And.left (And.right hd)); (try have g4 := And.right (And.right hd)); conv => whnf) | (intro x y d hd; (try have g1 := And.left hd); (try have g2 := And.right hd); (try have g3 := And.left (And.right hd)); (try have g4 := And.right (And.right hd)); conv => whnf) | (intro x d hd; (try have g1 := And.left hd); (try have g2 := And.right hd); (try have g3 := And.left (And.right hd)); (try have g4 := And.right (And.right hd)); conv => whnf) | (intro d hd; (try have g1 := And.left hd); (try have g2 := And.right hd); (try have g3 := And.left (And.right hd)); (try have g4 := And.right (And.right hd)); conv => whnf))
  all_goals first
    | (refine ⟨?_⟩; exact hd)
    | (refine ⟨?_⟩; exact hd.2)
    | (refine ⟨?_⟩; exact hpre)
    | (refine ⟨?_⟩; exact ⟨hd, by decide⟩)
    | (refine ⟨?_⟩; exact ⟨hd.2, by decide⟩)
    | (refine ⟨?_⟩; exact ⟨hd, by simp⟩)
    | (refine ⟨?_⟩; exact ⟨hd.2, by simp⟩)
    | (refine ⟨?_⟩; exact ⟨hpre, by simp⟩)
    | (refine ⟨?_⟩; decide)
    | (refine ⟨?_⟩; rfl)
    | ((try dsimp only); exact kKey (fun w hw => hK w _ hw) _ _ _ _  hd)
    | ((try dsimp only); exact kKey (fun w hw => hK w _ hw) _ _ _ _  hd.2)
    | trace_state
theorem ok_spec_l2DrawRight : FunOk Tryz.prog c_spec_l2DrawRight := funOkR (E := [c_spec_l1Once, c_spec_l1Below, c_spec_Root]) (envOk_cons ok_spec_l1Once (envOk_cons ok_spec_l1Below (envOk_cons ok_spec_Root (envOk_nil)))) mixd Tryz.func142 (pf := pf_spec_l2DrawRight) (by kernel_rfl) fun ts K h => by
  obtain ⟨t0, e0, h⟩ := as1_out h
  subst e0
  obtain ⟨c, e1, hq⟩ := arQ_out rd_cur h
  clear h
  subst e1
  have h := hq
  clear hq
  obtain ⟨hpre, h⟩ := chk_o h
  exact ⟨Nat.le_of_ble_eq_true (show Nat.ble 1 Tryz.f142.ntmps = true by kernel_rfl), _, run_spec_l2DrawRight c hpre h⟩

def pf_spec_l2Draw : PF := ⟨[.c 2 true 4], .seq (.reg [.s (.alloc 2 [.int .i64 0, .int .i64 0, .int .i64 0, .int .i64 0])]) (.seq (.reg [.s (.mv 4 (.t 0)), .s (.call (some 5) 142 [(.t 4)]), .s (.alloc 3 [.int .i64 0, .int .i64 0, .int .i64 0, .int .i64 0]), .s (.store 4 (.t 3) (.t 5))]) (.seq (.seq (.reg [.s (.mv 6 (.t 0)), .s (.call (some 7) 99 [(.t 6), (.k (.v (.c (.int .i64 12))))])]) (.blk 0 (.seq (.reg [.s (.bin 9 .eql (.t 7) (.k (.v (.c (.int .i64 0))))), .s (.mv 8 (.t 9))]) (.cond (.t 8) (.rgd [0] [.s (.fa 10 (.t 3) 0), .s (.load 11 false 1 (.t 10)), .s (.mv 12 (.t 0)), .s (.bs 13 (.int .i64) [(.k (.v (.c (.int .i64 (-1))))), (.k (.v (.c (.int .i64 65)))), (.k (.v (.c (.int .i64 97)))), (.k (.v (.c (.int .i64 5000))))]), .s (.call (some 14) 93 [(.t 12), (.t 13)]), .s (.bin 15 .add (.t 11) (.t 14)), .s (.fa 16 (.t 3) 1), .s (.store 1 (.t 16) (.t 15))] (.tk 0 (.tk 1 (.tk 2 (.one 3 false (.one 4 false (.tk 5 (.tk 6 (.one 7 true (.done none)))))))))) (.seq (.reg [.s (.bin 18 .eql (.t 7) (.k (.v (.c (.int .i64 1))))), .s (.mv 17 (.t 18))]) (.cond (.t 17) (.reg [.s (.mv 19 (.t 0)), .s (.bs 20 (.int .i64) [(.k (.v (.c (.int .i64 (-1))))), (.k (.v (.c (.int .i64 64))))]), .s (.call (some 21) 93 [(.t 19), (.t 20)]), .s (.fa 22 (.t 3) 2), .s (.store 1 (.t 22) (.t 21))]) (.seq (.reg [.s (.bin 24 .eql (.t 7) (.k (.v (.c (.int .i64 2))))), .s (.mv 23 (.t 24))]) (.cond (.t 23) (.reg [.s (.mv 25 (.t 0)), .s (.bs 26 (.int .i64) [(.k (.v (.c (.int .i64 (-1))))), (.k (.v (.c (.int .i64 8))))]), .s (.call (some 27) 93 [(.t 25), (.t 26)]), .s (.fa 28 (.t 3) 3), .s (.store 1 (.t 28) (.t 27))]) (.skip))))))))) (.seq (.reg [.s (.load 29 true 4 (.t 3)), .s (.store 4 (.t 2) (.t 29))]) (.ret))))⟩
def c_spec_l2Draw : Fun := ⟨217, [true], fun ts K => as1 ts fun t0 => arQ pCurT t0 fun c => chk (CurOk c) (∀ (k : Key) (d : Cur), (CurOk d) → K (tG (k.tc [])) ([curOut d]))⟩
theorem run_spec_l2Draw (c : Cur) (hpre : CurOk c) {K : Tree → List Tree → Prop} (hK : ∀ (k : Key) (d : Cur), (CurOk d) → K (tG (k.tc [])) ([curOut d])) : runK [c_spec_l1PickInt, c_spec_l1Below, c_spec_l2DrawRight] (0) [true] pf_spec_l2Draw [.v (.ptr true 0 (c.tc []))] K := by
  conv => whnf
  repeat' (first | (refine sel_i (fun h => ?_) (fun h => ?_) <;> conv => whnf) | (refine chk_c ?_ ?_ <;> conv => whnf) | (refine And.intro ?_ rfl) | (refine And.intro ?_ ?_ <;> conv => whnf) | (intro x y z d hd; (try have g1 := And.left hd); (try have g2 := And.right hd); (try have g3 := And.left (And.right hd)); (try have g4 := And.right (And.right hd)); conv => whnf) | (intro x y d hd; (try have g1 := And.left hd); (try have g2 := And.right hd); (try have g3 := And.left (And.right hd)); (try have g4 := And.right (And.right hd)); conv => whnf) | (intro x d hd; (try have g1 := And.left hd); (try have g2 := And.right hd); (try have g3 := And.left (And.right hd)); (try have g4 := And.right (And.right hd)); conv => whnf) | (intro d hd; (try have g1 := And.left hd); (try have g2 := And.right hd); (try have g3 := And.left (And.right hd)); (try have g4 := And.right (And.right hd)); conv => whnf))
  all_goals first
    | (refine ⟨?_⟩; exact hd)
    | (refine ⟨?_⟩; exact hd.2)
    | (refine ⟨?_⟩; exact hpre)
    | (refine ⟨?_⟩; exact ⟨hd, by decide⟩)
    | (refine ⟨?_⟩; exact ⟨hd.2, by decide⟩)
    | (refine ⟨?_⟩; exact ⟨hd, by simp⟩)
    | (refine ⟨?_⟩; exact ⟨hd.2, by simp⟩)
    | (refine ⟨?_⟩; exact ⟨hpre, by simp⟩)
    | (refine ⟨?_⟩; decide)
    | (refine ⟨?_⟩; rfl)
    | ((try dsimp only); exact kKey (fun w hw => hK w _ hw) _ _ _ _  hd)
    | ((try dsimp only); exact kKey (fun w hw => hK w _ hw) _ _ _ _  hd.2)
    | trace_state
theorem ok_spec_l2Draw : FunOk Tryz.prog c_spec_l2Draw := funOkR (E := [c_spec_l1PickInt, c_spec_l1Below, c_spec_l2DrawRight]) (envOk_cons ok_spec_l1PickInt (envOk_cons ok_spec_l1Below (envOk_cons ok_spec_l2DrawRight (envOk_nil)))) mixd Tryz.func217 (pf := pf_spec_l2Draw) (by kernel_rfl) fun ts K h => by
  obtain ⟨t0, e0, h⟩ := as1_out h
  subst e0
  obtain ⟨c, e1, hq⟩ := arQ_out rd_cur h
  clear h
  subst e1
  have h := hq
  clear hq
  obtain ⟨hpre, h⟩ := chk_o h
  exact ⟨Nat.le_of_ble_eq_true (show Nat.ble 1 Tryz.f217.ntmps = true by kernel_rfl), _, run_spec_l2Draw c hpre h⟩

def pf_spec_l3DrawRight : PF := ⟨[.c 2 true 6], .seq (.reg [.s (.alloc 2 [.int .i64 0, .ff, .int .i64 0, .int .i64 0, .int .i64 0, .int .i64 0])]) (.seq (.seq (.reg [.s (.mv 4 (.t 0)), .s (.call (some 5) 66 [(.t 4), (.k (.v (.c (.int .i64 3))))])]) (.cond (.t 5) (.seq (.reg [.s (.mv 6 (.t 0)), .s (.bs 7 (.int .i64) [(.k (.v (.c (.int .i64 0)))), (.k (.v (.c (.int .i64 1)))), (.k (.v (.c (.int .i64 2)))), (.k (.v (.c (.int .i64 5)))), (.k (.v (.c (.int .i64 31)))), (.k (.v (.c (.int .i64 65535))))]), .s (.call (some 8) 93 [(.t 6), (.t 7)]), .s (.call (some 9) 141 [(.t 8)]), .s (.store 6 (.t 2) (.t 9))]) (.ret)) (.skip))) (.seq (.reg [.s (.mv 10 (.t 0)), .s (.call (some 11) 142 [(.t 10)]), .s (.alloc 3 [.int .i64 0, .int .i64 0, .int .i64 0, .int .i64 0]), .s (.store 4 (.t 3) (.t 11))]) (.seq (.rgd [0] [.s (.load 12 true 4 (.t 3)), .s (.mv 13 (.t 0)), .s (.fa 14 (.t 3) 0), .s (.load 15 false 1 (.t 14)), .s (.fa 16 (.t 3) 0), .s (.load 17 false 1 (.t 16)), .s (.fa 18 (.t 3) 0), .s (.load 19 false 1 (.t 18)), .s (.bin 20 .add (.t 19) (.k (.v (.c (.int .i64 1))))), .s (.fa 21 (.t 3) 1), .s (.load 22 false 1 (.t 21)), .s (.bs 23 (.int .i64) [(.t 15), (.t 17), (.t 20), (.t 22), (.k (.v (.c (.int .i64 3)))), (.k (.v (.c (.int .i64 1))))]), .s (.call (some 24) 93 [(.t 13), (.t 23)]), .s (.call (some 25) 143 [(.t 12), (.t 24)]), .s (.store 6 (.t 2) (.t 25))] (.tk 0 (.tk 1 (.tk 2 (.tk 3 (.tk 4 (.tk 5 (.tk 6 (.tk 7 (.tk 8 (.tk 9 (.tk 10 (.one 11 false (.one 12 false (.one 13 true (.one 14 true (.done none))))))))))))))))) (.ret))))⟩
def c_spec_l3DrawRight : Fun := ⟨67, [true], fun ts K => as1 ts fun t0 => arQ pCurT t0 fun c => chk (CurOk c) (∀ (w : Word) (d : Cur), (wordOk w = true ∧ CurOk d) → K (tG (w.tc [])) ([curOut d]))⟩
theorem run_spec_l3DrawRight (c : Cur) (hpre : CurOk c) {K : Tree → List Tree → Prop} (hK : ∀ (w : Word) (d : Cur), (wordOk w = true ∧ CurOk d) → K (tG (w.tc [])) ([curOut d])) : runK [c_spec_l1Once, c_spec_l1PickInt, c_spec_Plain, c_spec_l2DrawRight, c_spec_KeyWord] (0) [true] pf_spec_l3DrawRight [.v (.ptr true 0 (c.tc []))] K := by
  conv => whnf
  repeat' (first | (refine sel_i (fun h => ?_) (fun h => ?_) <;> conv => whnf) | (refine chk_c ?_ ?_ <;> conv => whnf) | (refine And.intro ?_ rfl) | (refine And.intro ?_ ?_ <;> conv => whnf) | (intro x y z d hd; (try have g1 := And.left hd); (try have g2 := And.right hd); (try have g3 := And.left (And.right hd)); (try have g4 := And.right (And.right hd)); conv => whnf) | (intro x y d hd; (try have g1 := And.left hd); (try have g2 := And.right hd); (try have g3 := And.left (And.right hd)); (try have g4 := And.right (And.right hd)); conv => whnf) | (intro x d hd; (try have g1 := And.left hd); (try have g2 := And.right hd); (try have g3 := And.left (And.right hd)); (try have g4 := And.right (And.right hd)); conv => whnf) | (intro d hd; (try have g1 := And.left hd); (try have g2 := And.right hd); (try have g3 := And.left (And.right hd)); (try have g4 := And.right (And.right hd)); conv => whnf))
  all_goals first
    | (refine ⟨?_⟩; exact hd)
    | (refine ⟨?_⟩; exact hd.2)
    | (refine ⟨?_⟩; exact hpre)
    | (refine ⟨?_⟩; exact ⟨hd, by decide⟩)
    | (refine ⟨?_⟩; exact ⟨hd.2, by decide⟩)
    | (refine ⟨?_⟩; exact ⟨hd, by simp⟩)
    | (refine ⟨?_⟩; exact ⟨hd.2, by simp⟩)
    | (refine ⟨?_⟩; exact ⟨hpre, by simp⟩)
    | (refine ⟨?_⟩; decide)
    | (refine ⟨?_⟩; rfl)
    | exact hK (plainW _) _ ⟨plainW_ok _, hd.2⟩
    | exact hK (keyWord _ _) _ ⟨keyWord_ok _ _, hd.2⟩
    | trace_state
theorem ok_spec_l3DrawRight : FunOk Tryz.prog c_spec_l3DrawRight := funOkR (E := [c_spec_l1Once, c_spec_l1PickInt, c_spec_Plain, c_spec_l2DrawRight, c_spec_KeyWord]) (envOk_cons ok_spec_l1Once (envOk_cons ok_spec_l1PickInt (envOk_cons ok_spec_Plain (envOk_cons ok_spec_l2DrawRight (envOk_cons ok_spec_KeyWord (envOk_nil)))))) mixd Tryz.func67 (pf := pf_spec_l3DrawRight) (by kernel_rfl) fun ts K h => by
  obtain ⟨t0, e0, h⟩ := as1_out h
  subst e0
  obtain ⟨c, e1, hq⟩ := arQ_out rd_cur h
  clear h
  subst e1
  have h := hq
  clear hq
  obtain ⟨hpre, h⟩ := chk_o h
  exact ⟨Nat.le_of_ble_eq_true (show Nat.ble 1 Tryz.f67.ntmps = true by kernel_rfl), _, run_spec_l3DrawRight c hpre h⟩

def pf_spec_l3Draw : PF := ⟨[.c 2 true 6], .seq (.reg [.s (.alloc 2 [.int .i64 0, .ff, .int .i64 0, .int .i64 0, .int .i64 0, .int .i64 0])]) (.seq (.reg [.s (.mv 4 (.t 0)), .s (.call (some 5) 67 [(.t 4)]), .s (.alloc 3 [.int .i64 0, .ff, .int .i64 0, .int .i64 0, .int .i64 0, .int .i64 0]), .s (.store 6 (.t 3) (.t 5))]) (.seq (.seq (.reg [.s (.mv 6 (.t 0)), .s (.call (some 7) 99 [(.t 6), (.k (.v (.c (.int .i64 12))))])]) (.blk 0 (.seq (.reg [.s (.bin 9 .eql (.t 7) (.k (.v (.c (.int .i64 0))))), .s (.mv 8 (.t 9))]) (.cond (.t 8) (.reg [.s (.mv 10 (.t 0)), .s (.bs 11 (.int .i64) [(.k (.v (.c (.int .i64 (-1))))), (.k (.v (.c (.int .i64 65536)))), (.k (.v (.c (.int .i64 9223372036854775807))))]), .s (.call (some 12) 93 [(.t 10), (.t 11)]), .s (.fa 13 (.t 3) 0), .s (.store 1 (.t 13) (.t 12))]) (.seq (.reg [.s (.bin 15 .eql (.t 7) (.k (.v (.c (.int .i64 1))))), .s (.mv 14 (.t 15))]) (.cond (.t 14) (.reg [.s (.fa 16 (.t 3) 1), .s (.load 17 false 1 (.t 16)), .s (.bnot 18 (.t 17)), .s (.fa 19 (.t 3) 1), .s (.store 1 (.t 19) (.t 18))]) (.seq (.reg [.s (.bin 21 .eql (.t 7) (.k (.v (.c (.int .i64 2))))), .s (.mv 20 (.t 21))]) (.cond (.t 20) (.reg [.s (.mv 22 (.t 0)), .s (.call (some 23) 217 [(.t 22)]), .s (.fa 24 (.t 3) 2), .s (.store 4 (.t 24) (.t 23))]) (.skip))))))))) (.seq (.reg [.s (.load 25 true 6 (.t 3)), .s (.store 6 (.t 2) (.t 25))]) (.ret))))⟩
def c_spec_l3Draw : Fun := ⟨159, [true], fun ts K => as1 ts fun t0 => arQ pCurT t0 fun c => chk (CurOk c) (∀ (w : Word) (d : Cur), (CurOk d) → K (tG (w.tc [])) ([curOut d]))⟩
theorem run_spec_l3Draw (c : Cur) (hpre : CurOk c) {K : Tree → List Tree → Prop} (hK : ∀ (w : Word) (d : Cur), (CurOk d) → K (tG (w.tc [])) ([curOut d])) : runK [c_spec_l3DrawRight, c_spec_l1PickInt, c_spec_l1Below, c_spec_l2Draw] (0) [true] pf_spec_l3Draw [.v (.ptr true 0 (c.tc []))] K := by
  conv => whnf
  repeat' (first | (refine sel_i (fun h => ?_) (fun h => ?_) <;> conv => whnf) | (refine chk_c ?_ ?_ <;> conv => whnf) | (refine And.intro ?_ rfl) | (refine And.intro ?_ ?_ <;> conv => whnf) | (intro x y z d hd; (try have g1 := And.left hd); (try have g2 := And.right hd); (try have g3 := And.left (And.right hd)); (try have g4 := And.right (And.right hd)); conv => whnf) | (intro x y d hd; (try have g1 := And.left hd); (try have g2 := And.right hd); (try have g3 := And.left (And.right hd)); (try have g4 := And.right (And.right hd)); conv => whnf) | (intro x d hd; (try have g1 := And.left hd); (try have g2 := And.right hd); (try have g3 := And.left (And.right hd)); (try have g4 := And.right (And.right hd)); conv => whnf) | (intro d hd; (try have g1 := And.left hd); (try have g2 := And.right hd); (try have g3 := And.left (And.right hd)); (try have g4 := And.right (And.right hd)); conv => whnf))
  all_goals first
    | (refine ⟨?_⟩; exact hd)
    | (refine ⟨?_⟩; exact hd.2)
    | (refine ⟨?_⟩; exact hpre)
    | (refine ⟨?_⟩; exact ⟨hd, by decide⟩)
    | (refine ⟨?_⟩; exact ⟨hd.2, by decide⟩)
    | (refine ⟨?_⟩; exact ⟨hd, by simp⟩)
    | (refine ⟨?_⟩; exact ⟨hd.2, by simp⟩)
    | (refine ⟨?_⟩; exact ⟨hpre, by simp⟩)
    | (refine ⟨?_⟩; decide)
    | (refine ⟨?_⟩; rfl)
    | ((try dsimp only); exact kWord (fun w hw => hK w _ hw) _ _ _ _ _ _  hd)
    | ((try dsimp only); exact kWord (fun w hw => hK w _ hw) _ _ _ _ _ _  hd.2)
    | trace_state
theorem ok_spec_l3Draw : FunOk Tryz.prog c_spec_l3Draw := funOkR (E := [c_spec_l3DrawRight, c_spec_l1PickInt, c_spec_l1Below, c_spec_l2Draw]) (envOk_cons ok_spec_l3DrawRight (envOk_cons ok_spec_l1PickInt (envOk_cons ok_spec_l1Below (envOk_cons ok_spec_l2Draw (envOk_nil))))) mixd Tryz.func159 (pf := pf_spec_l3Draw) (by kernel_rfl) fun ts K h => by
  obtain ⟨t0, e0, h⟩ := as1_out h
  subst e0
  obtain ⟨c, e1, hq⟩ := arQ_out rd_cur h
  clear h
  subst e1
  have h := hq
  clear hq
  obtain ⟨hpre, h⟩ := chk_o h
  exact ⟨Nat.le_of_ble_eq_true (show Nat.ble 1 Tryz.f159.ntmps = true by kernel_rfl), _, run_spec_l3Draw c hpre h⟩

def pf_spec_l6DrawIns : PF := ⟨[.c 2 true 5], .seq (.reg [.s (.alloc 2 [.int .i64 0, .int .i64 0, .int .i64 0, .int .i64 0, .int .i64 0])]) (.seq (.reg [.s (.mv 9 (.t 0)), .s (.call (some 10) 99 [(.t 9), (.k (.v (.c (.int .i64 4))))]), .s (.bin 11 .add (.k (.v (.c (.int .i64 1)))) (.t 10)), .s (.mv 12 (.t 0)), .s (.call (some 13) 99 [(.t 12), (.k (.v (.c (.int .i64 4))))]), .s (.mv 14 (.t 0)), .s (.call (some 15) 99 [(.t 14), (.k (.v (.c (.int .i64 4))))]), .s (.mv 16 (.t 0)), .s (.bs 17 (.int .i64) [(.k (.v (.c (.int .i64 0)))), (.k (.v (.c (.int .i64 0)))), (.k (.v (.c (.int .i64 1)))), (.k (.v (.c (.int .i64 2)))), (.k (.v (.c (.int .i64 3)))), (.k (.v (.c (.int .i64 (-1))))), (.k (.v (.c (.int .i64 20))))]), .s (.call (some 18) 93 [(.t 16), (.t 17)]), .s (.mv 3 (.t 11)), .s (.mv 4 (.t 13)), .s (.mv 5 (.t 15)), .s (.mv 6 (.t 18))]) (.seq (.reg [.s (.mv 19 (.t 0)), .s (.bs 20 (.int .i64) [(.k (.v (.c (.int .i64 1)))), (.k (.v (.c (.int .i64 1)))), (.k (.v (.c (.int .i64 1)))), (.k (.v (.c (.int .i64 2)))), (.k (.v (.c (.int .i64 3)))), (.k (.v (.c (.int .i64 4)))), (.k (.v (.c (.int .i64 5)))), (.k (.v (.c (.int .i64 5)))), (.k (.v (.c (.int .i64 6)))), (.k (.v (.c (.int .i64 6)))), (.k (.v (.c (.int .i64 7)))), (.k (.v (.c (.int .i64 8)))), (.k (.v (.c (.int .i64 9)))), (.k (.v (.c (.int .i64 10)))), (.k (.v (.c (.int .i64 10)))), (.k (.v (.c (.int .i64 10)))), (.k (.v (.c (.int .i64 11)))), (.k (.v (.c (.int .i64 11)))), (.k (.v (.c (.int .i64 11)))), (.k (.v (.c (.int .i64 12)))), (.k (.v (.c (.int .i64 13)))), (.k (.v (.c (.int .i64 13)))), (.k (.v (.c (.int .i64 14)))), (.k (.v (.c (.int .i64 15))))]), .s (.call (some 21) 93 [(.t 19), (.t 20)]), .s (.build 22 [.int .i64 0, .int .i64 0, .int .i64 0, .int .i64 0, .int .i64 0] [(0, 1, (.t 21))]), .s (.alloc 7 [.int .i64 0, .int .i64 0, .int .i64 0, .int .i64 0, .int .i64 0]), .s (.store 5 (.t 7) (.t 22))]) (.seq (.reg [.s (.fa 23 (.t 7) 0), .s (.load 24 false 1 (.t 23)), .s (.call (some 25) 164 [(.t 24)]), .s (.mv 8 (.t 25))]) (.seq (.seq (.reg [.s (.mv 26 (.t 8)), .s (.bin 27 .and (.t 26) (.k (.v (.c (.int .i64 1))))), .s (.bin 28 .neq (.t 27) (.k (.v (.c (.int .i64 0)))))]) (.cond (.t 28) (.reg [.s (.mv 29 (.t 3)), .s (.fa 30 (.t 7) 1), .s (.store 1 (.t 30) (.t 29))]) (.skip))) (.seq (.seq (.reg [.s (.mv 31 (.t 8)), .s (.bin 32 .and (.t 31) (.k (.v (.c (.int .i64 2))))), .s (.bin 33 .neq (.t 32) (.k (.v (.c (.int .i64 0)))))]) (.cond (.t 33) (.reg [.s (.mv 34 (.t 4)), .s (.fa 35 (.t 7) 2), .s (.store 1 (.t 35) (.t 34))]) (.skip))) (.seq (.seq (.reg [.s (.mv 36 (.t 8)), .s (.bin 37 .and (.t 36) (.k (.v (.c (.int .i64 4))))), .s (.bin 38 .neq (.t 37) (.k (.v (.c (.int .i64 0)))))]) (.cond (.t 38) (.reg [.s (.mv 39 (.t 5)), .s (.fa 40 (.t 7) 3), .s (.store 1 (.t 40) (.t 39))]) (.skip))) (.seq (.seq (.reg [.s (.mv 41 (.t 8)), .s (.bin 42 .and (.t 41) (.k (.v (.c (.int .i64 8))))), .s (.bin 43 .neq (.t 42) (.k (.v (.c (.int .i64 0)))))]) (.cond (.t 43) (.reg [.s (.mv 44 (.t 6)), .s (.fa 45 (.t 7) 4), .s (.store 1 (.t 45) (.t 44))]) (.skip))) (.seq (.reg [.s (.load 46 true 5 (.t 7)), .s (.store 5 (.t 2) (.t 46))]) (.ret)))))))))⟩
def c_spec_l6DrawIns : Fun := ⟨200, [true], fun ts K => as1 ts fun t0 => arQ pCurT t0 fun c => chk (CurOk c) (∀ (x : Inst) (d : Cur), (CurOk d) → K (tG (x.tc [])) ([curOut d]))⟩
theorem run_spec_l6DrawIns (c : Cur) (hpre : CurOk c) {K : Tree → List Tree → Prop} (hK : ∀ (x : Inst) (d : Cur), (CurOk d) → K (tG (x.tc [])) ([curOut d])) : runK [c_spec_l1PickInt, c_spec_l1Below, c_spec_l6Has] (0) [true] pf_spec_l6DrawIns [.v (.ptr true 0 (c.tc []))] K := by
  conv => whnf
  repeat' (first | (refine sel_i (fun h => ?_) (fun h => ?_) <;> conv => whnf) | (refine chk_c ?_ ?_ <;> conv => whnf) | (refine And.intro ?_ rfl) | (refine And.intro ?_ ?_ <;> conv => whnf) | (intro x y z d hd; (try have g1 := And.left hd); (try have g2 := And.right hd); (try have g3 := And.left (And.right hd)); (try have g4 := And.right (And.right hd)); conv => whnf) | (intro x y d hd; (try have g1 := And.left hd); (try have g2 := And.right hd); (try have g3 := And.left (And.right hd)); (try have g4 := And.right (And.right hd)); conv => whnf) | (intro x d hd; (try have g1 := And.left hd); (try have g2 := And.right hd); (try have g3 := And.left (And.right hd)); (try have g4 := And.right (And.right hd)); conv => whnf) | (intro d hd; (try have g1 := And.left hd); (try have g2 := And.right hd); (try have g3 := And.left (And.right hd)); (try have g4 := And.right (And.right hd)); conv => whnf))
  all_goals first
    | (refine ⟨?_⟩; exact hd)
    | (refine ⟨?_⟩; exact hd.2)
    | (refine ⟨?_⟩; exact hpre)
    | (refine ⟨?_⟩; exact ⟨hd, by decide⟩)
    | (refine ⟨?_⟩; exact ⟨hd.2, by decide⟩)
    | (refine ⟨?_⟩; exact ⟨hd, by simp⟩)
    | (refine ⟨?_⟩; exact ⟨hd.2, by simp⟩)
    | (refine ⟨?_⟩; exact ⟨hpre, by simp⟩)
    | (refine ⟨?_⟩; decide)
    | (refine ⟨?_⟩; rfl)
    | ((try dsimp only); exact kInst (fun w hw => hK w _ hw) _ _ _ _ _  hd)
    | ((try dsimp only); exact kInst (fun w hw => hK w _ hw) _ _ _ _ _  hd.2)
    | trace_state
theorem ok_spec_l6DrawIns : FunOk Tryz.prog c_spec_l6DrawIns := funOkR (E := [c_spec_l1PickInt, c_spec_l1Below, c_spec_l6Has]) (envOk_cons ok_spec_l1PickInt (envOk_cons ok_spec_l1Below (envOk_cons ok_spec_l6Has (envOk_nil)))) mixd Tryz.func200 (pf := pf_spec_l6DrawIns) (by kernel_rfl) fun ts K h => by
  obtain ⟨t0, e0, h⟩ := as1_out h
  subst e0
  obtain ⟨c, e1, hq⟩ := arQ_out rd_cur h
  clear h
  subst e1
  have h := hq
  clear hq
  obtain ⟨hpre, h⟩ := chk_o h
  exact ⟨Nat.le_of_ble_eq_true (show Nat.ble 1 Tryz.f200.ntmps = true by kernel_rfl), _, run_spec_l6DrawIns c hpre h⟩

def lb_spec_l6DrawCode_0 : PC := .seq (.seq (.reg [.s (.mv 39 (.t 5)), .s (.mv 40 (.t 4)), .s (.bin 41 .lss (.t 39) (.t 40))]) (.cond (.t 41) (.skip) (.exit 1))) (.seq (.blk 2 (.reg [.s (.mv 44 (.t 3)), .s (.mv 45 (.t 0)), .s (.call (some 46) 200 [(.t 45)]), .s (.bs 47 .inst [(.t 46)]), .s (.app 48 .inst (.t 44) (.t 47)), .s (.mv 3 (.t 48))])) (.reg [.s (.mv 42 (.t 5)), .s (.bin 43 .add (.t 42) (.k (.v (.c (.int .i64 1))))), .s (.mv 5 (.t 43))]))
def pf_spec_l6DrawCode : PF := ⟨[.t 2], .seq (.reg [.s (.mv 2 (.k (.v (.c (.nils .inst)))))]) (.seq (.reg [.s (.bs 6 .inst []), .s (.mv 3 (.t 6))]) (.seq (.seq (.reg [.s (.mv 7 (.t 0)), .s (.call (some 8) 99 [(.t 7), (.k (.v (.c (.int .i64 4))))])]) (.blk 0 (.seq (.reg [.s (.bin 10 .eql (.t 8) (.k (.v (.c (.int .i64 0))))), .s (.mv 9 (.t 10))]) (.cond (.t 9) (.reg [.s (.mv 11 (.t 3)), .s (.build 12 [.int .i64 0, .int .i64 0, .int .i64 0, .int .i64 0, .int .i64 0] [(0, 1, (.k (.v (.c (.int .i64 1))))), (1, 1, (.k (.v (.c (.int .i64 1))))), (4, 1, (.k (.v (.c (.int .i64 3)))))]), .s (.build 13 [.int .i64 0, .int .i64 0, .int .i64 0, .int .i64 0, .int .i64 0] [(0, 1, (.k (.v (.c (.int .i64 5))))), (1, 1, (.k (.v (.c (.int .i64 2))))), (2, 1, (.k (.v (.c (.int .i64 0))))), (3, 1, (.k (.v (.c (.int .i64 1)))))]), .s (.build 14 [.int .i64 0, .int .i64 0, .int .i64 0, .int .i64 0, .int .i64 0] [(0, 1, (.k (.v (.c (.int .i64 11))))), (2, 1, (.k (.v (.c (.int .i64 0))))), (3, 1, (.k (.v (.c (.int .i64 2))))), (4, 1, (.k (.v (.c (.int .i64 1)))))]), .s (.build 15 [.int .i64 0, .int .i64 0, .int .i64 0, .int .i64 0, .int .i64 0] [(0, 1, (.k (.v (.c (.int .i64 10))))), (1, 1, (.k (.v (.c (.int .i64 3))))), (2, 1, (.k (.v (.c (.int .i64 0))))), (4, 1, (.k (.v (.c (.int .i64 1)))))]), .s (.bs 16 .inst [(.t 12), (.t 13), (.t 14), (.t 15)]), .s (.app 17 .inst (.t 11) (.t 16)), .s (.mv 3 (.t 17))]) (.seq (.reg [.s (.bin 19 .eql (.t 8) (.k (.v (.c (.int .i64 1))))), .s (.mv 18 (.t 19))]) (.cond (.t 18) (.reg [.s (.mv 20 (.t 3)), .s (.build 21 [.int .i64 0, .int .i64 0, .int .i64 0, .int .i64 0, .int .i64 0] [(0, 1, (.k (.v (.c (.int .i64 1))))), (1, 1, (.k (.v (.c (.int .i64 1))))), (4, 1, (.k (.v (.c (.int .i64 2)))))]), .s (.build 22 [.int .i64 0, .int .i64 0, .int .i64 0, .int .i64 0, .int .i64 0] [(0, 1, (.k (.v (.c (.int .i64 6))))), (1, 1, (.k (.v (.c (.int .i64 4))))), (2, 1, (.k (.v (.c (.int .i64 0))))), (3, 1, (.k (.v (.c (.int .i64 1)))))]), .s (.build 23 [.int .i64 0, .int .i64 0, .int .i64 0, .int .i64 0, .int .i64 0] [(0, 1, (.k (.v (.c (.int .i64 7))))), (1, 1, (.k (.v (.c (.int .i64 2))))), (2, 1, (.k (.v (.c (.int .i64 0))))), (3, 1, (.k (.v (.c (.int .i64 4)))))]), .s (.build 24 [.int .i64 0, .int .i64 0, .int .i64 0, .int .i64 0, .int .i64 0] [(0, 1, (.k (.v (.c (.int .i64 8))))), (1, 1, (.k (.v (.c (.int .i64 3))))), (2, 1, (.k (.v (.c (.int .i64 2))))), (3, 1, (.k (.v (.c (.int .i64 4)))))]), .s (.bs 25 .inst [(.t 21), (.t 22), (.t 23), (.t 24)]), .s (.app 26 .inst (.t 20) (.t 25)), .s (.mv 3 (.t 26))]) (.seq (.reg [.s (.bin 28 .eql (.t 8) (.k (.v (.c (.int .i64 2))))), .s (.mv 27 (.t 28))]) (.cond (.t 27) (.reg [.s (.mv 29 (.t 3)), .s (.build 30 [.int .i64 0, .int .i64 0, .int .i64 0, .int .i64 0, .int .i64 0] [(0, 1, (.k (.v (.c (.int .i64 1))))), (1, 1, (.k (.v (.c (.int .i64 1))))), (4, 1, (.k (.v (.c (.int .i64 5)))))]), .s (.build 31 [.int .i64 0, .int .i64 0, .int .i64 0, .int .i64 0, .int .i64 0] [(0, 1, (.k (.v (.c (.int .i64 1))))), (1, 1, (.k (.v (.c (.int .i64 2))))), (4, 1, (.k (.v (.c (.int .i64 (-1))))))]), .s (.build 32 [.int .i64 0, .int .i64 0, .int .i64 0, .int .i64 0, .int .i64 0] [(0, 1, (.k (.v (.c (.int .i64 2))))), (1, 1, (.k (.v (.c (.int .i64 1))))), (2, 1, (.k (.v (.c (.int .i64 1))))), (3, 1, (.k (.v (.c (.int .i64 2)))))]), .s (.build 33 [.int .i64 0, .int .i64 0, .int .i64 0, .int .i64 0, .int .i64 0] [(0, 1, (.k (.v (.c (.int .i64 13))))), (2, 1, (.k (.v (.c (.int .i64 1))))), (4, 1, (.k (.v (.c (.int .i64 2)))))]), .s (.build 34 [.int .i64 0, .int .i64 0, .int .i64 0, .int .i64 0, .int .i64 0] [(0, 1, (.k (.v (.c (.int .i64 13))))), (2, 1, (.k (.v (.c (.int .i64 5))))), (4, 1, (.k (.v (.c (.int .i64 (-2))))))]), .s (.bs 35 .inst [(.t 30), (.t 31), (.t 32), (.t 33), (.t 34)]), .s (.app 36 .inst (.t 29) (.t 35)), .s (.mv 3 (.t 36))]) (.skip))))))))) (.seq (.reg [.s (.mv 37 (.t 0)), .s (.call (some 38) 99 [(.t 37), (.k (.v (.c (.int .i64 14))))]), .s (.mv 4 (.t 38))]) (.seq (.seq (.reg [.s (.mv 5 (.k (.v (.c (.int .i64 0)))))]) (.blk 1 (.loop [0, 3, 4, 5] lb_spec_l6DrawCode_0))) (.seq (.reg [.s (.mv 49 (.t 3)), .s (.build 50 [.int .i64 0, .int .i64 0, .int .i64 0, .int .i64 0, .int .i64 0] [(0, 1, (.k (.v (.c (.int .i64 15)))))]), .s (.bs 51 .inst [(.t 50)]), .s (.app 52 .inst (.t 49) (.t 51)), .s (.mv 2 (.t 52))]) (.ret))))))⟩
def c_spec_l6DrawCode : Fun := ⟨138, [true], fun ts K => as1 ts fun t0 => arQ pCurT t0 fun c => chk (CurOk c) (∀ (l : List Inst) (d : Cur), (1 ≤ l.length ∧ l.length ≤ 20 ∧ CurOk d) → K (tL true .inst l) ([curOut d]))⟩
theorem run_spec_l6DrawCode (c : Cur) (hpre : CurOk c) {K : Tree → List Tree → Prop} (hK : ∀ (l : List Inst) (d : Cur), (1 ≤ l.length ∧ l.length ≤ 20 ∧ CurOk d) → K (tL true .inst l) ([curOut d])) : runK [c_spec_l1Below, c_spec_l6DrawIns] (20) [true] pf_spec_l6DrawCode [.v (.ptr true 0 (c.tc []))] K := by
  conv => whnf
  repeat' (first | (refine sel_i (fun h => ?_) (fun h => ?_) <;> conv => whnf) | (refine chk_c ?_ ?_ <;> conv => whnf) | (refine And.intro ?_ rfl) | (refine And.intro ?_ ?_ <;> conv => whnf) | (intro x y z d hd; (try have g1 := And.left hd); (try have g2 := And.right hd); (try have g3 := And.left (And.right hd)); (try have g4 := And.right (And.right hd)); conv => whnf) | (intro x y d hd; (try have g1 := And.left hd); (try have g2 := And.right hd); (try have g3 := And.left (And.right hd)); (try have g4 := And.right (And.right hd)); conv => whnf) | (intro x d hd; (try have g1 := And.left hd); (try have g2 := And.right hd); (try have g3 := And.left (And.right hd)); (try have g4 := And.right (And.right hd)); conv => whnf) | (intro d hd; (try have g1 := And.left hd); (try have g2 := And.right hd); (try have g3 := And.left (And.right hd)); (try have g4 := And.right (And.right hd)); conv => whnf))
  all_goals first
    | (refine ⟨?_⟩; exact hd)
    | (refine ⟨?_⟩; exact hd.2)
    | (refine ⟨?_⟩; exact hpre)
    | (refine ⟨?_⟩; exact ⟨hd, by decide⟩)
    | (refine ⟨?_⟩; exact ⟨hd.2, by decide⟩)
    | (refine ⟨?_⟩; exact ⟨hd, by simp⟩)
    | (refine ⟨?_⟩; exact ⟨hd.2, by simp⟩)
    | (refine ⟨?_⟩; exact ⟨hpre, by simp⟩)
    | (refine ⟨?_⟩; decide)
    | (refine ⟨?_⟩; rfl)
    | skip
  all_goals (
    have hx := hd.1
    refine loop (α := Nat × Cur × List Inst) (fun q => ⟨[(0, .v (.c (.ptr 0 0))), (3, .v (.c (.sl true .inst 2))), (4, .v (.c (.int .i64 x))), (5, .v (.c (.int .i64 (q.1 : Int))))],
        [(2, some (.flat true .inst none q.2.2)), (1, some (.flat false (.int .u8) none q.2.1.b)), (0, some (.box true [.sl false (.int .u8) 1, .int .i64 q.2.1.i, .int .i64 q.2.1.h]))], nums.tail.tail.tail, [.v (.c (.ptr 0 0))], false, []⟩)
      (fun q => (q.1 : Int) ≤ x ∧ CurOk q.2.1 ∧ q.2.2.length ≤ 5 + q.1) (fun q => 14 - q.1) (fun q R hI hR => ?_) (0, d, _) _ ⟨by simp; omega, hd.2, by simp⟩ (by simp)
    obtain ⟨i, e, l⟩ := q
    obtain ⟨hi, he, hl⟩ := hI
    dsimp only at hi he hl
    dsimp only
    conv => whnf
    repeat' (first | (refine sel_i (fun h => ?_) (fun h => ?_) <;> conv => whnf) | (refine chk_c ?_ ?_ <;> conv => whnf) | (refine And.intro ?_ rfl) | (refine And.intro ?_ ?_ <;> conv => whnf) | (intro x y z d hd; (try have g1 := And.left hd); (try have g2 := And.right hd); (try have g3 := And.left (And.right hd)); (try have g4 := And.right (And.right hd)); conv => whnf) | (intro x y d hd; (try have g1 := And.left hd); (try have g2 := And.right hd); (try have g3 := And.left (And.right hd)); (try have g4 := And.right (And.right hd)); conv => whnf) | (intro x d hd; (try have g1 := And.left hd); (try have g2 := And.right hd); (try have g3 := And.left (And.right hd)); (try have g4 := And.right (And.right hd)); conv => whnf) | (intro d hd; (try have g1 := And.left hd); (try have g2 := And.right hd); (try have g3 := And.left (And.right hd)); (try have g4 := And.right (And.right hd)); conv => whnf))
    all_goals first
      | (refine ⟨?_⟩; exact he)
      | (refine ⟨?_⟩; simp; omega)
      | (rw [wrap_id (n := (i : Int) + 1) (by omega) (by omega)]; exact hR (i + 1, _, _) ⟨by simp at h ⊢; omega, by exact hd, by simp; omega⟩ (by simp at h ⊢; omega))
      | exact hK _ ⟨_, _, _⟩ ⟨by simp, by simp; omega, he⟩
      | trace_state)
theorem ok_spec_l6DrawCode : FunOk Tryz.prog c_spec_l6DrawCode := funOkR (E := [c_spec_l1Below, c_spec_l6DrawIns]) (envOk_cons ok_spec_l1Below (envOk_cons ok_spec_l6DrawIns (envOk_nil))) mixd Tryz.func138 (pf := pf_spec_l6DrawCode) (by kernel_rfl) fun ts K h => by
  obtain ⟨t0, e0, h⟩ := as1_out h
  subst e0
  obtain ⟨c, e1, hq⟩ := arQ_out rd_cur h
  clear h
  subst e1
  have h := hq
  clear hq
  obtain ⟨hpre, h⟩ := chk_o h
  exact ⟨Nat.le_of_ble_eq_true (show Nat.ble 1 Tryz.f138.ntmps = true by kernel_rfl), _, run_spec_l6DrawCode c hpre h⟩

theorem kMem {K : Tree → List Tree → Prop} {o : List Tree} {P : Mem → Prop} (hK : ∀ w : Mem, P w → K (tG (w.tc true [])) o) (a : List Word) (b : List Bool) (h : P ⟨a, b⟩) : K (.v (.g [.ow .word a, .ow .bool b])) o := hK ⟨a, b⟩ h
def cuC (d : Cur) (k : Nat) : List Cell := [.sl false (.int .u8) k, .int .i64 d.i, .int .i64 d.h]
theorem memoryOk_setW {m : Mem} (h : memoryOk m = true) {i : Nat} {w : Word} (hw : wordOk w = true) : memoryOk ⟨m.words.set i w, m.gone⟩ = true := by
  obtain ⟨h1, h2, h3⟩ := memoryOk_iff.1 h
  refine memoryOk_iff.2 ⟨by simp [h1], h2, fun v hv => ?_⟩
  rcases mem_set hv with q | q
  · exact h3 v q
  · rw [q]; exact hw
theorem memoryOk_setG {m : Mem} (h : memoryOk m = true) {i : Nat} {b : Bool} : memoryOk ⟨m.words, m.gone.set i b⟩ = true := by
  obtain ⟨h1, h2, h3⟩ := memoryOk_iff.1 h
  exact memoryOk_iff.2 ⟨h1, by simp [h2], h3⟩
theorem memNew_ok : memoryOk memNew = true := by decide +kernel
theorem stateNew_ok : stateOk stateNew = true := by decide +kernel
theorem lMem_of {m : Mem} (h : memoryOk m = true) : LMem m 24 := by
  obtain ⟨h1, h2, h3⟩ := memoryOk_iff.1 h
  exact ⟨by omega, by omega⟩

def lb_spec_l8DrawRight_0 : PC := .seq (.seq (.reg [.s (.mv 7 (.t 4)), .s (.mv 8 (.t 0)), .s (.call (some 9) 99 [(.t 8), (.k (.v (.c (.int .i64 12))))]), .s (.bin 10 .lss (.t 7) (.t 9))]) (.cond (.t 10) (.skip) (.exit 0))) (.seq (.blk 1 (.rgd [0] [.s (.fa 13 (.t 3) 0), .s (.load 14 false 1 (.t 13)), .s (.mv 15 (.t 0)), .s (.call (some 16) 99 [(.t 15), (.k (.v (.c (.int .i64 24))))]), .s (.mv 17 (.t 0)), .s (.call (some 18) 67 [(.t 17)]), .s (.ia 19 .word (.t 14) (.t 16)), .s (.store 6 (.t 19) (.t 18))] (.tk 0 (.tk 1 (.tk 2 (.tk 4 (.one 3 false (.one 5 false (.tk 6 (.one 7 true (.done none))))))))))) (.reg [.s (.mv 11 (.t 4)), .s (.bin 12 .add (.t 11) (.k (.v (.c (.int .i64 1))))), .s (.mv 4 (.t 12))]))
def lb_spec_l8DrawRight_1 : PC := .seq (.seq (.reg [.s (.mv 20 (.t 5)), .s (.mv 21 (.t 0)), .s (.call (some 22) 99 [(.t 21), (.k (.v (.c (.int .i64 4))))]), .s (.bin 23 .lss (.t 20) (.t 22))]) (.cond (.t 23) (.skip) (.exit 2))) (.seq (.blk 3 (.rgd [0] [.s (.fa 26 (.t 3) 1), .s (.load 27 false 1 (.t 26)), .s (.mv 28 (.t 0)), .s (.call (some 29) 99 [(.t 28), (.k (.v (.c (.int .i64 24))))]), .s (.ia 30 .bool (.t 27) (.t 29)), .s (.store 1 (.t 30) (.k (.v (.c .tt))))] (.tk 0 (.tk 1 (.tk 2 (.one 3 false (.tk 4 (.one 5 true (.done none))))))))) (.reg [.s (.mv 24 (.t 5)), .s (.bin 25 .add (.t 24) (.k (.v (.c (.int .i64 1))))), .s (.mv 5 (.t 25))]))
def pf_spec_l8DrawRight : PF := ⟨[.c 2 true 2], .seq (.reg [.s (.alloc 2 [.nils .word, .nils .bool])]) (.seq (.reg [.s (.call (some 6) 166 []), .s (.alloc 3 [.nils .word, .nils .bool]), .s (.store 2 (.t 3) (.t 6))]) (.seq (.seq (.reg [.s (.mv 4 (.k (.v (.c (.int .i64 0)))))]) (.blk 0 (.loop [0, 2, 3, 4] lb_spec_l8DrawRight_0))) (.seq (.seq (.reg [.s (.mv 5 (.k (.v (.c (.int .i64 0)))))]) (.blk 2 (.loop [0, 2, 3, 5] lb_spec_l8DrawRight_1))) (.seq (.reg [.s (.load 31 true 2 (.t 3)), .s (.store 2 (.t 2) (.t 31))]) (.ret)))))⟩
def c_spec_l8DrawRight : Fun := ⟨140, [true], fun ts K => as1 ts fun t0 => arQ pCurT t0 fun c => chk (CurOk c) (∀ (m : Mem) (d : Cur), (memoryOk m = true ∧ CurOk d) → K (tG (m.tc true [])) ([curOut d]))⟩
theorem run_spec_l8DrawRight (c : Cur) (hpre : CurOk c) {K : Tree → List Tree → Prop} (hK : ∀ (m : Mem) (d : Cur), (memoryOk m = true ∧ CurOk d) → K (tG (m.tc true [])) ([curOut d])) : runK [c_spec_l3DrawRight, c_spec_l1Below, c_spec_MemoryNew] (20) [true] pf_spec_l8DrawRight [.v (.ptr true 0 (c.tc []))] K := by
  conv => whnf
  refine loop (α := Nat × Cur × Mem) (fun q => ⟨[(0, .v (.c (.ptr 0 0))), (2, .v (.c (.ptr 2 0))), (3, .v (.c (.ptr 3 0))), (4, .v (.c (.int .i64 (q.1 : Int))))],
        [(5, some (.flat true .bool none q.2.2.gone)), (4, some (.flat true .word none q.2.2.words)), (3, some (.box true [.sl false .word 4, .sl false .bool 5])), (2, some (.box true [.nils .word, .nils .bool])), (1, some (.flat false (.int .u8) none q.2.1.b)), (0, some (.box true (cuC q.2.1 1)))], nums.tail.tail.tail.tail.tail.tail, [.v (.c (.ptr 0 0))], false, []⟩)
    (fun q => q.1 ≤ 12 ∧ CurOk q.2.1 ∧ memoryOk q.2.2 = true) (fun q => 12 - q.1) (fun q R hI hR => ?_) (0, c, memNew) _ ⟨by simp, hpre, memNew_ok⟩ (by simp)
  obtain ⟨i, e, m⟩ := q
  obtain ⟨hi, he, hm⟩ := hI
  dsimp only at hi he hm
  dsimp only
  have hl := memoryOk_iff.1 hm
  conv => whnf
  repeat' (first | (refine sel_i (fun h => ?_) (fun h => ?_) <;> conv => whnf) | (refine chk_c ?_ ?_ <;> conv => whnf) | (refine And.intro ?_ rfl) | (refine And.intro ?_ ?_ <;> conv => whnf) | (intro x y z d hd; (try have g1 := And.left hd); (try have g2 := And.right hd); (try have g3 := And.left (And.right hd)); (try have g4 := And.right (And.right hd)); conv => whnf) | (intro x y d hd; (try have g1 := And.left hd); (try have g2 := And.right hd); (try have g3 := And.left (And.right hd)); (try have g4 := And.right (And.right hd)); conv => whnf) | (intro x d hd; (try have g1 := And.left hd); (try have g2 := And.right hd); (try have g3 := And.left (And.right hd)); (try have g4 := And.right (And.right hd)); conv => whnf) | (intro d hd; (try have g1 := And.left hd); (try have g2 := And.right hd); (try have g3 := And.left (And.right hd)); (try have g4 := And.right (And.right hd)); conv => whnf))
  all_goals first
    | (refine ⟨?_⟩; exact he)
    | (refine ⟨?_⟩; exact hd.2)
    | (refine ⟨?_⟩; simp at *; omega)
    | (rw [wrap_id (n := (i : Int) + 1) (by omega) (by omega)]; exact hR (i + 1, _, ⟨_, _⟩) ⟨by simp at h ⊢; omega, by exact hd.2, memoryOk_setW hm hd.1⟩ (by simp at h ⊢; omega))
    | skip
  clear hR he hl hi
  refine loop (α := Nat × Cur × Mem) (fun q => ⟨[(0, .v (.c (.ptr 0 0))), (2, .v (.c (.ptr 2 0))), (3, .v (.c (.ptr 3 0))), (5, .v (.c (.int .i64 (q.1 : Int))))],
        [(5, some (.flat true .bool none q.2.2.gone)), (4, some (.flat true .word none q.2.2.words)), (3, some (.box true [.sl false .word 4, .sl false .bool 5])), (2, some (.box true [.nils .word, .nils .bool])), (1, some (.flat false (.int .u8) none q.2.1.b)), (0, some (.box true (cuC q.2.1 1)))], nums.tail.tail.tail.tail.tail.tail, [.v (.c (.ptr 0 0))], false, []⟩)
    (fun q => q.1 ≤ 12 ∧ CurOk q.2.1 ∧ memoryOk q.2.2 = true) (fun q => 12 - q.1) (fun q R hI hR => ?_) (0, d, m) _ ⟨by simp, hd.2, hm⟩ (by simp)
  obtain ⟨i, e, m⟩ := q
  obtain ⟨hi, he, hm⟩ := hI
  dsimp only at hi he hm
  dsimp only
  have hl := memoryOk_iff.1 hm
  conv => whnf
  repeat' (first | (refine sel_i (fun h => ?_) (fun h => ?_) <;> conv => whnf) | (refine chk_c ?_ ?_ <;> conv => whnf) | (refine And.intro ?_ rfl) | (refine And.intro ?_ ?_ <;> conv => whnf) | (intro x y z d hd; (try have g1 := And.left hd); (try have g2 := And.right hd); (try have g3 := And.left (And.right hd)); (try have g4 := And.right (And.right hd)); conv => whnf) | (intro x y d hd; (try have g1 := And.left hd); (try have g2 := And.right hd); (try have g3 := And.left (And.right hd)); (try have g4 := And.right (And.right hd)); conv => whnf) | (intro x d hd; (try have g1 := And.left hd); (try have g2 := And.right hd); (try have g3 := And.left (And.right hd)); (try have g4 := And.right (And.right hd)); conv => whnf) | (intro d hd; (try have g1 := And.left hd); (try have g2 := And.right hd); (try have g3 := And.left (And.right hd)); (try have g4 := And.right (And.right hd)); conv => whnf))
  all_goals first
    | (refine ⟨?_⟩; exact he)
    | (refine ⟨?_⟩; exact hd.2)
    | (refine ⟨?_⟩; simp at *; omega)
    | (rw [wrap_id (n := (i : Int) + 1) (by omega) (by omega)]; have h := of_decide_eq_true h; exact hR (i + 1, d, ⟨m.words, m.gone.set x.toNat true⟩) ⟨by dsimp only; omega, hd.2, memoryOk_setG hm⟩ (by dsimp only; omega))
    | (exact kMem (fun m hm => hK m _ hm) _ _ ⟨hm, hd.2⟩)
    | trace_state
theorem ok_spec_l8DrawRight : FunOk Tryz.prog c_spec_l8DrawRight := funOkR (E := [c_spec_l3DrawRight, c_spec_l1Below, c_spec_MemoryNew]) (envOk_cons ok_spec_l3DrawRight (envOk_cons ok_spec_l1Below (envOk_cons ok_spec_MemoryNew (envOk_nil)))) mixd Tryz.func140 (pf := pf_spec_l8DrawRight) (by kernel_rfl) fun ts K h => by
  obtain ⟨t0, e0, h⟩ := as1_out h
  subst e0
  obtain ⟨c, e1, hq⟩ := arQ_out rd_cur h
  clear h
  subst e1
  have h := hq
  clear hq
  obtain ⟨hpre, h⟩ := chk_o h
  exact ⟨Nat.le_of_ble_eq_true (show Nat.ble 1 Tryz.f140.ntmps = true by kernel_rfl), _, run_spec_l8DrawRight c hpre h⟩

def pf_spec_l8Draw : PF := ⟨[.c 2 true 2], .seq (.reg [.s (.alloc 2 [.nils .word, .nils .bool])]) (.seq (.reg [.s (.mv 4 (.t 0)), .s (.call (some 5) 140 [(.t 4)]), .s (.alloc 3 [.nils .word, .nils .bool]), .s (.store 2 (.t 3) (.t 5))]) (.seq (.seq (.reg [.s (.mv 6 (.t 0)), .s (.call (some 7) 99 [(.t 6), (.k (.v (.c (.int .i64 15))))])]) (.blk 0 (.seq (.reg [.s (.bin 9 .eql (.t 7) (.k (.v (.c (.int .i64 0))))), .s (.mv 8 (.t 9))]) (.cond (.t 8) (.reg [.s (.fa 10 (.t 3) 0), .s (.load 11 false 1 (.t 10)), .s (.slc 12 .word (.t 11) (some (.k (.v (.c (.int .i64 1))))) none), .s (.fa 13 (.t 3) 0), .s (.store 1 (.t 13) (.t 12))]) (.seq (.reg [.s (.bin 15 .eql (.t 7) (.k (.v (.c (.int .i64 1))))), .s (.mv 14 (.t 15))]) (.cond (.t 14) (.rgd [0] [.s (.fa 16 (.t 3) 0), .s (.load 17 false 1 (.t 16)), .s (.mv 18 (.t 0)), .s (.call (some 19) 99 [(.t 18), (.k (.v (.c (.int .i64 24))))]), .s (.mv 20 (.t 0)), .s (.call (some 21) 159 [(.t 20)]), .s (.ia 22 .word (.t 17) (.t 19)), .s (.store 6 (.t 22) (.t 21))] (.tk 0 (.tk 1 (.tk 2 (.tk 4 (.one 3 false (.one 5 false (.tk 6 (.one 7 true (.done none)))))))))) (.seq (.reg [.s (.bin 24 .eql (.t 7) (.k (.v (.c (.int .i64 2))))), .s (.mv 23 (.t 24))]) (.cond (.t 23) (.reg [.s (.fa 25 (.t 3) 1), .s (.store 1 (.t 25) (.k (.v (.c (.nils .bool)))))]) (.skip))))))))) (.seq (.reg [.s (.load 26 true 2 (.t 3)), .s (.store 2 (.t 2) (.t 26))]) (.ret))))⟩
def c_spec_l8Draw : Fun := ⟨160, [true], fun ts K => as1 ts fun t0 => arQ pCurT t0 fun c => chk (CurOk c) (∀ (m : Mem) (d : Cur), (LMem m 24 ∧ CurOk d) → K (tG (m.tc true [])) ([curOut d]))⟩
theorem run_spec_l8Draw (c : Cur) (hpre : CurOk c) {K : Tree → List Tree → Prop} (hK : ∀ (m : Mem) (d : Cur), (LMem m 24 ∧ CurOk d) → K (tG (m.tc true [])) ([curOut d])) : runK [c_spec_l1Below, c_spec_l8DrawRight, c_spec_l3Draw] (0) [true] pf_spec_l8Draw [.v (.ptr true 0 (c.tc []))] K := by
  conv => whnf
  repeat' (first | (refine sel_i (fun h => ?_) (fun h => ?_) <;> conv => whnf) | (refine chk_c ?_ ?_ <;> conv => whnf) | (refine And.intro ?_ rfl) | (refine And.intro ?_ ?_ <;> conv => whnf) | (intro x y z d hd; (try have g1 := And.left hd); (try have g2 := And.right hd); (try have g3 := And.left (And.right hd)); (try have g4 := And.right (And.right hd)); conv => whnf) | (intro x y d hd; (try have g1 := And.left hd); (try have g2 := And.right hd); (try have g3 := And.left (And.right hd)); (try have g4 := And.right (And.right hd)); conv => whnf) | (intro x d hd; (try have g1 := And.left hd); (try have g2 := And.right hd); (try have g3 := And.left (And.right hd)); (try have g4 := And.right (And.right hd)); conv => whnf) | (intro d hd; (try have g1 := And.left hd); (try have g2 := And.right hd); (try have g3 := And.left (And.right hd)); (try have g4 := And.right (And.right hd)); conv => whnf))
  all_goals first
    | (refine ⟨?_⟩; exact hd)
    | (refine ⟨?_⟩; exact hd.2)
    | (refine ⟨?_⟩; exact hd.2.2)
    | (refine ⟨?_⟩; exact hpre)
    | (refine ⟨?_⟩; exact ⟨hd, by simp⟩)
    | (refine ⟨?_⟩; exact ⟨hd.2, by simp⟩)
    | (refine ⟨?_⟩; decide)
    | (refine ⟨?_⟩; rfl)
    | (refine ⟨?_⟩; have := memoryOk_iff.1 (by assumption); simp at *; omega)
    | (exact kMem (fun m hm => hK m _ hm) _ _ ⟨lMem_of (by assumption), hd.2⟩)
    | (have hl := lMem_of (by assumption); exact kMem (fun m hm => hK m _ hm) _ _ ⟨⟨hl.1, Nat.zero_le _⟩, hd.2⟩)
    | (have hl := memoryOk_iff.1 (by assumption); exact kMem (fun m hm => hK m _ hm) _ _ ⟨⟨by simp [win]; omega, by dsimp only; omega⟩, hd.2⟩)
    | (have hl := memoryOk_iff.1 (by assumption); exact kMem (fun m hm => hK m _ hm) _ _ ⟨⟨by simp; omega, by dsimp only; omega⟩, hd⟩)
    | trace_state
theorem ok_spec_l8Draw : FunOk Tryz.prog c_spec_l8Draw := funOkR (E := [c_spec_l1Below, c_spec_l8DrawRight, c_spec_l3Draw]) (envOk_cons ok_spec_l1Below (envOk_cons ok_spec_l8DrawRight (envOk_cons ok_spec_l3Draw (envOk_nil)))) mixd Tryz.func160 (pf := pf_spec_l8Draw) (by kernel_rfl) fun ts K h => by
  obtain ⟨t0, e0, h⟩ := as1_out h
  subst e0
  obtain ⟨c, e1, hq⟩ := arQ_out rd_cur h
  clear h
  subst e1
  have h := hq
  clear hq
  obtain ⟨hpre, h⟩ := chk_o h
  exact ⟨Nat.le_of_ble_eq_true (show Nat.ble 1 Tryz.f160.ntmps = true by kernel_rfl), _, run_spec_l8Draw c hpre h⟩


theorem U8s.app {a b : List Int} (ha : U8s a) (hb : U8s b) : U8s (a ++ b) := fun x hx => by
  rcases List.mem_append.1 hx with q | q
  · exact ha x q
  · exact hb x q
theorem U8s.put {a : List Int} (ha : U8s a) {i : Nat} {v : Int} (hv : 0 ≤ v ∧ v ≤ 255) : U8s (a.set i v) := fun x hx => by
  rcases mem_set hx with q | q
  · exact ha x q
  · rw [q]; exact hv

theorem eq_end {α : Type} [DecidableEq α] {xs ys : List α} {i : Nat} (hl : xs.length = ys.length) (h : xs.length ≤ i) (he : xs.take i = ys.take i) : decide (xs = ys) = true := by
  rw [List.take_of_length_le h, List.take_of_length_le (by omega)] at he
  exact decide_eq_true he
theorem eq_no {α : Type} [DecidableEq α] {xs ys : List α} {i : Nat} {z : α} (hne : ¬ xs.getD i z = ys.getD i z) : decide (xs = ys) = false :=
  decide_eq_false fun e => hne (by rw [e])
theorem eq_yes {α : Type} {xs ys : List α} {i : Nat} {z : α} (hl : xs.length = ys.length) (h : i < xs.length) (hq : xs.getD i z = ys.getD i z) (he : xs.take i = ys.take i) : xs.take (i + 1) = ys.take (i + 1) := by
  have h2 : i < ys.length := by omega
  rw [List.take_add_one, List.take_add_one, he, List.getElem?_eq_getElem h, List.getElem?_eq_getElem h2]
  rw [List.getD_eq_getElem?_getD, List.getD_eq_getElem?_getD, List.getElem?_eq_getElem h, List.getElem?_eq_getElem h2] at hq
  simp only [Option.getD_some] at hq
  rw [hq]
theorem len_ne {α : Type} [DecidableEq α] {xs ys : List α} (h : ((xs.length : Int) != (ys.length : Int)) = true) : decide (xs = ys) = false :=
  decide_eq_false fun e => by rw [e] at h; simp at h
theorem len_eq {α : Type} {xs ys : List α} (h : ((xs.length : Int) != (ys.length : Int)) = false) : xs.length = ys.length := by
  simp at h; omega
theorem eqWd {a b : Word} : (a.n == b.n && (a.is == b.is && (a.key.base == b.key.base && (a.key.top == b.key.top && (a.key.perms == b.key.perms && a.key.sealed == b.key.sealed))))) = decide (a = b) := by
  obtain ⟨a1, a2, a3, a4, a5, a6⟩ := a
  obtain ⟨b1, b2, b3, b4, b5, b6⟩ := b
  rw [Bool.eq_iff_iff]
  simp
def lb_laws_sameWords_0 : PC := .seq (.seq (.reg [.s (.mv 11 (.t 5)), .s (.mv 12 (.t 0)), .s (.len 13 false (.t 12)), .s (.bin 14 .lss (.t 11) (.t 13))]) (.cond (.t 14) (.skip) (.exit 0))) (.seq (.blk 1 (.seq (.rgd [] [.s (.mv 17 (.t 0)), .s (.mv 18 (.t 5)), .s (.ia 19 .word (.t 17) (.t 18)), .s (.load 20 true 6 (.t 19)), .s (.mv 21 (.t 1)), .s (.mv 22 (.t 5)), .s (.ia 23 .word (.t 21) (.t 22)), .s (.load 24 true 6 (.t 23)), .s (.eqs 25 true [.i, .b, .i, .i, .i, .i] true (.t 20) (.t 24))] (.tk 0 (.tk 1 (.tk 2 (.tk 3 (.tk 4 (.tk 5 (.tk 6 (.tk 7 (.tk 8 (.done none))))))))))) (.cond (.t 25) (.seq (.reg [.s (.mv 4 (.k (.v (.c .ff))))]) (.ret)) (.skip)))) (.reg [.s (.mv 15 (.t 5)), .s (.bin 16 .add (.t 15) (.k (.v (.c (.int .i64 1))))), .s (.mv 5 (.t 16))]))
def pf_laws_sameWords : PF := ⟨[.t 4], .seq (.reg [.s (.mv 4 (.k (.v (.c .ff))))]) (.seq (.seq (.reg [.s (.mv 6 (.t 0)), .s (.len 7 false (.t 6)), .s (.mv 8 (.t 1)), .s (.len 9 false (.t 8)), .s (.bin 10 .neq (.t 7) (.t 9))]) (.cond (.t 10) (.seq (.reg [.s (.mv 4 (.k (.v (.c .ff))))]) (.ret)) (.skip))) (.seq (.seq (.reg [.s (.mv 5 (.k (.v (.c (.int .i64 0)))))]) (.blk 0 (.loop [0, 1, 5] lb_laws_sameWords_0))) (.seq (.reg [.s (.mv 4 (.k (.v (.c .tt))))]) (.ret))))⟩
def c_laws_sameWords : Fun := ⟨51, [], fun ts K => as2 ts fun t0 t1 => arC (pL .word) t0 fun a => arC (pL .word) t1 fun b => chk (a.length ≤ 2147483647 ∧ b.length ≤ 2147483647) (K (tB (decide (a = b))) [])⟩
theorem run_laws_sameWords (a : List (FT.Ty .word)) (b : List (FT.Ty .word)) (hpre : a.length ≤ 2147483647 ∧ b.length ≤ 2147483647) : runK [] (a.length + 1) [] pf_laws_sameWords [tL false .word a, tL false .word b] fun r o => r = tB (decide (a = b)) ∧ o = [] := by
  obtain ⟨l1, l2⟩ := hpre
  conv => whnf
  refine sel_i (fun h => ?_) (fun h => ?_) <;> conv => whnf
  · rw [len_ne h]; exact ⟨rfl, rfl⟩
  have hl := len_eq h
  clear h
  refine loop (α := Nat) (fun i => ⟨[(0, .v (.c (.sl false .word 0))), (1, .v (.c (.sl false .word 1))), (5, .v (.c (.int .i64 (i : Int))))], [(1, some (.flat false .word none b)), (0, some (.flat false .word none a))], nums.tail.tail, [], false, []⟩)
      (fun i => i ≤ a.length ∧ a.take i = b.take i) (fun i => a.length - i) (fun i R hI hR => ?_) 0 _ ⟨by simp, by simp⟩ (by omega)
  obtain ⟨hi, hx⟩ := hI
  conv => whnf
  repeat' (first | (refine sel_i (fun h => ?_) (fun h => ?_) <;> conv => whnf) | (refine chk_c ?_ ?_ <;> conv => whnf) | (refine And.intro ?_ rfl) | (refine And.intro ?_ ?_ <;> conv => whnf))
  all_goals (try simp only [eqWd, etaKey, etaWord, Int.toNat_natCast, Bool.not_eq_true', Bool.not_eq_false', decide_eq_true_eq, decide_eq_false_iff_not] at *)
  all_goals first
    | (refine ⟨?_⟩; omega)
    | (rw [eq_no (z := FT.zero .word) (by assumption)]; done)
    | (rw [eq_end hl (by omega) hx]; done)
    | (rw [wrap_id (n := (i : Int) + 1) (by omega) (by omega)]; exact hR (i + 1) ⟨by omega, eq_yes (z := FT.zero .word) hl (by omega) (by assumption) hx⟩ (by omega))
    | trace_state
theorem ok_laws_sameWords : FunOk Tryz.prog c_laws_sameWords := funOk (E := []) (envOk_nil) mixd Tryz.func51 (pf := pf_laws_sameWords) (by kernel_rfl) fun ts K h => by
  obtain ⟨t0, t1, e0, h⟩ := as2_out h
  subst e0
  obtain ⟨a, e1, hq⟩ := arC_out (rd_l .word) h
  clear h
  subst e1
  have h := hq
  clear hq
  obtain ⟨b, e1, hq⟩ := arC_out (rd_l .word) h
  clear h
  subst e1
  have h := hq
  clear hq
  obtain ⟨hpre, h⟩ := chk_o h
  exact ⟨_, _, h, Nat.le_of_ble_eq_true (show Nat.ble 2 Tryz.f51.ntmps = true by kernel_rfl), _, run_laws_sameWords a b hpre⟩


theorem holdE (s : State) : [] ++ s.regs ++ [s.pc] = hold s := rfl

def SideOk (x : Side) : Prop := x.regs.length = 8 ∧ (∀ w ∈ x.regs, wordOk w = true) ∧ wordOk x.pc = true ∧ 0 ≤ x.trap ∧ x.trap ≤ 5
theorem twoOk_of {t : Two} (hm : memoryOk t.mem = true) (ha : SideOk t.a) (hb : SideOk t.b) : twoOk t = true := by
  refine twoOk_iff.2 ⟨?_, ?_⟩
  · rw [side0]; exact stateOk_iff.2 ⟨ha.1, ha.2.1, ha.2.2.1, hm, ha.2.2.2.1, ha.2.2.2.2⟩
  · rw [side1]; exact stateOk_iff.2 ⟨hb.1, hb.2.1, hb.2.2.1, hm, hb.2.2.2.1, hb.2.2.2.2⟩
theorem twoOk_parts {t : Two} (h : twoOk t = true) : memoryOk t.mem = true ∧ SideOk t.a ∧ SideOk t.b := by
  obtain ⟨h1, h2⟩ := twoOk_iff.1 h
  rw [side0] at h1; rw [side1] at h2
  obtain ⟨a1, a2, a3, a4, a5, a6⟩ := stateOk_iff.1 h1
  obtain ⟨b1, b2, b3, b4, b5, b6⟩ := stateOk_iff.1 h2
  exact ⟨a4, ⟨a1, a2, a3, a5, a6⟩, b1, b2, b3, b5, b6⟩
theorem sideNew_ok (k : Key) (n : Int) : SideOk ⟨stateNew.regs.set 0 (keyWord k n), stateNew.pc, 0⟩ := by
  obtain ⟨a1, a2, a3, a4, a5, a6⟩ := stateOk_iff.1 stateNew_ok
  refine ⟨by simp [a1], fun v hv => ?_, a3, Int.le_refl _, by show (0 : Int) ≤ 5; decide⟩
  rcases mem_set hv with q | q
  · exact a2 v q
  · rw [q]; exact keyWord_ok k n
theorem kSide {K : Tree → List Tree → Prop} {o : List Tree} {P : Side → Prop} (hK : ∀ x : Side, P x → K (tG (x.tc true [])) o) (r : List Word) (n : Int) (is : Bool) (a b c d : Int) (t : Int) (h : P ⟨r, ⟨n, is, ⟨a, b, c, d⟩⟩, t⟩) :
    K (.v (.g [.ow .word r, .int .i64 n, .bool is, .int .i64 a, .int .i64 b, .int .i64 c, .int .i64 d, .int .i64 t])) o := hK ⟨r, ⟨n, is, ⟨a, b, c, d⟩⟩, t⟩ h

def pf_spec_l22DrawSide : PF := ⟨[.c 6 true 8], .seq (.reg [.s (.alloc 6 [.nils .word, .int .i64 0, .ff, .int .i64 0, .int .i64 0, .int .i64 0, .int .i64 0, .int .i64 0])]) (.seq (.reg [.s (.call (some 9) 139 []), .s (.alloc 7 [.nils .word, .int .i64 0, .ff, .int .i64 0, .int .i64 0, .int .i64 0, .int .i64 0, .nils .word, .nils .bool, .int .i64 0]), .s (.store 10 (.t 7) (.t 9))]) (.seq (.reg [.s (.fa 10 (.t 7) 0), .s (.load 11 false 1 (.t 10)), .s (.fa 12 (.t 7) 1), .s (.load 13 true 6 (.t 12)), .s (.build 14 [.nils .word, .int .i64 0, .ff, .int .i64 0, .int .i64 0, .int .i64 0, .int .i64 0, .int .i64 0] [(0, 1, (.t 11)), (1, 6, (.t 13))]), .s (.alloc 8 [.nils .word, .int .i64 0, .ff, .int .i64 0, .int .i64 0, .int .i64 0, .int .i64 0, .int .i64 0]), .s (.store 8 (.t 8) (.t 14))]) (.seq (.rgd [0] [.s (.fa 15 (.t 8) 0), .s (.load 16 false 1 (.t 15)), .s (.mv 17 (.t 1)), .s (.mv 18 (.t 1)), .s (.mv 19 (.t 2)), .s (.bin 20 .add (.t 18) (.t 19)), .s (.mv 21 (.t 0)), .s (.bs 22 (.int .i64) [(.k (.v (.c (.int .i64 4)))), (.k (.v (.c (.int .i64 4)))), (.k (.v (.c (.int .i64 4)))), (.k (.v (.c (.int .i64 6)))), (.k (.v (.c (.int .i64 12)))), (.k (.v (.c (.int .i64 20))))]), .s (.call (some 23) 93 [(.t 21), (.t 22)]), .s (.bin 24 .sub (.k (.v (.c (.int .i64 31)))) (.t 23)), .s (.build 25 [.int .i64 0, .int .i64 0, .int .i64 0, .int .i64 0] [(0, 1, (.t 17)), (1, 1, (.t 20)), (2, 1, (.t 24))]), .s (.mv 26 (.t 1)), .s (.call (some 27) 143 [(.t 25), (.t 26)]), .s (.ia 28 .word (.t 16) (.k (.v (.c (.int .i64 0))))), .s (.store 6 (.t 28) (.t 27))] (.tk 0 (.tk 1 (.tk 2 (.tk 3 (.tk 4 (.tk 5 (.tk 6 (.tk 11 (.one 7 false (.one 8 false (.tk 9 (.tk 10 (.one 12 false (.tk 13 (.one 14 true (.done none))))))))))))))))) (.seq (.reg [.s (.load 29 true 8 (.t 8)), .s (.store 8 (.t 6) (.t 29))]) (.ret)))))⟩
def c_spec_l22DrawSide : Fun := ⟨174, [true, false, false], fun ts K => as3 ts fun t0 t1 t2 => arQ pCurT t0 fun c => arC (pI .i64) t1 fun p => arC (pI .i64) t2 fun n => chk (CurOk c) (∀ (x : Side) (d : Cur), (SideOk x ∧ CurOk d) → K (tG (x.tc true [])) ([curOut d]))⟩
theorem run_spec_l22DrawSide (c : Cur) (p : Int) (n : Int) (hpre : CurOk c) {K : Tree → List Tree → Prop} (hK : ∀ (x : Side) (d : Cur), (SideOk x ∧ CurOk d) → K (tG (x.tc true [])) ([curOut d])) : runK [c_spec_l1PickInt, c_spec_StateNew, c_spec_KeyWord] (0) [true, false, false] pf_spec_l22DrawSide [.v (.ptr true 0 (c.tc [])), tI .i64 p, tI .i64 n] K := by
  conv => whnf
  repeat' (first | (refine sel_i (fun h => ?_) (fun h => ?_) <;> conv => whnf) | (refine chk_c ?_ ?_ <;> conv => whnf) | (refine And.intro ?_ rfl) | (refine And.intro ?_ ?_ <;> conv => whnf) | (intro x y z d hd; (try have g1 := And.left hd); (try have g2 := And.right hd); (try have g3 := And.left (And.right hd)); (try have g4 := And.right (And.right hd)); conv => whnf) | (intro x y d hd; (try have g1 := And.left hd); (try have g2 := And.right hd); (try have g3 := And.left (And.right hd)); (try have g4 := And.right (And.right hd)); conv => whnf) | (intro x d hd; (try have g1 := And.left hd); (try have g2 := And.right hd); (try have g3 := And.left (And.right hd)); (try have g4 := And.right (And.right hd)); conv => whnf) | (intro d hd; (try have g1 := And.left hd); (try have g2 := And.right hd); (try have g3 := And.left (And.right hd)); (try have g4 := And.right (And.right hd)); conv => whnf))
  all_goals first
    | (refine ⟨?_⟩; exact ⟨hpre, by simp⟩)
    | (refine ⟨?_⟩; decide)
    | (refine ⟨?_⟩; rfl)
    | (exact kSide (fun s hs => hK s _ hs) _ _ _ _ _ _ _ _ ⟨sideNew_ok _ _, hd.2⟩)
    | trace_state
theorem ok_spec_l22DrawSide : FunOk Tryz.prog c_spec_l22DrawSide := funOkR (E := [c_spec_l1PickInt, c_spec_StateNew, c_spec_KeyWord]) (envOk_cons ok_spec_l1PickInt (envOk_cons ok_spec_StateNew (envOk_cons ok_spec_KeyWord (envOk_nil)))) mixd Tryz.func174 (pf := pf_spec_l22DrawSide) (by kernel_rfl) fun ts K h => by
  obtain ⟨t0, t1, t2, e0, h⟩ := as3_out h
  subst e0
  obtain ⟨c, e1, hq⟩ := arQ_out rd_cur h
  clear h
  subst e1
  have h := hq
  clear hq
  obtain ⟨p, e1, hq⟩ := arC_out (rd_int .i64) h
  clear h
  subst e1
  have h := hq
  clear hq
  obtain ⟨n, e1, hq⟩ := arC_out (rd_int .i64) h
  clear h
  subst e1
  have h := hq
  clear hq
  obtain ⟨hpre, h⟩ := chk_o h
  exact ⟨Nat.le_of_ble_eq_true (show Nat.ble 3 Tryz.f174.ntmps = true by kernel_rfl), _, run_spec_l22DrawSide c p n hpre h⟩

def twoC (m : Mem) (a b : Side) (i j k l : Nat) : List Cell := [.sl false .word i, .sl false .bool j, .sl false .word k, .int .i64 a.pc.n, .bool a.pc.is, .int .i64 a.pc.key.base, .int .i64 a.pc.key.top, .int .i64 a.pc.key.perms, .int .i64 a.pc.key.sealed, .int .i64 a.trap, .sl false .word l, .int .i64 b.pc.n, .bool b.pc.is, .int .i64 b.pc.key.base, .int .i64 b.pc.key.top, .int .i64 b.pc.key.perms, .int .i64 b.pc.key.sealed, .int .i64 b.trap]
def zTwoC : List Cell := [.nils .word, .nils .bool, .nils .word, .int .i64 0, .ff, .int .i64 0, .int .i64 0, .int .i64 0, .int .i64 0, .int .i64 0, .nils .word, .int .i64 0, .ff, .int .i64 0, .int .i64 0, .int .i64 0, .int .i64 0, .int .i64 0]
theorem kTwo {K : Tree → List Tree → Prop} {o : List Tree} {P : Two → Prop} {la lb : List Inst} (hK : ∀ t : Two, P t → K (.tup [.c (tl true .inst la), .c (tl true .inst lb), .g (t.tc true [])]) o) (w : List Word) (g : List Bool)
    (r : List Word) (n : Int) (is : Bool) (a b c d t : Int) (r' : List Word) (n' : Int) (is' : Bool) (a' b' c' d' t' : Int) (h : P ⟨⟨w, g⟩, ⟨r, ⟨n, is, ⟨a, b, c, d⟩⟩, t⟩, ⟨r', ⟨n', is', ⟨a', b', c', d'⟩⟩, t'⟩⟩) :
    K (.tup [.c (.ow .inst la), .c (.ow .inst lb), .g [.ow .word w, .ow .bool g, .ow .word r, .int .i64 n, .bool is, .int .i64 a, .int .i64 b, .int .i64 c, .int .i64 d, .int .i64 t, .ow .word r', .int .i64 n', .bool is', .int .i64 a', .int .i64 b', .int .i64 c', .int .i64 d', .int .i64 t']]) o :=
  hK ⟨⟨w, g⟩, ⟨r, ⟨n, is, ⟨a, b, c, d⟩⟩, t⟩, ⟨r', ⟨n', is', ⟨a', b', c', d'⟩⟩, t'⟩⟩ h

def lb_spec_l22DrawRight_0 : PC := .seq (.seq (.reg [.s (.mv 21 (.t 6)), .s (.mv 22 (.t 0)), .s (.call (some 23) 99 [(.t 22), (.k (.v (.c (.int .i64 8))))]), .s (.bin 24 .lss (.t 21) (.t 23))]) (.cond (.t 24) (.skip) (.exit 0))) (.seq (.blk 1 (.rgd [0] [.s (.fa 27 (.t 5) 0), .s (.fa 28 (.t 27) 0), .s (.load 29 false 1 (.t 28)), .s (.mv 30 (.t 0)), .s (.call (some 31) 99 [(.t 30), (.k (.v (.c (.int .i64 24))))]), .s (.mv 32 (.t 0)), .s (.call (some 33) 99 [(.t 32), (.k (.v (.c (.int .i64 9))))]), .s (.call (some 34) 141 [(.t 33)]), .s (.ia 35 .word (.t 29) (.t 31)), .s (.store 6 (.t 35) (.t 34))] (.tk 0 (.tk 1 (.tk 2 (.tk 3 (.tk 5 (.one 4 false (.one 6 false (.one 7 false (.tk 8 (.one 9 true (.done none))))))))))))) (.reg [.s (.mv 25 (.t 6)), .s (.bin 26 .add (.t 25) (.k (.v (.c (.int .i64 1))))), .s (.mv 6 (.t 26))]))
def pf_spec_l22DrawRight : PF := ⟨[.t 2, .t 3, .c 4 true 18], .seq (.reg [.s (.mv 2 (.k (.v (.c (.nils .inst))))), .s (.mv 3 (.k (.v (.c (.nils .inst))))), .s (.alloc 4 [.nils .word, .nils .bool, .nils .word, .int .i64 0, .ff, .int .i64 0, .int .i64 0, .int .i64 0, .int .i64 0, .int .i64 0, .nils .word, .int .i64 0, .ff, .int .i64 0, .int .i64 0, .int .i64 0, .int .i64 0, .int .i64 0])]) (.seq (.reg [.s (.call (some 8) 166 []), .s (.mv 9 (.t 0)), .s (.call (some 10) 174 [(.t 9), (.k (.v (.c (.int .i64 0)))), (.k (.v (.c (.int .i64 12))))]), .s (.mv 11 (.t 0)), .s (.call (some 12) 174 [(.t 11), (.k (.v (.c (.int .i64 12)))), (.k (.v (.c (.int .i64 12))))]), .s (.build 13 [.nils .word, .nils .bool, .nils .word, .int .i64 0, .ff, .int .i64 0, .int .i64 0, .int .i64 0, .int .i64 0, .int .i64 0, .nils .word, .int .i64 0, .ff, .int .i64 0, .int .i64 0, .int .i64 0, .int .i64 0, .int .i64 0] [(0, 2, (.t 8)), (2, 8, (.t 10)), (10, 8, (.t 12))]), .s (.alloc 5 [.nils .word, .nils .bool, .nils .word, .int .i64 0, .ff, .int .i64 0, .int .i64 0, .int .i64 0, .int .i64 0, .int .i64 0, .nils .word, .int .i64 0, .ff, .int .i64 0, .int .i64 0, .int .i64 0, .int .i64 0, .int .i64 0]), .s (.store 18 (.t 5) (.t 13))]) (.seq (.seq (.reg [.s (.mv 14 (.t 0)), .s (.call (some 15) 66 [(.t 14), (.k (.v (.c (.int .i64 4))))])]) (.cond (.t 15) (.reg [.s (.mv 16 (.t 0)), .s (.mv 17 (.t 0)), .s (.call (some 18) 99 [(.t 17), (.k (.v (.c (.int .i64 12))))]), .s (.call (some 19) 174 [(.t 16), (.t 18), (.k (.v (.c (.int .i64 6))))]), .s (.fa 20 (.t 5) 10), .s (.store 8 (.t 20) (.t 19))]) (.skip))) (.seq (.seq (.reg [.s (.mv 6 (.k (.v (.c (.int .i64 0)))))]) (.blk 0 (.loop [0, 4, 5, 6] lb_spec_l22DrawRight_0))) (.seq (.seq (.reg [.s (.mv 36 (.t 0)), .s (.call (some 37) 66 [(.t 36), (.k (.v (.c (.int .i64 4))))])]) (.cond (.t 37) (.reg [.s (.mv 38 (.t 0)), .s (.call (some 39) 140 [(.t 38)]), .s (.fa 40 (.t 5) 0), .s (.store 2 (.t 40) (.t 39))]) (.skip))) (.seq (.reg [.s (.mv 41 (.t 0)), .s (.call (some 42) 138 [(.t 41)]), .s (.mv 7 (.t 42))]) (.seq (.rgd [0] [.s (.mv 43 (.t 7)), .s (.mv 44 (.t 0)), .s (.call (some 45) 138 [(.t 44)]), .s (.load 46 true 18 (.t 5)), .s (.mv 2 (.t 43)), .s (.mv 3 (.t 45)), .s (.store 18 (.t 4) (.t 46))] (.tk 0 (.tk 1 (.tk 3 (.one 2 false (.tk 4 (.tk 5 (.one 6 true (.done none))))))))) (.ret)))))))⟩
def c_spec_l22DrawRight : Fun := ⟨108, [true], fun ts K => as1 ts fun t0 => arQ pCurT t0 fun c => chk (CurOk c) (∀ (a : List Inst) (b : List Inst) (t : Two) (d : Cur), ((a.length ≤ 20 ∧ b.length ≤ 20) ∧ twoOk t = true ∧ CurOk d) → K (.tup [.c (tl true .inst a), .c (tl true .inst b), .g (t.tc true [])]) ([curOut d]))⟩
theorem run_spec_l22DrawRight (FU : Nat) (c : Cur) (hpre : CurOk c) {K : Tree → List Tree → Prop} (hK : ∀ (a : List Inst) (b : List Inst) (t : Two) (d : Cur), ((a.length ≤ 20 ∧ b.length ≤ 20) ∧ twoOk t = true ∧ CurOk d) → K (.tup [.c (tl true .inst a), .c (tl true .inst b), .g (t.tc true [])]) ([curOut d])) : runK [c_spec_l1Once, c_spec_l1Below, c_spec_l6DrawCode, c_spec_l8DrawRight, c_spec_Plain, c_spec_MemoryNew, c_spec_l22DrawSide] (20 + FU) [true] pf_spec_l22DrawRight [.v (.ptr true 0 (c.tc []))] K := by
  conv => whnf
  repeat' (first | (refine sel_i (fun h => ?_) (fun h => ?_) <;> conv => whnf) | (refine chk_c ?_ ?_ <;> conv => whnf) | (refine And.intro ?_ rfl) | (refine And.intro ?_ ?_ <;> conv => whnf) | (intro x y z d hd; (try have g1 := And.left hd); (try have g2 := And.right hd); (try have g3 := And.left (And.right hd)); (try have g4 := And.right (And.right hd)); conv => whnf) | (intro x y d hd; (try have g1 := And.left hd); (try have g2 := And.right hd); (try have g3 := And.left (And.right hd)); (try have g4 := And.right (And.right hd)); conv => whnf) | (intro x d hd; (try have g1 := And.left hd); (try have g2 := And.right hd); (try have g3 := And.left (And.right hd)); (try have g4 := And.right (And.right hd)); conv => whnf) | (intro d hd; (try have g1 := And.left hd); (try have g2 := And.right hd); (try have g3 := And.left (And.right hd)); (try have g4 := And.right (And.right hd)); conv => whnf))
  all_goals first
    | (refine ⟨?_⟩; exact hd.2)
    | (refine ⟨?_⟩; exact hpre)
    | (refine ⟨?_⟩; exact hd)
    | skip
  · rename_i A _ hA _ _ _ _ _ _ _ _ _ _ _ _ _ _ _ _ _ _ _ _ _ _ _ 
    refine loop (α := Nat × Cur × Mem) (fun q => ⟨[(0, .v (.c (.ptr 0 0))), (4, .v (.c (.ptr 2 0))), (5, .v (.c (.ptr 3 0))), (6, .v (.c (.int .i64 (q.1 : Int))))],
        [(7, some (.flat true .word none x.regs)), (6, some (.flat true .word none A.regs)), (5, some (.flat true .bool none q.2.2.gone)), (4, some (.flat true .word none q.2.2.words)),
          (3, some (.box true (twoC q.2.2 A x 4 5 6 7))), (2, some (.box true zTwoC)), (1, some (.flat false (.int .u8) none q.2.1.b)), (0, some (.box true (cuC q.2.1 1)))], nums.tail.tail.tail.tail.tail.tail.tail.tail, [.v (.c (.ptr 0 0))], false, []⟩)
      (fun q => q.1 ≤ 8 ∧ CurOk q.2.1 ∧ memoryOk q.2.2 = true) (fun q => 8 - q.1) (fun q R hI hR => ?_) (0, d, memNew) _ ⟨by simp, hd.2, memNew_ok⟩ (by show 8 - 0 < 20 + FU; omega)
    have hA := hA.1
    have hB := hd.1
    obtain ⟨i, e, m⟩ := q
    obtain ⟨hi, he, hm⟩ := hI
    dsimp only at hi he hm
    dsimp only
    have hl := memoryOk_iff.1 hm
    conv => whnf
    repeat' (first | (refine sel_i (fun h => ?_) (fun h => ?_) <;> conv => whnf) | (refine chk_c ?_ ?_ <;> conv => whnf) | (refine And.intro ?_ rfl) | (refine And.intro ?_ ?_ <;> conv => whnf) | (intro x y z d hd; (try have g1 := And.left hd); (try have g2 := And.right hd); (try have g3 := And.left (And.right hd)); (try have g4 := And.right (And.right hd)); conv => whnf) | (intro x y d hd; (try have g1 := And.left hd); (try have g2 := And.right hd); (try have g3 := And.left (And.right hd)); (try have g4 := And.right (And.right hd)); conv => whnf) | (intro x d hd; (try have g1 := And.left hd); (try have g2 := And.right hd); (try have g3 := And.left (And.right hd)); (try have g4 := And.right (And.right hd)); conv => whnf) | (intro d hd; (try have g1 := And.left hd); (try have g2 := And.right hd); (try have g3 := And.left (And.right hd)); (try have g4 := And.right (And.right hd)); conv => whnf))
    all_goals first
      | (refine ⟨?_⟩; exact he)
      | (refine ⟨?_⟩; exact hd)
      | (refine ⟨?_⟩; exact hd.2)
      | (refine ⟨?_⟩; exact hd.2.2)
      | (refine ⟨?_⟩; simp at *; omega)
      | (rw [wrap_id (n := (i : Int) + 1) (by omega) (by omega)]; exact hR (i + 1, _, ⟨_, _⟩) ⟨by simp at h ⊢; omega, hd.2, memoryOk_setW hm (plainW_ok _)⟩ (by simp at h ⊢; omega))
      | (refine kTwo (fun t ht => hK _ _ t _ ht) _ _ _ _ _ _ _ _ _ _ _ _ _ _ _ _ _ _ ⟨⟨?_, ?_⟩, twoOk_of ?_ ?_ ?_, ?_⟩ <;> first | assumption | exact hA | exact hB | exact hd.2 | exact hd.1 | exact (by assumption : _ ∧ CurOk _).1 | trace_state)
      | trace_state
  · rename_i A _ hA _ _ _ _ B _ hB _ _
    refine loop (α := Nat × Cur × Mem) (fun q => ⟨[(0, .v (.c (.ptr 0 0))), (4, .v (.c (.ptr 2 0))), (5, .v (.c (.ptr 3 0))), (6, .v (.c (.int .i64 (q.1 : Int))))],
        [(7, some (.flat true .word none B.regs)), (6, some (.flat true .word none A.regs)), (5, some (.flat true .bool none q.2.2.gone)), (4, some (.flat true .word none q.2.2.words)),
          (3, some (.box true (twoC q.2.2 A B 4 5 6 7))), (2, some (.box true zTwoC)), (1, some (.flat false (.int .u8) none q.2.1.b)), (0, some (.box true (cuC q.2.1 1)))], nums.tail.tail.tail.tail.tail.tail.tail.tail, [.v (.c (.ptr 0 0))], false, []⟩)
      (fun q => q.1 ≤ 8 ∧ CurOk q.2.1 ∧ memoryOk q.2.2 = true) (fun q => 8 - q.1) (fun q R hI hR => ?_) (0, d, memNew) _ ⟨by simp, hd, memNew_ok⟩ (by show 8 - 0 < 20 + FU; omega)
    have hA := hA.1
    have hB := hB.1
    obtain ⟨i, e, m⟩ := q
    obtain ⟨hi, he, hm⟩ := hI
    dsimp only at hi he hm
    dsimp only
    have hl := memoryOk_iff.1 hm
    conv => whnf
    repeat' (first | (refine sel_i (fun h => ?_) (fun h => ?_) <;> conv => whnf) | (refine chk_c ?_ ?_ <;> conv => whnf) | (refine And.intro ?_ rfl) | (refine And.intro ?_ ?_ <;> conv => whnf) | (intro x y z d hd; (try have g1 := And.left hd); (try have g2 := And.right hd); (try have g3 := And.left (And.right hd)); (try have g4 := And.right (And.right hd)); conv => whnf) | (intro x y d hd; (try have g1 := And.left hd); (try have g2 := And.right hd); (try have g3 := And.left (And.right hd)); (try have g4 := And.right (And.right hd)); conv => whnf) | (intro x d hd; (try have g1 := And.left hd); (try have g2 := And.right hd); (try have g3 := And.left (And.right hd)); (try have g4 := And.right (And.right hd)); conv => whnf) | (intro d hd; (try have g1 := And.left hd); (try have g2 := And.right hd); (try have g3 := And.left (And.right hd)); (try have g4 := And.right (And.right hd)); conv => whnf))
    all_goals first
      | (refine ⟨?_⟩; exact he)
      | (refine ⟨?_⟩; exact hd)
      | (refine ⟨?_⟩; exact hd.2)
      | (refine ⟨?_⟩; exact hd.2.2)
      | (refine ⟨?_⟩; simp at *; omega)
      | (rw [wrap_id (n := (i : Int) + 1) (by omega) (by omega)]; exact hR (i + 1, _, ⟨_, _⟩) ⟨by simp at h ⊢; omega, hd.2, memoryOk_setW hm (plainW_ok _)⟩ (by simp at h ⊢; omega))
      | (refine kTwo (fun t ht => hK _ _ t _ ht) _ _ _ _ _ _ _ _ _ _ _ _ _ _ _ _ _ _ ⟨⟨?_, ?_⟩, twoOk_of ?_ ?_ ?_, ?_⟩ <;> first | assumption | exact hA | exact hB | exact hd.2 | exact hd.1 | exact (by assumption : _ ∧ CurOk _).1 | trace_state)
      | trace_state
theorem ok_spec_l22DrawRight : FunOk Tryz.prog c_spec_l22DrawRight := funOkR (E := [c_spec_l1Once, c_spec_l1Below, c_spec_l6DrawCode, c_spec_l8DrawRight, c_spec_Plain, c_spec_MemoryNew, c_spec_l22DrawSide]) (envOk_cons ok_spec_l1Once (envOk_cons ok_spec_l1Below (envOk_cons ok_spec_l6DrawCode (envOk_cons ok_spec_l8DrawRight (envOk_cons ok_spec_Plain (envOk_cons ok_spec_MemoryNew (envOk_cons ok_spec_l22DrawSide (envOk_nil)))))))) mixd Tryz.func108 (pf := pf_spec_l22DrawRight) (by kernel_rfl) fun ts K h => by
  obtain ⟨t0, e0, h⟩ := as1_out h
  subst e0
  obtain ⟨c, e1, hq⟩ := arQ_out rd_cur h
  clear h
  subst e1
  have h := hq
  clear hq
  obtain ⟨hpre, h⟩ := chk_o h
  exact ⟨Nat.le_of_ble_eq_true (show Nat.ble 1 Tryz.f108.ntmps = true by kernel_rfl), _, run_spec_l22DrawRight 0 c hpre h⟩

def lb_spec_l22DrawOrder_0 : PC := .seq (.seq (.reg [.s (.mv 8 (.t 6)), .s (.mv 9 (.t 0)), .s (.mv 10 (.t 1)), .s (.call (some 11) 99 [(.t 9), (.t 10)]), .s (.bin 12 .lss (.t 8) (.t 11))]) (.cond (.t 12) (.skip) (.exit 0))) (.seq (.blk 1 (.reg [.s (.mv 15 (.t 5)), .s (.mv 16 (.t 0)), .s (.call (some 17) 99 [(.t 16), (.k (.v (.c (.int .i64 2))))]), .s (.bs 18 (.int .i64) [(.t 17)]), .s (.app 19 (.int .i64) (.t 15) (.t 18)), .s (.mv 5 (.t 19))])) (.reg [.s (.mv 13 (.t 6)), .s (.bin 14 .add (.t 13) (.k (.v (.c (.int .i64 1))))), .s (.mv 6 (.t 14))]))
def pf_spec_l22DrawOrder : PF := ⟨[.t 4], .seq (.reg [.s (.mv 4 (.k (.v (.c (.nils (.int .i64))))))]) (.seq (.reg [.s (.bs 7 (.int .i64) []), .s (.mv 5 (.t 7))]) (.seq (.seq (.reg [.s (.mv 6 (.k (.v (.c (.int .i64 0)))))]) (.blk 0 (.loop [0, 1, 5, 6] lb_spec_l22DrawOrder_0))) (.seq (.reg [.s (.mv 20 (.t 5)), .s (.mv 4 (.t 20))]) (.ret))))⟩
def c_spec_l22DrawOrder : Fun := ⟨103, [true, false], fun ts K => as2 ts fun t0 t1 => arQ pCurT t0 fun c => arC (pI .i64) t1 fun most => chk (CurOk c ∧ most ≤ 80) (∀ (l : List Int) (d : Cur), ((l.length ≤ 80 ∧ ∀ v ∈ l, v = 0 ∨ v = 1) ∧ CurOk d) → K (tL true (.int .i64) l) ([curOut d]))⟩
theorem run_spec_l22DrawOrder (FU : Nat) (c : Cur) (most : Int) (hpre : CurOk c ∧ most ≤ 80) {K : Tree → List Tree → Prop} (hK : ∀ (l : List Int) (d : Cur), ((l.length ≤ 80 ∧ ∀ v ∈ l, v = 0 ∨ v = 1) ∧ CurOk d) → K (tL true (.int .i64) l) ([curOut d])) : runK [c_spec_l1Below] (100 + FU) [true, false] pf_spec_l22DrawOrder [.v (.ptr true 0 (c.tc [])), tI .i64 most] K := by
  obtain ⟨hp1, hp2⟩ := hpre
  refine loop (α := Nat × Cur × List Int) (fun q => ⟨[(0, .v (.c (.ptr 0 0))), (1, .v (.c (.int .i64 most))), (5, .v (.c (.sl true (.int .i64) 2))), (6, .v (.c (.int .i64 (q.1 : Int))))],
        [(2, some (.flat true (.int .i64) none q.2.2)), (1, some (.flat false (.int .u8) none q.2.1.b)), (0, some (.box true (cuC q.2.1 1)))], nums.tail.tail.tail, [.v (.c (.ptr 0 0))], false, []⟩)
      (fun q => q.1 ≤ 80 ∧ CurOk q.2.1 ∧ q.2.2.length = q.1 ∧ ∀ v ∈ q.2.2, v = 0 ∨ v = 1) (fun q => 80 - q.1) (fun q R hI hR => ?_) (0, c, []) _ ⟨by simp, hp1, rfl, fun v hv => by cases hv⟩ (by show 80 - 0 < 100 + FU; omega)
  obtain ⟨i, e, m⟩ := q
  obtain ⟨hi, he, hm, hv⟩ := hI
  dsimp only at hi he hm hv
  dsimp only
  conv => whnf
  repeat' (first | (refine sel_i (fun h => ?_) (fun h => ?_) <;> conv => whnf) | (refine chk_c ?_ ?_ <;> conv => whnf) | (refine And.intro ?_ rfl) | (refine And.intro ?_ ?_ <;> conv => whnf) | (intro x y z d hd; (try have g1 := And.left hd); (try have g2 := And.right hd); (try have g3 := And.left (And.right hd)); (try have g4 := And.right (And.right hd)); conv => whnf) | (intro x y d hd; (try have g1 := And.left hd); (try have g2 := And.right hd); (try have g3 := And.left (And.right hd)); (try have g4 := And.right (And.right hd)); conv => whnf) | (intro x d hd; (try have g1 := And.left hd); (try have g2 := And.right hd); (try have g3 := And.left (And.right hd)); (try have g4 := And.right (And.right hd)); conv => whnf) | (intro d hd; (try have g1 := And.left hd); (try have g2 := And.right hd); (try have g3 := And.left (And.right hd)); (try have g4 := And.right (And.right hd)); conv => whnf))
  all_goals first
    | (refine ⟨?_⟩; exact he)
    | (refine ⟨?_⟩; exact hd)
    | (refine ⟨?_⟩; exact hd.2)
    | (refine ⟨?_⟩; simp at *; omega)
    | (exact hK m d ⟨⟨by omega, hv⟩, hd.2⟩)
    | (rw [wrap_id (n := (i : Int) + 1) (by omega) (by omega)]
       have h := of_decide_eq_true h
       rename_i y _ hy _ _ _ _
       have hy := hy.1
       have hi3 : i < 80 := by omega
       refine hR (i + 1, _, _) ⟨?_, hd.2, ?_, ?_⟩ ?_
       · dsimp only; omega
       · simp [hm]
       · intro v hq
         rcases List.mem_append.1 hq with q | q
         · exact hv v q
         · rw [List.mem_singleton.1 q]; have := hd.1; omega
       · dsimp only; omega)
    | trace_state
theorem ok_spec_l22DrawOrder : FunOk Tryz.prog c_spec_l22DrawOrder := funOkR (E := [c_spec_l1Below]) (envOk_cons ok_spec_l1Below (envOk_nil)) mixd Tryz.func103 (pf := pf_spec_l22DrawOrder) (by kernel_rfl) fun ts K h => by
  obtain ⟨t0, t1, e0, h⟩ := as2_out h
  subst e0
  obtain ⟨c, e1, hq⟩ := arQ_out rd_cur h
  clear h
  subst e1
  have h := hq
  clear hq
  obtain ⟨most, e1, hq⟩ := arC_out (rd_int .i64) h
  clear h
  subst e1
  have h := hq
  clear hq
  obtain ⟨hpre, h⟩ := chk_o h
  exact ⟨Nat.le_of_ble_eq_true (show Nat.ble 2 Tryz.f103.ntmps = true by kernel_rfl), _, run_spec_l22DrawOrder 0 c most hpre h⟩

def pf_spec_l22Draw : PF := ⟨[.t 2, .t 3, .c 4 true 18], .seq (.reg [.s (.mv 2 (.k (.v (.c (.nils .inst))))), .s (.mv 3 (.k (.v (.c (.nils .inst))))), .s (.alloc 4 [.nils .word, .nils .bool, .nils .word, .int .i64 0, .ff, .int .i64 0, .int .i64 0, .int .i64 0, .int .i64 0, .int .i64 0, .nils .word, .int .i64 0, .ff, .int .i64 0, .int .i64 0, .int .i64 0, .int .i64 0, .int .i64 0])]) (.seq (.reg [.s (.mv 9 (.t 0)), .s (.call (some 10) 108 [(.t 9)]), .s (.mv 8 (.t 10)), .s (.ext 11 (.t 8) 0), .s (.ext 12 (.t 8) 1), .s (.ext 13 (.t 8) 2), .s (.alloc 7 [.nils .word, .nils .bool, .nils .word, .int .i64 0, .ff, .int .i64 0, .int .i64 0, .int .i64 0, .int .i64 0, .int .i64 0, .nils .word, .int .i64 0, .ff, .int .i64 0, .int .i64 0, .int .i64 0, .int .i64 0, .int .i64 0]), .s (.mv 5 (.t 11)), .s (.mv 6 (.t 12)), .s (.store 18 (.t 7) (.t 13))]) (.seq (.seq (.reg [.s (.mv 14 (.t 0)), .s (.call (some 15) 99 [(.t 14), (.k (.v (.c (.int .i64 10))))])]) (.blk 0 (.seq (.reg [.s (.bin 17 .eql (.t 15) (.k (.v (.c (.int .i64 0))))), .s (.mv 16 (.t 17))]) (.cond (.t 16) (.reg [.s (.fa 18 (.t 7) 2), .s (.fa 19 (.t 18) 0), .s (.load 20 false 1 (.t 19)), .s (.slc 21 .word (.t 20) (some (.k (.v (.c (.int .i64 1))))) none), .s (.fa 22 (.t 7) 2), .s (.fa 23 (.t 22) 0), .s (.store 1 (.t 23) (.t 21))]) (.seq (.reg [.s (.bin 25 .eql (.t 15) (.k (.v (.c (.int .i64 1))))), .s (.mv 24 (.t 25))]) (.cond (.t 24) (.reg [.s (.mv 26 (.t 0)), .s (.call (some 27) 99 [(.t 26), (.k (.v (.c (.int .i64 8))))]), .s (.bin 28 .sub (.t 27) (.k (.v (.c (.int .i64 1))))), .s (.fa 29 (.t 7) 10), .s (.fa 30 (.t 29) 7), .s (.store 1 (.t 30) (.t 28))]) (.seq (.reg [.s (.bin 32 .eql (.t 15) (.k (.v (.c (.int .i64 2))))), .s (.mv 31 (.t 32))]) (.cond (.t 31) (.reg [.s (.mv 33 (.t 0)), .s (.call (some 34) 160 [(.t 33)]), .s (.fa 35 (.t 7) 0), .s (.store 2 (.t 35) (.t 34))]) (.seq (.reg [.s (.bin 37 .eql (.t 15) (.k (.v (.c (.int .i64 3))))), .s (.mv 36 (.t 37))]) (.cond (.t 36) (.rgd [0] [.s (.fa 38 (.t 7) 2), .s (.fa 39 (.t 38) 0), .s (.load 40 false 1 (.t 39)), .s (.mv 41 (.t 0)), .s (.call (some 42) 159 [(.t 41)]), .s (.ia 43 .word (.t 40) (.k (.v (.c (.int .i64 2))))), .s (.store 6 (.t 43) (.t 42))] (.tk 0 (.tk 1 (.tk 2 (.tk 3 (.one 4 false (.tk 5 (.one 6 true (.done none))))))))) (.skip))))))))))) (.seq (.rgd [] [.s (.mv 44 (.t 5)), .s (.mv 45 (.t 6)), .s (.load 46 true 18 (.t 7)), .s (.mv 2 (.t 44)), .s (.mv 3 (.t 45)), .s (.store 18 (.t 4) (.t 46))] (.tk 0 (.tk 1 (.tk 2 (.tk 3 (.tk 4 (.one 5 true (.done none)))))))) (.ret))))⟩
def c_spec_l22Draw : Fun := ⟨98, [true], fun ts K => as1 ts fun t0 => arQ pCurT t0 fun c => chk (CurOk c) (∀ (a : List Inst) (b : List Inst) (t : Two) (d : Cur), ((a.length ≤ 20 ∧ b.length ≤ 20) ∧ LTwo t 24 ∧ CurOk d) → K (.tup [.c (tl true .inst a), .c (tl true .inst b), .g (t.tc true [])]) ([curOut d]))⟩
theorem run_spec_l22Draw (c : Cur) (hpre : CurOk c) {K : Tree → List Tree → Prop} (hK : ∀ (a : List Inst) (b : List Inst) (t : Two) (d : Cur), ((a.length ≤ 20 ∧ b.length ≤ 20) ∧ LTwo t 24 ∧ CurOk d) → K (.tup [.c (tl true .inst a), .c (tl true .inst b), .g (t.tc true [])]) ([curOut d])) : runK [c_spec_l1Below, c_spec_l22DrawRight, c_spec_l3Draw, c_spec_l8Draw] (0) [true] pf_spec_l22Draw [.v (.ptr true 0 (c.tc []))] K := by
  conv => whnf
  repeat' (first | (refine sel_i (fun h => ?_) (fun h => ?_) <;> conv => whnf) | (refine chk_c ?_ ?_ <;> conv => whnf) | (refine And.intro ?_ rfl) | (refine And.intro ?_ ?_ <;> conv => whnf) | (intro x y z d hd; (try have g1 := And.left hd); (try have g2 := And.right hd); (try have g3 := And.left (And.right hd)); (try have g4 := And.right (And.right hd)); conv => whnf) | (intro x y d hd; (try have g1 := And.left hd); (try have g2 := And.right hd); (try have g3 := And.left (And.right hd)); (try have g4 := And.right (And.right hd)); conv => whnf) | (intro x d hd; (try have g1 := And.left hd); (try have g2 := And.right hd); (try have g3 := And.left (And.right hd)); (try have g4 := And.right (And.right hd)); conv => whnf) | (intro d hd; (try have g1 := And.left hd); (try have g2 := And.right hd); (try have g3 := And.left (And.right hd)); (try have g4 := And.right (And.right hd)); conv => whnf))
  all_goals first
    | (refine ⟨?_⟩; exact hd)
    | (refine ⟨?_⟩; exact hd.2)
    | (refine ⟨?_⟩; exact hd.2.2)
    | (refine ⟨?_⟩; exact hpre)
    | (refine ⟨?_⟩; decide)
    | (refine ⟨?_⟩; rfl)
    | (obtain ⟨hm, ha, hb⟩ := twoOk_parts (t := z) (by assumption); have a1 := ha.1; refine ⟨?_⟩; simp [a1]; done)
    | (obtain ⟨hm, ha, hb⟩ := twoOk_parts (t := z) (by assumption); obtain ⟨m1, m2, m3⟩ := memoryOk_iff.1 hm; have a1 := ha.1; have b1 := hb.1
       refine kTwo (fun t ht => hK _ _ t _ ht) _ _ _ _ _ _ _ _ _ _ _ _ _ _ _ _ _ _ ⟨⟨?_, ?_⟩, ⟨⟨?_, ?_⟩, ?_, ?_⟩, ?_⟩ <;> first | omega | (simp [win]; omega) | exact hd | exact hd.2 | exact hd.1.1 | exact hd.1.2 | trace_state)
    | trace_state
theorem ok_spec_l22Draw : FunOk Tryz.prog c_spec_l22Draw := funOkR (E := [c_spec_l1Below, c_spec_l22DrawRight, c_spec_l3Draw, c_spec_l8Draw]) (envOk_cons ok_spec_l1Below (envOk_cons ok_spec_l22DrawRight (envOk_cons ok_spec_l3Draw (envOk_cons ok_spec_l8Draw (envOk_nil))))) mixd Tryz.func98 (pf := pf_spec_l22Draw) (by kernel_rfl) fun ts K h => by
  obtain ⟨t0, e0, h⟩ := as1_out h
  subst e0
  obtain ⟨c, e1, hq⟩ := arQ_out rd_cur h
  clear h
  subst e1
  have h := hq
  clear hq
  obtain ⟨hpre, h⟩ := chk_o h
  exact ⟨Nat.le_of_ble_eq_true (show Nat.ble 1 Tryz.f98.ntmps = true by kernel_rfl), _, run_spec_l22Draw c hpre h⟩

def pf_spec_DrawBoth : PF := ⟨[.t 2, .t 3, .c 4 true 18, .t 5], .seq (.reg [.s (.mv 2 (.k (.v (.c (.nils .inst))))), .s (.mv 3 (.k (.v (.c (.nils .inst))))), .s (.alloc 4 [.nils .word, .nils .bool, .nils .word, .int .i64 0, .ff, .int .i64 0, .int .i64 0, .int .i64 0, .int .i64 0, .int .i64 0, .nils .word, .int .i64 0, .ff, .int .i64 0, .int .i64 0, .int .i64 0, .int .i64 0, .int .i64 0]), .s (.mv 5 (.k (.v (.c (.nils (.int .i64))))))]) (.seq (.reg [.s (.mv 10 (.t 0)), .s (.call (some 11) 64 [(.t 10)]), .s (.mv 6 (.t 11))]) (.seq (.reg [.s (.mv 13 (.t 6)), .s (.call (some 14) 108 [(.t 13)]), .s (.mv 12 (.t 14)), .s (.ext 15 (.t 12) 0), .s (.ext 16 (.t 12) 1), .s (.ext 17 (.t 12) 2), .s (.alloc 9 [.nils .word, .nils .bool, .nils .word, .int .i64 0, .ff, .int .i64 0, .int .i64 0, .int .i64 0, .int .i64 0, .int .i64 0, .nils .word, .int .i64 0, .ff, .int .i64 0, .int .i64 0, .int .i64 0, .int .i64 0, .int .i64 0]), .s (.mv 7 (.t 15)), .s (.mv 8 (.t 16)), .s (.store 18 (.t 9) (.t 17))]) (.seq (.rgd [6] [.s (.mv 18 (.t 7)), .s (.mv 19 (.t 8)), .s (.load 20 true 18 (.t 9)), .s (.mv 21 (.t 6)), .s (.mv 22 (.t 0)), .s (.call (some 23) 109 [(.t 22), (.k (.v (.c (.int .i64 40)))), (.k (.v (.c (.int .i64 80))))]), .s (.call (some 24) 103 [(.t 21), (.t 23)]), .s (.mv 2 (.t 18)), .s (.mv 3 (.t 19)), .s (.store 18 (.t 4) (.t 20)), .s (.mv 5 (.t 24))] (.tk 0 (.tk 1 (.tk 2 (.tk 3 (.tk 4 (.one 5 false (.one 6 false (.tk 7 (.tk 8 (.one 9 true (.tk 10 (.done none))))))))))))) (.ret))))⟩
def c_spec_DrawBoth : Fun := ⟨47, [], fun ts K => as1 ts fun t0 => arC (pL (.int .u8)) t0 fun code => chk (code.length ≤ 1048576) (∀ (a : List Inst) (b : List Inst) (t : Two) (l : List Int), ((a.length ≤ 20 ∧ b.length ≤ 20) ∧ twoOk t = true ∧ l.length ≤ 80 ∧ ∀ v ∈ l, v = 0 ∨ v = 1) → K (.tup [.c (tl true .inst a), .c (tl true .inst b), .g (t.tc true []), .c (tl true (.int .i64) l)]) [])⟩
theorem run_spec_DrawBoth (code : List (FT.Ty (.int .u8))) (hpre : code.length ≤ 1048576) {K : Tree → List Tree → Prop} (hK : ∀ (a : List Inst) (b : List Inst) (t : Two) (l : List Int), ((a.length ≤ 20 ∧ b.length ≤ 20) ∧ twoOk t = true ∧ l.length ≤ 80 ∧ ∀ v ∈ l, v = 0 ∨ v = 1) → K (.tup [.c (tl true .inst a), .c (tl true .inst b), .g (t.tc true []), .c (tl true (.int .i64) l)]) []) : runK [c_spec_l1New, c_spec_l22DrawOrder, c_spec_l22DrawRight, c_spec_l1Long] (0) [] pf_spec_DrawBoth [tL false (.int .u8) code] K := by
  conv => whnf
  repeat' (first | (refine sel_i (fun h => ?_) (fun h => ?_) <;> conv => whnf) | (refine chk_c ?_ ?_ <;> conv => whnf) | (refine And.intro ?_ rfl) | (refine And.intro ?_ ?_ <;> conv => whnf) | (intro x y z d hd; (try have g1 := And.left hd); (try have g2 := And.right hd); (try have g3 := And.left (And.right hd)); (try have g4 := And.right (And.right hd)); conv => whnf) | (intro x y d hd; (try have g1 := And.left hd); (try have g2 := And.right hd); (try have g3 := And.left (And.right hd)); (try have g4 := And.right (And.right hd)); conv => whnf) | (intro x d hd; (try have g1 := And.left hd); (try have g2 := And.right hd); (try have g3 := And.left (And.right hd)); (try have g4 := And.right (And.right hd)); conv => whnf) | (intro d hd; (try have g1 := And.left hd); (try have g2 := And.right hd); (try have g3 := And.left (And.right hd)); (try have g4 := And.right (And.right hd)); conv => whnf))
  all_goals (try simp only [etaKey, etaWord, etaMemory, etaSide, etaTwo] at *)
  all_goals first
    | (refine ⟨?_⟩; exact hd)
    | (refine ⟨?_⟩; exact hd.2)
    | (refine ⟨?_⟩; exact hd.2.2)
    | (refine ⟨?_⟩; exact hpre)
    | (refine ⟨?_⟩; exact ⟨hd.2, by simp⟩)
    | (refine ⟨?_⟩; exact ⟨hd.2.2, by simp⟩)
    | (refine ⟨?_⟩; decide)
    | (refine ⟨?_⟩; rfl)
    | (refine ⟨?_⟩; refine ⟨by assumption, by assumption⟩)
    | (refine hK _ _ z _ ⟨⟨?_, ?_⟩, by assumption, hd.1.1, hd.1.2⟩ <;> omega)
    | trace_state
theorem ok_spec_DrawBoth : FunOk Tryz.prog c_spec_DrawBoth := funOkR (E := [c_spec_l1New, c_spec_l22DrawOrder, c_spec_l22DrawRight, c_spec_l1Long]) (envOk_cons ok_spec_l1New (envOk_cons ok_spec_l22DrawOrder (envOk_cons ok_spec_l22DrawRight (envOk_cons ok_spec_l1Long (envOk_nil))))) mixd Tryz.func47 (pf := pf_spec_DrawBoth) (by kernel_rfl) fun ts K h => by
  obtain ⟨t0, e0, h⟩ := as1_out h
  subst e0
  obtain ⟨code, e1, hq⟩ := arC_out (rd_l (.int .u8)) h
  clear h
  subst e1
  have h := hq
  clear hq
  obtain ⟨hpre, h⟩ := chk_o h
  exact ⟨Nat.le_of_ble_eq_true (show Nat.ble 1 Tryz.f47.ntmps = true by kernel_rfl), _, run_spec_DrawBoth code hpre h⟩

def pf_spec_DrawApart : PF := ⟨[.c 2 true 18], .seq (.reg [.s (.alloc 2 [.nils .word, .nils .bool, .nils .word, .int .i64 0, .ff, .int .i64 0, .int .i64 0, .int .i64 0, .int .i64 0, .int .i64 0, .nils .word, .int .i64 0, .ff, .int .i64 0, .int .i64 0, .int .i64 0, .int .i64 0, .int .i64 0])]) (.seq (.reg [.s (.mv 7 (.t 0)), .s (.call (some 8) 64 [(.t 7)]), .s (.call (some 9) 98 [(.t 8)]), .s (.mv 6 (.t 9)), .s (.ext 10 (.t 6) 0), .s (.ext 11 (.t 6) 1), .s (.ext 12 (.t 6) 2), .s (.alloc 5 [.nils .word, .nils .bool, .nils .word, .int .i64 0, .ff, .int .i64 0, .int .i64 0, .int .i64 0, .int .i64 0, .int .i64 0, .nils .word, .int .i64 0, .ff, .int .i64 0, .int .i64 0, .int .i64 0, .int .i64 0, .int .i64 0]), .s (.mv 3 (.t 10)), .s (.mv 4 (.t 11)), .s (.store 18 (.t 5) (.t 12))]) (.seq (.reg [.s (.load 13 true 18 (.t 5)), .s (.store 18 (.t 2) (.t 13))]) (.ret)))⟩
def c_spec_DrawApart : Fun := ⟨48, [], fun ts K => as1 ts fun t0 => arC (pL (.int .u8)) t0 fun code => chk (code.length ≤ 1048576) (∀ (t : Two), (LTwo t 24) → K (tG (t.tc true [])) [])⟩
theorem run_spec_DrawApart (code : List (FT.Ty (.int .u8))) (hpre : code.length ≤ 1048576) {K : Tree → List Tree → Prop} (hK : ∀ (t : Two), (LTwo t 24) → K (tG (t.tc true [])) []) : runK [c_spec_l1New, c_spec_l22Draw] (0) [] pf_spec_DrawApart [tL false (.int .u8) code] K := by
  conv => whnf
  repeat' (first | (refine sel_i (fun h => ?_) (fun h => ?_) <;> conv => whnf) | (refine chk_c ?_ ?_ <;> conv => whnf) | (refine And.intro ?_ rfl) | (refine And.intro ?_ ?_ <;> conv => whnf) | (intro x y z d hd; (try have g1 := And.left hd); (try have g2 := And.right hd); (try have g3 := And.left (And.right hd)); (try have g4 := And.right (And.right hd)); conv => whnf) | (intro x y d hd; (try have g1 := And.left hd); (try have g2 := And.right hd); (try have g3 := And.left (And.right hd)); (try have g4 := And.right (And.right hd)); conv => whnf) | (intro x d hd; (try have g1 := And.left hd); (try have g2 := And.right hd); (try have g3 := And.left (And.right hd)); (try have g4 := And.right (And.right hd)); conv => whnf) | (intro d hd; (try have g1 := And.left hd); (try have g2 := And.right hd); (try have g3 := And.left (And.right hd)); (try have g4 := And.right (And.right hd)); conv => whnf))
  all_goals (try simp only [etaKey, etaWord, etaMemory, etaSide, etaTwo] at *)
  all_goals first
    | (refine ⟨?_⟩; exact hd)
    | (refine ⟨?_⟩; exact hd.2)
    | (refine ⟨?_⟩; exact hd.2.2)
    | (refine ⟨?_⟩; exact hpre)
    | (refine ⟨?_⟩; exact ⟨hd.2, by simp⟩)
    | (refine ⟨?_⟩; exact ⟨hd.2.2, by simp⟩)
    | (refine ⟨?_⟩; decide)
    | (refine ⟨?_⟩; rfl)
    | (exact hK z (by assumption))
    | trace_state
theorem ok_spec_DrawApart : FunOk Tryz.prog c_spec_DrawApart := funOkR (E := [c_spec_l1New, c_spec_l22Draw]) (envOk_cons ok_spec_l1New (envOk_cons ok_spec_l22Draw (envOk_nil))) mixd Tryz.func48 (pf := pf_spec_DrawApart) (by kernel_rfl) fun ts K h => by
  obtain ⟨t0, e0, h⟩ := as1_out h
  subst e0
  obtain ⟨code, e1, hq⟩ := arC_out (rd_l (.int .u8)) h
  clear h
  subst e1
  have h := hq
  clear hq
  obtain ⟨hpre, h⟩ := chk_o h
  exact ⟨Nat.le_of_ble_eq_true (show Nat.ble 1 Tryz.f48.ntmps = true by kernel_rfl), _, run_spec_DrawApart code hpre h⟩


structure EndOk (C1 C2 : List Int) (s e : State) : Prop where
  regs : s.regs = e.regs
  pc : s.pc = e.pc
  trap : s.trap = e.trap
  mine : ∀ c ∈ C1 ++ C2, (0 ≤ c ∧ c ≤ 23) ∧ s.mem.words.getD c.toNat (FT.zero .word) = e.mem.words.getD c.toNat (FT.zero .word)
  oks : stateOk s = true
  oke : stateOk e = true
theorem Alone.endOk {m : Mem} {h : List Word} {u s : State} (k : Alone (closure m h) u s) (hu : stateOk u = true) : EndOk (cellsBy m h 1) (cellsBy m h 2) s u := by
  refine ⟨k.same.regs, k.same.pc, k.same.trap, fun c hc => ?_, k.inv.ok, hu⟩
  rcases List.mem_append.1 hc with q | q
  · obtain ⟨j, h1, h2, rfl⟩ := mem_cellsBy.1 q
    exact ⟨by omega, k.mine j h1 (.inl h2)⟩
  · obtain ⟨j, h1, h2, rfl⟩ := mem_cellsBy.1 q
    exact ⟨by omega, k.mine j h1 (.inr h2)⟩
theorem both_run {A B : List Word} {a b : List Inst} : ∀ {o : List Int} {t : Two}, (∀ x ∈ o, x = 0 ∨ x = 1) → Both A B t → Both A B (twoRunGo a b o t)
  | [], _, _, h => h
  | w :: ws, t, ho, h => by
    have hr := fun x hx => ho x (List.mem_cons_of_mem _ hx)
    rcases ho w (by simp) with rfl | rfl
    · exact both_run (o := ws) hr h.step0
    · exact both_run (o := ws) hr h.step1
theorem apart_end {a b : List Inst} {t : Two} {o : List Int} (h : apartB t = true) (ho : ∀ x ∈ o, x = 0 ∨ x = 1) (hl : o.length ≤ 600) :
    EndOk (cellsBy t.mem (hold (sideState t 0)) 1) (cellsBy t.mem (hold (sideState t 0)) 2) (soloGo a 0 o (sideState t 0)) (sideState (twoRun a b t o) 0) ∧
    EndOk (cellsBy t.mem (hold (sideState t 1)) 1) (cellsBy t.mem (hold (sideState t 1)) 2) (soloGo b 1 o (sideState t 1)) (sideState (twoRun a b t o) 1) := by
  have hb := both_first h
  obtain ⟨h1, h2⟩ := solo_run (a := a) (b := b) ho hb (alone_first hb.a) (alone_first hb.b)
  have he := both_run (a := a) (b := b) ho hb
  unfold twoRun
  rw [if_neg (by omega), hold0, hold1]
  exact ⟨h1.endOk he.a.ok, h2.endOk he.b.ok⟩
theorem soloGo_step {l : List Inst} {w : Int} {o : List Int} {v : State} {i : Nat} (h : i < o.length) : soloGo l w (o.drop i) v = soloGo l w (o.drop (i + 1)) (if o.getD i 0 = w then stepS l v else v) := by
  rw [List.drop_eq_getElem_cons h, List.getD_eq_getElem?_getD, List.getElem?_eq_getElem h]; rfl
theorem twoOk_l {t : Two} (h : twoOk t = true) : LTwo t 24 := by
  obtain ⟨p1, p2, p3⟩ := twoOk_parts h
  obtain ⟨m1, m2, m3⟩ := memoryOk_iff.1 p1
  have a1 := p2.1
  have b1 := p3.1
  exact ⟨⟨by omega, by omega⟩, by omega, by omega⟩
theorem side_ok {t : Two} (h : twoOk t = true) {i : Nat} (hi : i < 2) : stateOk (sideState t i) = true := by
  obtain ⟨h1, h2⟩ := twoOk_iff.1 h
  have : i = 0 ∨ i = 1 := by omega
  rcases this with rfl | rfl
  · exact h1
  · exact h2
theorem apart_ends {a b : List Inst} {t : Two} {o : List Int} (h : apartB t = true) (ho : ∀ x ∈ o, x = 0 ∨ x = 1) (hl : o.length ≤ 600) :
    ∀ i : Nat, i < 2 → EndOk (cellsBy t.mem (hold (sideState t i)) 1) (cellsBy t.mem (hold (sideState t i)) 2) (soloGo (if (i : Int) = 1 then b else a) i o (sideState t i)) (sideState (twoRun a b t o) i) := by
  intro i hi
  obtain ⟨h1, h2⟩ := apart_end (a := a) (b := b) h ho hl
  have : i = 0 ∨ i = 1 := by omega
  rcases this with rfl | rfl
  · exact h1
  · exact h2
end Go.Pi
