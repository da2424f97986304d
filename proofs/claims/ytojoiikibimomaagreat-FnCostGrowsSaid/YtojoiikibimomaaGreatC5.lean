/- Contracts of functions, each out of its run by PI. No conditions. -/
import Derived.Test.YtojoiikibimomaaGreatC4
namespace Go.Pi
open Go.Proofs
set_option linter.unusedVariables false
set_option linter.unusedSimpArgs false
set_option maxRecDepth 100000
attribute [local irreducible] iterN
theorem kKey {K : Tree → List Tree → Prop} {o : List Tree} {P : Prop} (hK : ∀ w : Key, P → K (tG (w.tc [])) o) (a b c d : Int) (h : P) : K (.v (.g [.int .i64 a, .int .i64 b, .int .i64 c, .int .i64 d])) o := hK ⟨a, b, c, d⟩ h
theorem kWord {K : Tree → List Tree → Prop} {o : List Tree} {P : Prop} (hK : ∀ w : Word, P → K (tG (w.tc [])) o) (n : Int) (is : Bool) (a b c d : Int) (h : P) : K (.v (.g [.int .i64 n, .bool is, .int .i64 a, .int .i64 b, .int .i64 c, .int .i64 d])) o := hK ⟨n, is, ⟨a, b, c, d⟩⟩ h
theorem kInst {K : Tree → List Tree → Prop} {o : List Tree} {P : Prop} (hK : ∀ w : Inst, P → K (tG (w.tc [])) o) (e a b c d : Int) (h : P) : K (.v (.g [.int .i64 e, .int .i64 a, .int .i64 b, .int .i64 c, .int .i64 d])) o := hK ⟨e, a, b, c, d⟩ h

def pf_spec_Root : PF := ⟨[.c 0 true 4], .seq (.reg [.s (.alloc 0 [.int .i64 0, .int .i64 0, .int .i64 0, .int .i64 0])]) (.seq (.reg [.s (.build 1 [.int .i64 0, .int .i64 0, .int .i64 0, .int .i64 0] [(1, 1, (.k (.v (.c (.int .i64 4096))))), (2, 1, (.k (.v (.c (.int .i64 63)))))]), .s (.store 4 (.t 0) (.t 1))]) (.ret))⟩
def c_spec_Root : Fun := ⟨168, [], fun ts K => as0 ts (K (tG ((⟨0, 4096, 63, 0⟩ : Key).tc [])) [])⟩
theorem run_spec_Root  : runK [] (0) [] pf_spec_Root [] fun r o => r = tG ((⟨0, 4096, 63, 0⟩ : Key).tc []) ∧ o = [] := by
  conv => whnf
  repeat' (first | (refine sel_i (fun h => ?_) (fun h => ?_) <;> conv => whnf) | (refine chk_c ?_ ?_ <;> conv => whnf) | (refine And.intro ?_ rfl) | (refine And.intro ?_ ?_ <;> conv => whnf))
  rfl
theorem ok_spec_Root : FunOk Tryz.prog c_spec_Root := funOk (E := []) (envOk_nil) mixd Tryz.func168 (pf := pf_spec_Root) (by kernel_rfl) fun ts K h => by
  obtain ⟨e0, h⟩ := as0_out h
  subst e0
  exact ⟨_, _, h, Nat.le_of_ble_eq_true (show Nat.ble 0 Tryz.f168.ntmps = true by kernel_rfl), _, run_spec_Root ⟩

def pf_spec_l2DrawRight : PF := ⟨[.c 2 true 4], .seq (.reg [.s (.alloc 2 [.int .i64 0, .int .i64 0, .int .i64 0, .int .i64 0])]) (.seq (.reg [.s (.call (some 4) 168 []), .s (.alloc 3 [.int .i64 0, .int .i64 0, .int .i64 0, .int .i64 0]), .s (.store 4 (.t 3) (.t 4))]) (.seq (.seq (.reg [.s (.mv 5 (.t 0)), .s (.call (some 6) 48 [(.t 5), (.k (.v (.c (.int .i64 4))))])]) (.blk 0 (.seq (.reg [.s (.bin 8 .eql (.t 6) (.k (.v (.c (.int .i64 0))))), .s (.mv 7 (.t 8))]) (.cond (.t 7) (.seq (.reg [.s (.mv 9 (.t 0)), .s (.call (some 10) 48 [(.t 9), (.k (.v (.c (.int .i64 30))))]), .s (.fa 11 (.t 3) 0), .s (.store 1 (.t 11) (.t 10))]) (.rgd [0] [.s (.fa 12 (.t 3) 0), .s (.load 13 false 1 (.t 12)), .s (.mv 14 (.t 0)), .s (.call (some 15) 48 [(.t 14), (.k (.v (.c (.int .i64 33))))]), .s (.bin 16 .add (.t 13) (.t 15)), .s (.fa 17 (.t 3) 1), .s (.store 1 (.t 17) (.t 16))] (.tk 0 (.tk 1 (.tk 2 (.one 3 false (.tk 4 (.tk 5 (.one 6 true (.done none)))))))))) (.seq (.reg [.s (.bin 19 .eql (.t 6) (.k (.v (.c (.int .i64 1))))), .s (.mv 18 (.t 19))]) (.cond (.t 18) (.seq (.reg [.s (.mv 20 (.t 0)), .s (.call (some 21) 48 [(.t 20), (.k (.v (.c (.int .i64 20))))]), .s (.bin 22 .mul (.k (.v (.c (.int .i64 64)))) (.t 21)), .s (.fa 23 (.t 3) 0), .s (.store 1 (.t 23) (.t 22))]) (.rgd [0] [.s (.fa 24 (.t 3) 0), .s (.load 25 false 1 (.t 24)), .s (.mv 26 (.t 0)), .s (.call (some 27) 48 [(.t 26), (.k (.v (.c (.int .i64 9))))]), .s (.bin 28 .mul (.k (.v (.c (.int .i64 64)))) (.t 27)), .s (.bin 29 .add (.t 25) (.t 28)), .s (.fa 30 (.t 3) 1), .s (.store 1 (.t 30) (.t 29))] (.tk 0 (.tk 1 (.tk 2 (.one 3 false (.tk 4 (.tk 5 (.tk 6 (.one 7 true (.done none))))))))))) (.seq (.reg [.s (.bin 32 .eql (.t 6) (.k (.v (.c (.int .i64 2))))), .s (.mv 31 (.t 32))]) (.cond (.t 31) (.reg [.s (.fa 33 (.t 3) 1), .s (.store 1 (.t 33) (.k (.v (.c (.int .i64 32)))))]) (.skip))))))))) (.seq (.seq (.reg [.s (.mv 34 (.t 0)), .s (.call (some 35) 53 [(.t 34), (.k (.v (.c (.int .i64 2))))])]) (.cond (.t 35) (.reg [.s (.mv 36 (.t 0)), .s (.call (some 37) 48 [(.t 36), (.k (.v (.c (.int .i64 64))))]), .s (.fa 38 (.t 3) 2), .s (.store 1 (.t 38) (.t 37))]) (.skip))) (.seq (.seq (.reg [.s (.mv 39 (.t 0)), .s (.call (some 40) 53 [(.t 39), (.k (.v (.c (.int .i64 5))))])]) (.cond (.t 40) (.reg [.s (.mv 41 (.t 0)), .s (.call (some 42) 48 [(.t 41), (.k (.v (.c (.int .i64 7))))]), .s (.bin 43 .add (.k (.v (.c (.int .i64 1)))) (.t 42)), .s (.fa 44 (.t 3) 3), .s (.store 1 (.t 44) (.t 43))]) (.skip))) (.seq (.reg [.s (.load 45 true 4 (.t 3)), .s (.store 4 (.t 2) (.t 45))]) (.ret))))))⟩
def c_spec_l2DrawRight : Fun := ⟨111, [true], fun ts K => as1 ts fun t0 => arQ pCurT t0 fun c => chk (CurOk c) (∀ (k : Key) (d : Cur), (CurOk d) → K (tG (k.tc [])) ([curOut d]))⟩
theorem run_spec_l2DrawRight (c : Cur) (hpre : CurOk c) {K : Tree → List Tree → Prop} (hK : ∀ (k : Key) (d : Cur), (CurOk d) → K (tG (k.tc [])) ([curOut d])) : runK [c_spec_l1Below, c_spec_l1Once, c_spec_Root] (0) [true] pf_spec_l2DrawRight [.v (.ptr true 0 (c.tc []))] K := by
  conv => whnf
  repeat' (first | (refine sel_i (fun h => ?_) (fun h => ?_) <;> conv => whnf) | (refine chk_c ?_ ?_ <;> conv => whnf) | (refine And.intro ?_ rfl) | (refine And.intro ?_ ?_ <;> conv => whnf) | (intro x y z d hd; (try have g1 := And.left hd); (try have g2 := And.right hd); (try have g3 := And.left (And.right hd)); (try have g4 := And.right (And.right hd)); conv => whnf) | (intro x y d hd; (try have g1 := And.left hd); (try have g2 := And.right hd); (try have g3 := And.left (And.right hd)); (try have g4 := And.right (And.right hd)); conv => whnf) | (intro x d hd; (try have g1 := And.left hd); (try have g2 := And.right hd); (try have g3 := And.left (And.right hd)); (try have g4 := And.right (And.right hd)); conv => whnf) | (intro d hd; (try have g1 := And.left hd); (try have g2 := And.right hd); (try have g3 := And.left (And.right hd)); (try have g4 := And.right (And.right hd)); conv => whnf))
  all_goals first
    | (refine ⟨?_⟩; exact hd)
    | (refine ⟨?_⟩; exact hd.2)
    | (refine ⟨?_⟩; exact hpre)
    | (refine ⟨?_⟩; exact ⟨hd, by decide⟩)
    | (refine ⟨?_⟩; exact ⟨hd.2, by decide⟩)
    | (refine ⟨?_⟩; exact ⟨hd, by simp⟩)
    | (refine ⟨?_⟩; exact ⟨hd.2, by simp⟩)
    | (refine ⟨?_⟩; exact ⟨hpre, by simp⟩)
    | (refine ⟨?_⟩; decide)
    | (refine ⟨?_⟩; rfl)
    | ((try dsimp only); exact kKey (fun w hw => hK w _ hw) _ _ _ _  hd)
    | ((try dsimp only); exact kKey (fun w hw => hK w _ hw) _ _ _ _  hd.2)
    | trace_state
theorem ok_spec_l2DrawRight : FunOk Tryz.prog c_spec_l2DrawRight := funOkR (E := [c_spec_l1Below, c_spec_l1Once, c_spec_Root]) (envOk_cons ok_spec_l1Below (envOk_cons ok_spec_l1Once (envOk_cons ok_spec_Root (envOk_nil)))) mixd Tryz.func111 (pf := pf_spec_l2DrawRight) (by kernel_rfl) fun ts K h => by
  obtain ⟨t0, e0, h⟩ := as1_out h
  subst e0
  obtain ⟨c, e1, hq⟩ := arQ_out rd_cur h
  clear h
  subst e1
  have h := hq
  clear hq
  obtain ⟨hpre, h⟩ := chk_o h
  exact ⟨Nat.le_of_ble_eq_true (show Nat.ble 1 Tryz.f111.ntmps = true by kernel_rfl), _, run_spec_l2DrawRight c hpre h⟩

def pf_spec_l2Draw : PF := ⟨[.c 2 true 4], .seq (.reg [.s (.alloc 2 [.int .i64 0, .int .i64 0, .int .i64 0, .int .i64 0])]) (.seq (.reg [.s (.mv 4 (.t 0)), .s (.call (some 5) 111 [(.t 4)]), .s (.alloc 3 [.int .i64 0, .int .i64 0, .int .i64 0, .int .i64 0]), .s (.store 4 (.t 3) (.t 5))]) (.seq (.seq (.reg [.s (.mv 6 (.t 0)), .s (.call (some 7) 48 [(.t 6), (.k (.v (.c (.int .i64 12))))])]) (.blk 0 (.seq (.reg [.s (.bin 9 .eql (.t 7) (.k (.v (.c (.int .i64 0))))), .s (.mv 8 (.t 9))]) (.cond (.t 8) (.rgd [0] [.s (.fa 10 (.t 3) 0), .s (.load 11 false 1 (.t 10)), .s (.mv 12 (.t 0)), .s (.bs 13 (.int .i64) [(.k (.v (.c (.int .i64 (-1))))), (.k (.v (.c (.int .i64 65)))), (.k (.v (.c (.int .i64 97)))), (.k (.v (.c (.int .i64 5000))))]), .s (.call (some 14) 110 [(.t 12), (.t 13)]), .s (.bin 15 .add (.t 11) (.t 14)), .s (.fa 16 (.t 3) 1), .s (.store 1 (.t 16) (.t 15))] (.tk 0 (.tk 1 (.tk 2 (.one 3 false (.one 4 false (.tk 5 (.tk 6 (.one 7 true (.done none)))))))))) (.seq (.reg [.s (.bin 18 .eql (.t 7) (.k (.v (.c (.int .i64 1))))), .s (.mv 17 (.t 18))]) (.cond (.t 17) (.reg [.s (.mv 19 (.t 0)), .s (.bs 20 (.int .i64) [(.k (.v (.c (.int .i64 (-1))))), (.k (.v (.c (.int .i64 64))))]), .s (.call (some 21) 110 [(.t 19), (.t 20)]), .s (.fa 22 (.t 3) 2), .s (.store 1 (.t 22) (.t 21))]) (.seq (.reg [.s (.bin 24 .eql (.t 7) (.k (.v (.c (.int .i64 2))))), .s (.mv 23 (.t 24))]) (.cond (.t 23) (.reg [.s (.mv 25 (.t 0)), .s (.bs 26 (.int .i64) [(.k (.v (.c (.int .i64 (-1))))), (.k (.v (.c (.int .i64 8))))]), .s (.call (some 27) 110 [(.t 25), (.t 26)]), .s (.fa 28 (.t 3) 3), .s (.store 1 (.t 28) (.t 27))]) (.skip))))))))) (.seq (.reg [.s (.load 29 true 4 (.t 3)), .s (.store 4 (.t 2) (.t 29))]) (.ret))))⟩
def c_spec_l2Draw : Fun := ⟨220, [true], fun ts K => as1 ts fun t0 => arQ pCurT t0 fun c => chk (CurOk c) (∀ (k : Key) (d : Cur), (CurOk d) → K (tG (k.tc [])) ([curOut d]))⟩
theorem run_spec_l2Draw (c : Cur) (hpre : CurOk c) {K : Tree → List Tree → Prop} (hK : ∀ (k : Key) (d : Cur), (CurOk d) → K (tG (k.tc [])) ([curOut d])) : runK [c_spec_l1Below, c_spec_l1PickInt, c_spec_l2DrawRight] (0) [true] pf_spec_l2Draw [.v (.ptr true 0 (c.tc []))] K := by
  conv => whnf
  repeat' (first | (refine sel_i (fun h => ?_) (fun h => ?_) <;> conv => whnf) | (refine chk_c ?_ ?_ <;> conv => whnf) | (refine And.intro ?_ rfl) | (refine And.intro ?_ ?_ <;> conv => whnf) | (intro x y z d hd; (try have g1 := And.left hd); (try have g2 := And.right hd); (try have g3 := And.left (And.right hd)); (try have g4 := And.right (And.right hd)); conv => whnf) | (intro x y d hd; (try have g1 := And.left hd); (try have g2 := And.right hd); (try have g3 := And.left (And.right hd)); (try have g4 := And.right (And.right hd)); conv => whnf) | (intro x d hd; (try have g1 := And.left hd); (try have g2 := And.right hd); (try have g3 := And.left (And.right hd)); (try have g4 := And.right (And.right hd)); conv => whnf) | (intro d hd; (try have g1 := And.left hd); (try have g2 := And.right hd); (try have g3 := And.left (And.right hd)); (try have g4 := And.right (And.right hd)); conv => whnf))
  all_goals first
    | (refine ⟨?_⟩; exact hd)
    | (refine ⟨?_⟩; exact hd.2)
    | (refine ⟨?_⟩; exact hpre)
    | (refine ⟨?_⟩; exact ⟨hd, by decide⟩)
    | (refine ⟨?_⟩; exact ⟨hd.2, by decide⟩)
    | (refine ⟨?_⟩; exact ⟨hd, by simp⟩)
    | (refine ⟨?_⟩; exact ⟨hd.2, by simp⟩)
    | (refine ⟨?_⟩; exact ⟨hpre, by simp⟩)
    | (refine ⟨?_⟩; decide)
    | (refine ⟨?_⟩; rfl)
    | ((try dsimp only); exact kKey (fun w hw => hK w _ hw) _ _ _ _  hd)
    | ((try dsimp only); exact kKey (fun w hw => hK w _ hw) _ _ _ _  hd.2)
    | trace_state
theorem ok_spec_l2Draw : FunOk Tryz.prog c_spec_l2Draw := funOkR (E := [c_spec_l1Below, c_spec_l1PickInt, c_spec_l2DrawRight]) (envOk_cons ok_spec_l1Below (envOk_cons ok_spec_l1PickInt (envOk_cons ok_spec_l2DrawRight (envOk_nil)))) mixd Tryz.func220 (pf := pf_spec_l2Draw) (by kernel_rfl) fun ts K h => by
  obtain ⟨t0, e0, h⟩ := as1_out h
  subst e0
  obtain ⟨c, e1, hq⟩ := arQ_out rd_cur h
  clear h
  subst e1
  have h := hq
  clear hq
  obtain ⟨hpre, h⟩ := chk_o h
  exact ⟨Nat.le_of_ble_eq_true (show Nat.ble 1 Tryz.f220.ntmps = true by kernel_rfl), _, run_spec_l2Draw c hpre h⟩

def pf_spec_l3DrawRight : PF := ⟨[.c 2 true 6], .seq (.reg [.s (.alloc 2 [.int .i64 0, .ff, .int .i64 0, .int .i64 0, .int .i64 0, .int .i64 0])]) (.seq (.seq (.reg [.s (.mv 4 (.t 0)), .s (.call (some 5) 53 [(.t 4), (.k (.v (.c (.int .i64 3))))])]) (.cond (.t 5) (.seq (.reg [.s (.mv 6 (.t 0)), .s (.bs 7 (.int .i64) [(.k (.v (.c (.int .i64 0)))), (.k (.v (.c (.int .i64 1)))), (.k (.v (.c (.int .i64 2)))), (.k (.v (.c (.int .i64 5)))), (.k (.v (.c (.int .i64 31)))), (.k (.v (.c (.int .i64 65535))))]), .s (.call (some 8) 110 [(.t 6), (.t 7)]), .s (.call (some 9) 109 [(.t 8)]), .s (.store 6 (.t 2) (.t 9))]) (.ret)) (.skip))) (.seq (.reg [.s (.mv 10 (.t 0)), .s (.call (some 11) 111 [(.t 10)]), .s (.alloc 3 [.int .i64 0, .int .i64 0, .int .i64 0, .int .i64 0]), .s (.store 4 (.t 3) (.t 11))]) (.seq (.rgd [0] [.s (.load 12 true 4 (.t 3)), .s (.mv 13 (.t 0)), .s (.fa 14 (.t 3) 0), .s (.load 15 false 1 (.t 14)), .s (.fa 16 (.t 3) 0), .s (.load 17 false 1 (.t 16)), .s (.fa 18 (.t 3) 0), .s (.load 19 false 1 (.t 18)), .s (.bin 20 .add (.t 19) (.k (.v (.c (.int .i64 1))))), .s (.fa 21 (.t 3) 1), .s (.load 22 false 1 (.t 21)), .s (.bs 23 (.int .i64) [(.t 15), (.t 17), (.t 20), (.t 22), (.k (.v (.c (.int .i64 3)))), (.k (.v (.c (.int .i64 1))))]), .s (.call (some 24) 110 [(.t 13), (.t 23)]), .s (.call (some 25) 112 [(.t 12), (.t 24)]), .s (.store 6 (.t 2) (.t 25))] (.tk 0 (.tk 1 (.tk 2 (.tk 3 (.tk 4 (.tk 5 (.tk 6 (.tk 7 (.tk 8 (.tk 9 (.tk 10 (.one 11 false (.one 12 false (.one 13 true (.one 14 true (.done none))))))))))))))))) (.ret))))⟩
def c_spec_l3DrawRight : Fun := ⟨54, [true], fun ts K => as1 ts fun t0 => arQ pCurT t0 fun c => chk (CurOk c) (∀ (w : Word) (d : Cur), (wordOk w = true ∧ CurOk d) → K (tG (w.tc [])) ([curOut d]))⟩
theorem run_spec_l3DrawRight (c : Cur) (hpre : CurOk c) {K : Tree → List Tree → Prop} (hK : ∀ (w : Word) (d : Cur), (wordOk w = true ∧ CurOk d) → K (tG (w.tc [])) ([curOut d])) : runK [c_spec_l1Once, c_spec_Plain, c_spec_l1PickInt, c_spec_l2DrawRight, c_spec_KeyWord] (0) [true] pf_spec_l3DrawRight [.v (.ptr true 0 (c.tc []))] K := by
  conv => whnf
  repeat' (first | (refine sel_i (fun h => ?_) (fun h => ?_) <;> conv => whnf) | (refine chk_c ?_ ?_ <;> conv => whnf) | (refine And.intro ?_ rfl) | (refine And.intro ?_ ?_ <;> conv => whnf) | (intro x y z d hd; (try have g1 := And.left hd); (try have g2 := And.right hd); (try have g3 := And.left (And.right hd)); (try have g4 := And.right (And.right hd)); conv => whnf) | (intro x y d hd; (try have g1 := And.left hd); (try have g2 := And.right hd); (try have g3 := And.left (And.right hd)); (try have g4 := And.right (And.right hd)); conv => whnf) | (intro x d hd; (try have g1 := And.left hd); (try have g2 := And.right hd); (try have g3 := And.left (And.right hd)); (try have g4 := And.right (And.right hd)); conv => whnf) | (intro d hd; (try have g1 := And.left hd); (try have g2 := And.right hd); (try have g3 := And.left (And.right hd)); (try have g4 := And.right (And.right hd)); conv => whnf))
  all_goals first
    | (refine ⟨?_⟩; exact hd)
    | (refine ⟨?_⟩; exact hd.2)
    | (refine ⟨?_⟩; exact hpre)
    | (refine ⟨?_⟩; exact ⟨hd, by decide⟩)
    | (refine ⟨?_⟩; exact ⟨hd.2, by decide⟩)
    | (refine ⟨?_⟩; exact ⟨hd, by simp⟩)
    | (refine ⟨?_⟩; exact ⟨hd.2, by simp⟩)
    | (refine ⟨?_⟩; exact ⟨hpre, by simp⟩)
    | (refine ⟨?_⟩; decide)
    | (refine ⟨?_⟩; rfl)
    | exact hK (plainW _) _ ⟨plainW_ok _, hd.2⟩
    | exact hK (keyWord _ _) _ ⟨keyWord_ok _ _, hd.2⟩
    | trace_state
theorem ok_spec_l3DrawRight : FunOk Tryz.prog c_spec_l3DrawRight := funOkR (E := [c_spec_l1Once, c_spec_Plain, c_spec_l1PickInt, c_spec_l2DrawRight, c_spec_KeyWord]) (envOk_cons ok_spec_l1Once (envOk_cons ok_spec_Plain (envOk_cons ok_spec_l1PickInt (envOk_cons ok_spec_l2DrawRight (envOk_cons ok_spec_KeyWord (envOk_nil)))))) mixd Tryz.func54 (pf := pf_spec_l3DrawRight) (by kernel_rfl) fun ts K h => by
  obtain ⟨t0, e0, h⟩ := as1_out h
  subst e0
  obtain ⟨c, e1, hq⟩ := arQ_out rd_cur h
  clear h
  subst e1
  have h := hq
  clear hq
  obtain ⟨hpre, h⟩ := chk_o h
  exact ⟨Nat.le_of_ble_eq_true (show Nat.ble 1 Tryz.f54.ntmps = true by kernel_rfl), _, run_spec_l3DrawRight c hpre h⟩

def pf_spec_l3Draw : PF := ⟨[.c 2 true 6], .seq (.reg [.s (.alloc 2 [.int .i64 0, .ff, .int .i64 0, .int .i64 0, .int .i64 0, .int .i64 0])]) (.seq (.reg [.s (.mv 4 (.t 0)), .s (.call (some 5) 54 [(.t 4)]), .s (.alloc 3 [.int .i64 0, .ff, .int .i64 0, .int .i64 0, .int .i64 0, .int .i64 0]), .s (.store 6 (.t 3) (.t 5))]) (.seq (.seq (.reg [.s (.mv 6 (.t 0)), .s (.call (some 7) 48 [(.t 6), (.k (.v (.c (.int .i64 12))))])]) (.blk 0 (.seq (.reg [.s (.bin 9 .eql (.t 7) (.k (.v (.c (.int .i64 0))))), .s (.mv 8 (.t 9))]) (.cond (.t 8) (.reg [.s (.mv 10 (.t 0)), .s (.bs 11 (.int .i64) [(.k (.v (.c (.int .i64 (-1))))), (.k (.v (.c (.int .i64 65536)))), (.k (.v (.c (.int .i64 9223372036854775807))))]), .s (.call (some 12) 110 [(.t 10), (.t 11)]), .s (.fa 13 (.t 3) 0), .s (.store 1 (.t 13) (.t 12))]) (.seq (.reg [.s (.bin 15 .eql (.t 7) (.k (.v (.c (.int .i64 1))))), .s (.mv 14 (.t 15))]) (.cond (.t 14) (.reg [.s (.fa 16 (.t 3) 1), .s (.load 17 false 1 (.t 16)), .s (.bnot 18 (.t 17)), .s (.fa 19 (.t 3) 1), .s (.store 1 (.t 19) (.t 18))]) (.seq (.reg [.s (.bin 21 .eql (.t 7) (.k (.v (.c (.int .i64 2))))), .s (.mv 20 (.t 21))]) (.cond (.t 20) (.reg [.s (.mv 22 (.t 0)), .s (.call (some 23) 220 [(.t 22)]), .s (.fa 24 (.t 3) 2), .s (.store 4 (.t 24) (.t 23))]) (.skip))))))))) (.seq (.reg [.s (.load 25 true 6 (.t 3)), .s (.store 6 (.t 2) (.t 25))]) (.ret))))⟩
def c_spec_l3Draw : Fun := ⟨179, [true], fun ts K => as1 ts fun t0 => arQ pCurT t0 fun c => chk (CurOk c) (∀ (w : Word) (d : Cur), (CurOk d) → K (tG (w.tc [])) ([curOut d]))⟩
theorem run_spec_l3Draw (c : Cur) (hpre : CurOk c) {K : Tree → List Tree → Prop} (hK : ∀ (w : Word) (d : Cur), (CurOk d) → K (tG (w.tc [])) ([curOut d])) : runK [c_spec_l1Below, c_spec_l3DrawRight, c_spec_l1PickInt, c_spec_l2Draw] (0) [true] pf_spec_l3Draw [.v (.ptr true 0 (c.tc []))] K := by
  conv => whnf
  repeat' (first | (refine sel_i (fun h => ?_) (fun h => ?_) <;> conv => whnf) | (refine chk_c ?_ ?_ <;> conv => whnf) | (refine And.intro ?_ rfl) | (refine And.intro ?_ ?_ <;> conv => whnf) | (intro x y z d hd; (try have g1 := And.left hd); (try have g2 := And.right hd); (try have g3 := And.left (And.right hd)); (try have g4 := And.right (And.right hd)); conv => whnf) | (intro x y d hd; (try have g1 := And.left hd); (try have g2 := And.right hd); (try have g3 := And.left (And.right hd)); (try have g4 := And.right (And.right hd)); conv => whnf) | (intro x d hd; (try have g1 := And.left hd); (try have g2 := And.right hd); (try have g3 := And.left (And.right hd)); (try have g4 := And.right (And.right hd)); conv => whnf) | (intro d hd; (try have g1 := And.left hd); (try have g2 := And.right hd); (try have g3 := And.left (And.right hd)); (try have g4 := And.right (And.right hd)); conv => whnf))
  all_goals first
    | (refine ⟨?_⟩; exact hd)
    | (refine ⟨?_⟩; exact hd.2)
    | (refine ⟨?_⟩; exact hpre)
    | (refine ⟨?_⟩; exact ⟨hd, by decide⟩)
    | (refine ⟨?_⟩; exact ⟨hd.2, by decide⟩)
    | (refine ⟨?_⟩; exact ⟨hd, by simp⟩)
    | (refine ⟨?_⟩; exact ⟨hd.2, by simp⟩)
    | (refine ⟨?_⟩; exact ⟨hpre, by simp⟩)
    | (refine ⟨?_⟩; decide)
    | (refine ⟨?_⟩; rfl)
    | ((try dsimp only); exact kWord (fun w hw => hK w _ hw) _ _ _ _ _ _  hd)
    | ((try dsimp only); exact kWord (fun w hw => hK w _ hw) _ _ _ _ _ _  hd.2)
    | trace_state
theorem ok_spec_l3Draw : FunOk Tryz.prog c_spec_l3Draw := funOkR (E := [c_spec_l1Below, c_spec_l3DrawRight, c_spec_l1PickInt, c_spec_l2Draw]) (envOk_cons ok_spec_l1Below (envOk_cons ok_spec_l3DrawRight (envOk_cons ok_spec_l1PickInt (envOk_cons ok_spec_l2Draw (envOk_nil))))) mixd Tryz.func179 (pf := pf_spec_l3Draw) (by kernel_rfl) fun ts K h => by
  obtain ⟨t0, e0, h⟩ := as1_out h
  subst e0
  obtain ⟨c, e1, hq⟩ := arQ_out rd_cur h
  clear h
  subst e1
  have h := hq
  clear hq
  obtain ⟨hpre, h⟩ := chk_o h
  exact ⟨Nat.le_of_ble_eq_true (show Nat.ble 1 Tryz.f179.ntmps = true by kernel_rfl), _, run_spec_l3Draw c hpre h⟩

def pf_spec_l6DrawIns : PF := ⟨[.c 2 true 5], .seq (.reg [.s (.alloc 2 [.int .i64 0, .int .i64 0, .int .i64 0, .int .i64 0, .int .i64 0])]) (.seq (.reg [.s (.mv 9 (.t 0)), .s (.call (some 10) 48 [(.t 9), (.k (.v (.c (.int .i64 4))))]), .s (.bin 11 .add (.k (.v (.c (.int .i64 1)))) (.t 10)), .s (.mv 12 (.t 0)), .s (.call (some 13) 48 [(.t 12), (.k (.v (.c (.int .i64 4))))]), .s (.mv 14 (.t 0)), .s (.call (some 15) 48 [(.t 14), (.k (.v (.c (.int .i64 4))))]), .s (.mv 16 (.t 0)), .s (.bs 17 (.int .i64) [(.k (.v (.c (.int .i64 0)))), (.k (.v (.c (.int .i64 0)))), (.k (.v (.c (.int .i64 1)))), (.k (.v (.c (.int .i64 2)))), (.k (.v (.c (.int .i64 3)))), (.k (.v (.c (.int .i64 (-1))))), (.k (.v (.c (.int .i64 20))))]), .s (.call (some 18) 110 [(.t 16), (.t 17)]), .s (.mv 3 (.t 11)), .s (.mv 4 (.t 13)), .s (.mv 5 (.t 15)), .s (.mv 6 (.t 18))]) (.seq (.reg [.s (.mv 19 (.t 0)), .s (.bs 20 (.int .i64) [(.k (.v (.c (.int .i64 1)))), (.k (.v (.c (.int .i64 1)))), (.k (.v (.c (.int .i64 1)))), (.k (.v (.c (.int .i64 2)))), (.k (.v (.c (.int .i64 3)))), (.k (.v (.c (.int .i64 4)))), (.k (.v (.c (.int .i64 5)))), (.k (.v (.c (.int .i64 5)))), (.k (.v (.c (.int .i64 6)))), (.k (.v (.c (.int .i64 6)))), (.k (.v (.c (.int .i64 7)))), (.k (.v (.c (.int .i64 8)))), (.k (.v (.c (.int .i64 9)))), (.k (.v (.c (.int .i64 10)))), (.k (.v (.c (.int .i64 10)))), (.k (.v (.c (.int .i64 10)))), (.k (.v (.c (.int .i64 11)))), (.k (.v (.c (.int .i64 11)))), (.k (.v (.c (.int .i64 11)))), (.k (.v (.c (.int .i64 12)))), (.k (.v (.c (.int .i64 13)))), (.k (.v (.c (.int .i64 13)))), (.k (.v (.c (.int .i64 14)))), (.k (.v (.c (.int .i64 15))))]), .s (.call (some 21) 110 [(.t 19), (.t 20)]), .s (.build 22 [.int .i64 0, .int .i64 0, .int .i64 0, .int .i64 0, .int .i64 0] [(0, 1, (.t 21))]), .s (.alloc 7 [.int .i64 0, .int .i64 0, .int .i64 0, .int .i64 0, .int .i64 0]), .s (.store 5 (.t 7) (.t 22))]) (.seq (.reg [.s (.fa 23 (.t 7) 0), .s (.load 24 false 1 (.t 23)), .s (.call (some 25) 163 [(.t 24)]), .s (.mv 8 (.t 25))]) (.seq (.seq (.reg [.s (.mv 26 (.t 8)), .s (.bin 27 .and (.t 26) (.k (.v (.c (.int .i64 1))))), .s (.bin 28 .neq (.t 27) (.k (.v (.c (.int .i64 0)))))]) (.cond (.t 28) (.reg [.s (.mv 29 (.t 3)), .s (.fa 30 (.t 7) 1), .s (.store 1 (.t 30) (.t 29))]) (.skip))) (.seq (.seq (.reg [.s (.mv 31 (.t 8)), .s (.bin 32 .and (.t 31) (.k (.v (.c (.int .i64 2))))), .s (.bin 33 .neq (.t 32) (.k (.v (.c (.int .i64 0)))))]) (.cond (.t 33) (.reg [.s (.mv 34 (.t 4)), .s (.fa 35 (.t 7) 2), .s (.store 1 (.t 35) (.t 34))]) (.skip))) (.seq (.seq (.reg [.s (.mv 36 (.t 8)), .s (.bin 37 .and (.t 36) (.k (.v (.c (.int .i64 4))))), .s (.bin 38 .neq (.t 37) (.k (.v (.c (.int .i64 0)))))]) (.cond (.t 38) (.reg [.s (.mv 39 (.t 5)), .s (.fa 40 (.t 7) 3), .s (.store 1 (.t 40) (.t 39))]) (.skip))) (.seq (.seq (.reg [.s (.mv 41 (.t 8)), .s (.bin 42 .and (.t 41) (.k (.v (.c (.int .i64 8))))), .s (.bin 43 .neq (.t 42) (.k (.v (.c (.int .i64 0)))))]) (.cond (.t 43) (.reg [.s (.mv 44 (.t 6)), .s (.fa 45 (.t 7) 4), .s (.store 1 (.t 45) (.t 44))]) (.skip))) (.seq (.reg [.s (.load 46 true 5 (.t 7)), .s (.store 5 (.t 2) (.t 46))]) (.ret)))))))))⟩
def c_spec_l6DrawIns : Fun := ⟨161, [true], fun ts K => as1 ts fun t0 => arQ pCurT t0 fun c => chk (CurOk c) (∀ (x : Inst) (d : Cur), (CurOk d) → K (tG (x.tc [])) ([curOut d]))⟩
theorem run_spec_l6DrawIns (c : Cur) (hpre : CurOk c) {K : Tree → List Tree → Prop} (hK : ∀ (x : Inst) (d : Cur), (CurOk d) → K (tG (x.tc [])) ([curOut d])) : runK [c_spec_l1Below, c_spec_l1PickInt, c_spec_l6Has] (0) [true] pf_spec_l6DrawIns [.v (.ptr true 0 (c.tc []))] K := by
  conv => whnf
  repeat' (first | (refine sel_i (fun h => ?_) (fun h => ?_) <;> conv => whnf) | (refine chk_c ?_ ?_ <;> conv => whnf) | (refine And.intro ?_ rfl) | (refine And.intro ?_ ?_ <;> conv => whnf) | (intro x y z d hd; (try have g1 := And.left hd); (try have g2 := And.right hd); (try have g3 := And.left (And.right hd)); (try have g4 := And.right (And.right hd)); conv => whnf) | (intro x y d hd; (try have g1 := And.left hd); (try have g2 := And.right hd); (try have g3 := And.left (And.right hd)); (try have g4 := And.right (And.right hd)); conv => whnf) | (intro x d hd; (try have g1 := And.left hd); (try have g2 := And.right hd); (try have g3 := And.left (And.right hd)); (try have g4 := And.right (And.right hd)); conv => whnf) | (intro d hd; (try have g1 := And.left hd); (try have g2 := And.right hd); (try have g3 := And.left (And.right hd)); (try have g4 := And.right (And.right hd)); conv => whnf))
  all_goals first
    | (refine ⟨?_⟩; exact hd)
    | (refine ⟨?_⟩; exact hd.2)
    | (refine ⟨?_⟩; exact hpre)
    | (refine ⟨?_⟩; exact ⟨hd, by decide⟩)
    | (refine ⟨?_⟩; exact ⟨hd.2, by decide⟩)
    | (refine ⟨?_⟩; exact ⟨hd, by simp⟩)
    | (refine ⟨?_⟩; exact ⟨hd.2, by simp⟩)
    | (refine ⟨?_⟩; exact ⟨hpre, by simp⟩)
    | (refine ⟨?_⟩; decide)
    | (refine ⟨?_⟩; rfl)
    | ((try dsimp only); exact kInst (fun w hw => hK w _ hw) _ _ _ _ _  hd)
    | ((try dsimp only); exact kInst (fun w hw => hK w _ hw) _ _ _ _ _  hd.2)
    | trace_state
theorem ok_spec_l6DrawIns : FunOk Tryz.prog c_spec_l6DrawIns := funOkR (E := [c_spec_l1Below, c_spec_l1PickInt, c_spec_l6Has]) (envOk_cons ok_spec_l1Below (envOk_cons ok_spec_l1PickInt (envOk_cons ok_spec_l6Has (envOk_nil)))) mixd Tryz.func161 (pf := pf_spec_l6DrawIns) (by kernel_rfl) fun ts K h => by
  obtain ⟨t0, e0, h⟩ := as1_out h
  subst e0
  obtain ⟨c, e1, hq⟩ := arQ_out rd_cur h
  clear h
  subst e1
  have h := hq
  clear hq
  obtain ⟨hpre, h⟩ := chk_o h
  exact ⟨Nat.le_of_ble_eq_true (show Nat.ble 1 Tryz.f161.ntmps = true by kernel_rfl), _, run_spec_l6DrawIns c hpre h⟩

def pf_spec_l6Spoil : PF := ⟨[.c 4 true 5], .seq (.reg [.s (.box 3 (.t 1)), .s (.alloc 4 [.int .i64 0, .int .i64 0, .int .i64 0, .int .i64 0, .int .i64 0])]) (.seq (.seq (.reg [.s (.mv 5 (.t 0)), .s (.call (some 6) 48 [(.t 5), (.k (.v (.c (.int .i64 7))))])]) (.blk 0 (.seq (.reg [.s (.bin 8 .eql (.t 6) (.k (.v (.c (.int .i64 0))))), .s (.mv 7 (.t 8))]) (.cond (.t 7) (.reg [.s (.mv 9 (.t 0)), .s (.call (some 10) 48 [(.t 9), (.k (.v (.c (.int .i64 18))))]), .s (.bin 11 .sub (.t 10) (.k (.v (.c (.int .i64 1))))), .s (.fa 12 (.t 3) 0), .s (.store 1 (.t 12) (.t 11))]) (.seq (.reg [.s (.bin 14 .eql (.t 6) (.k (.v (.c (.int .i64 1))))), .s (.mv 13 (.t 14))]) (.cond (.t 13) (.reg [.s (.mv 15 (.t 0)), .s (.bs 16 (.int .i64) [(.k (.v (.c (.int .i64 (-1))))), (.k (.v (.c (.int .i64 7)))), (.k (.v (.c (.int .i64 8))))]), .s (.call (some 17) 110 [(.t 15), (.t 16)]), .s (.fa 18 (.t 3) 1), .s (.store 1 (.t 18) (.t 17))]) (.seq (.reg [.s (.bin 20 .eql (.t 6) (.k (.v (.c (.int .i64 2))))), .s (.mv 19 (.t 20))]) (.cond (.t 19) (.reg [.s (.mv 21 (.t 0)), .s (.bs 22 (.int .i64) [(.k (.v (.c (.int .i64 (-1))))), (.k (.v (.c (.int .i64 7)))), (.k (.v (.c (.int .i64 8))))]), .s (.call (some 23) 110 [(.t 21), (.t 22)]), .s (.fa 24 (.t 3) 2), .s (.store 1 (.t 24) (.t 23))]) (.seq (.reg [.s (.bin 26 .eql (.t 6) (.k (.v (.c (.int .i64 3))))), .s (.mv 25 (.t 26))]) (.cond (.t 25) (.reg [.s (.mv 27 (.t 0)), .s (.bs 28 (.int .i64) [(.k (.v (.c (.int .i64 (-128))))), (.k (.v (.c (.int .i64 (-129))))), (.k (.v (.c (.int .i64 127)))), (.k (.v (.c (.int .i64 128))))]), .s (.call (some 29) 110 [(.t 27), (.t 28)]), .s (.fa 30 (.t 3) 4), .s (.store 1 (.t 30) (.t 29))]) (.skip))))))))))) (.seq (.reg [.s (.load 31 true 5 (.t 3)), .s (.store 5 (.t 4) (.t 31))]) (.ret)))⟩
def c_spec_l6Spoil : Fun := ⟨101, [true, false], fun ts K => as2 ts fun t0 t1 => arQ pCurT t0 fun c => arG pInstT t1 fun x => chk (CurOk c) (∀ (y : Inst) (d : Cur), (CurOk d) → K (tG (y.tc [])) ([curOut d]))⟩
theorem run_spec_l6Spoil (c : Cur) (x : Inst) (hpre : CurOk c) {K : Tree → List Tree → Prop} (hK : ∀ (y : Inst) (d : Cur), (CurOk d) → K (tG (y.tc [])) ([curOut d])) : runK [c_spec_l1Below, c_spec_l1PickInt] (0) [true, false] pf_spec_l6Spoil [.v (.ptr true 0 (c.tc [])), tG (x.tc [])] K := by
  conv => whnf
  repeat' (first | (refine sel_i (fun h => ?_) (fun h => ?_) <;> conv => whnf) | (refine chk_c ?_ ?_ <;> conv => whnf) | (refine And.intro ?_ rfl) | (refine And.intro ?_ ?_ <;> conv => whnf) | (intro x y z d hd; (try have g1 := And.left hd); (try have g2 := And.right hd); (try have g3 := And.left (And.right hd)); (try have g4 := And.right (And.right hd)); conv => whnf) | (intro x y d hd; (try have g1 := And.left hd); (try have g2 := And.right hd); (try have g3 := And.left (And.right hd)); (try have g4 := And.right (And.right hd)); conv => whnf) | (intro x d hd; (try have g1 := And.left hd); (try have g2 := And.right hd); (try have g3 := And.left (And.right hd)); (try have g4 := And.right (And.right hd)); conv => whnf) | (intro d hd; (try have g1 := And.left hd); (try have g2 := And.right hd); (try have g3 := And.left (And.right hd)); (try have g4 := And.right (And.right hd)); conv => whnf))
  all_goals first
    | (refine ⟨?_⟩; exact hd)
    | (refine ⟨?_⟩; exact hd.2)
    | (refine ⟨?_⟩; exact hpre)
    | (refine ⟨?_⟩; exact ⟨hd, by decide⟩)
    | (refine ⟨?_⟩; exact ⟨hd.2, by decide⟩)
    | (refine ⟨?_⟩; exact ⟨hd, by simp⟩)
    | (refine ⟨?_⟩; exact ⟨hd.2, by simp⟩)
    | (refine ⟨?_⟩; exact ⟨hpre, by simp⟩)
    | (refine ⟨?_⟩; decide)
    | (refine ⟨?_⟩; rfl)
    | ((try dsimp only); exact kInst (fun w hw => hK w _ hw) _ _ _ _ _  hd)
    | ((try dsimp only); exact kInst (fun w hw => hK w _ hw) _ _ _ _ _  hd.2)
    | trace_state
theorem ok_spec_l6Spoil : FunOk Tryz.prog c_spec_l6Spoil := funOkR (E := [c_spec_l1Below, c_spec_l1PickInt]) (envOk_cons ok_spec_l1Below (envOk_cons ok_spec_l1PickInt (envOk_nil))) mixd Tryz.func101 (pf := pf_spec_l6Spoil) (by kernel_rfl) fun ts K h => by
  obtain ⟨t0, t1, e0, h⟩ := as2_out h
  subst e0
  obtain ⟨c, e1, hq⟩ := arQ_out rd_cur h
  clear h
  subst e1
  have h := hq
  clear hq
  obtain ⟨x, e1, hq⟩ := arG_out rd_inst h
  clear h
  subst e1
  have h := hq
  clear hq
  obtain ⟨hpre, h⟩ := chk_o h
  exact ⟨Nat.le_of_ble_eq_true (show Nat.ble 2 Tryz.f101.ntmps = true by kernel_rfl), _, run_spec_l6Spoil c x hpre h⟩

def lb_spec_l6DrawCode_0 : PC := .seq (.seq (.reg [.s (.mv 39 (.t 5)), .s (.mv 40 (.t 4)), .s (.bin 41 .lss (.t 39) (.t 40))]) (.cond (.t 41) (.skip) (.exit 1))) (.seq (.blk 2 (.reg [.s (.mv 44 (.t 3)), .s (.mv 45 (.t 0)), .s (.call (some 46) 161 [(.t 45)]), .s (.bs 47 .inst [(.t 46)]), .s (.app 48 .inst (.t 44) (.t 47)), .s (.mv 3 (.t 48))])) (.reg [.s (.mv 42 (.t 5)), .s (.bin 43 .add (.t 42) (.k (.v (.c (.int .i64 1))))), .s (.mv 5 (.t 43))]))
def pf_spec_l6DrawCode : PF := ⟨[.t 2], .seq (.reg [.s (.mv 2 (.k (.v (.c (.nils .inst)))))]) (.seq (.reg [.s (.bs 6 .inst []), .s (.mv 3 (.t 6))]) (.seq (.seq (.reg [.s (.mv 7 (.t 0)), .s (.call (some 8) 48 [(.t 7), (.k (.v (.c (.int .i64 4))))])]) (.blk 0 (.seq (.reg [.s (.bin 10 .eql (.t 8) (.k (.v (.c (.int .i64 0))))), .s (.mv 9 (.t 10))]) (.cond (.t 9) (.reg [.s (.mv 11 (.t 3)), .s (.build 12 [.int .i64 0, .int .i64 0, .int .i64 0, .int .i64 0, .int .i64 0] [(0, 1, (.k (.v (.c (.int .i64 1))))), (1, 1, (.k (.v (.c (.int .i64 1))))), (4, 1, (.k (.v (.c (.int .i64 3)))))]), .s (.build 13 [.int .i64 0, .int .i64 0, .int .i64 0, .int .i64 0, .int .i64 0] [(0, 1, (.k (.v (.c (.int .i64 5))))), (1, 1, (.k (.v (.c (.int .i64 2))))), (2, 1, (.k (.v (.c (.int .i64 0))))), (3, 1, (.k (.v (.c (.int .i64 1)))))]), .s (.build 14 [.int .i64 0, .int .i64 0, .int .i64 0, .int .i64 0, .int .i64 0] [(0, 1, (.k (.v (.c (.int .i64 11))))), (2, 1, (.k (.v (.c (.int .i64 0))))), (3, 1, (.k (.v (.c (.int .i64 2))))), (4, 1, (.k (.v (.c (.int .i64 1)))))]), .s (.build 15 [.int .i64 0, .int .i64 0, .int .i64 0, .int .i64 0, .int .i64 0] [(0, 1, (.k (.v (.c (.int .i64 10))))), (1, 1, (.k (.v (.c (.int .i64 3))))), (2, 1, (.k (.v (.c (.int .i64 0))))), (4, 1, (.k (.v (.c (.int .i64 1)))))]), .s (.bs 16 .inst [(.t 12), (.t 13), (.t 14), (.t 15)]), .s (.app 17 .inst (.t 11) (.t 16)), .s (.mv 3 (.t 17))]) (.seq (.reg [.s (.bin 19 .eql (.t 8) (.k (.v (.c (.int .i64 1))))), .s (.mv 18 (.t 19))]) (.cond (.t 18) (.reg [.s (.mv 20 (.t 3)), .s (.build 21 [.int .i64 0, .int .i64 0, .int .i64 0, .int .i64 0, .int .i64 0] [(0, 1, (.k (.v (.c (.int .i64 1))))), (1, 1, (.k (.v (.c (.int .i64 1))))), (4, 1, (.k (.v (.c (.int .i64 2)))))]), .s (.build 22 [.int .i64 0, .int .i64 0, .int .i64 0, .int .i64 0, .int .i64 0] [(0, 1, (.k (.v (.c (.int .i64 6))))), (1, 1, (.k (.v (.c (.int .i64 4))))), (2, 1, (.k (.v (.c (.int .i64 0))))), (3, 1, (.k (.v (.c (.int .i64 1)))))]), .s (.build 23 [.int .i64 0, .int .i64 0, .int .i64 0, .int .i64 0, .int .i64 0] [(0, 1, (.k (.v (.c (.int .i64 7))))), (1, 1, (.k (.v (.c (.int .i64 2))))), (2, 1, (.k (.v (.c (.int .i64 0))))), (3, 1, (.k (.v (.c (.int .i64 4)))))]), .s (.build 24 [.int .i64 0, .int .i64 0, .int .i64 0, .int .i64 0, .int .i64 0] [(0, 1, (.k (.v (.c (.int .i64 8))))), (1, 1, (.k (.v (.c (.int .i64 3))))), (2, 1, (.k (.v (.c (.int .i64 2))))), (3, 1, (.k (.v (.c (.int .i64 4)))))]), .s (.bs 25 .inst [(.t 21), (.t 22), (.t 23), (.t 24)]), .s (.app 26 .inst (.t 20) (.t 25)), .s (.mv 3 (.t 26))]) (.seq (.reg [.s (.bin 28 .eql (.t 8) (.k (.v (.c (.int .i64 2))))), .s (.mv 27 (.t 28))]) (.cond (.t 27) (.reg [.s (.mv 29 (.t 3)), .s (.build 30 [.int .i64 0, .int .i64 0, .int .i64 0, .int .i64 0, .int .i64 0] [(0, 1, (.k (.v (.c (.int .i64 1))))), (1, 1, (.k (.v (.c (.int .i64 1))))), (4, 1, (.k (.v (.c (.int .i64 5)))))]), .s (.build 31 [.int .i64 0, .int .i64 0, .int .i64 0, .int .i64 0, .int .i64 0] [(0, 1, (.k (.v (.c (.int .i64 1))))), (1, 1, (.k (.v (.c (.int .i64 2))))), (4, 1, (.k (.v (.c (.int .i64 (-1))))))]), .s (.build 32 [.int .i64 0, .int .i64 0, .int .i64 0, .int .i64 0, .int .i64 0] [(0, 1, (.k (.v (.c (.int .i64 2))))), (1, 1, (.k (.v (.c (.int .i64 1))))), (2, 1, (.k (.v (.c (.int .i64 1))))), (3, 1, (.k (.v (.c (.int .i64 2)))))]), .s (.build 33 [.int .i64 0, .int .i64 0, .int .i64 0, .int .i64 0, .int .i64 0] [(0, 1, (.k (.v (.c (.int .i64 13))))), (2, 1, (.k (.v (.c (.int .i64 1))))), (4, 1, (.k (.v (.c (.int .i64 2)))))]), .s (.build 34 [.int .i64 0, .int .i64 0, .int .i64 0, .int .i64 0, .int .i64 0] [(0, 1, (.k (.v (.c (.int .i64 13))))), (2, 1, (.k (.v (.c (.int .i64 5))))), (4, 1, (.k (.v (.c (.int .i64 (-2))))))]), .s (.bs 35 .inst [(.t 30), (.t 31), (.t 32), (.t 33), (.t 34)]), .s (.app 36 .inst (.t 29) (.t 35)), .s (.mv 3 (.t 36))]) (.skip))))))))) (.seq (.reg [.s (.mv 37 (.t 0)), .s (.call (some 38) 48 [(.t 37), (.k (.v (.c (.int .i64 14))))]), .s (.mv 4 (.t 38))]) (.seq (.seq (.reg [.s (.mv 5 (.k (.v (.c (.int .i64 0)))))]) (.blk 1 (.loop [0, 3, 4, 5] lb_spec_l6DrawCode_0))) (.seq (.reg [.s (.mv 49 (.t 3)), .s (.build 50 [.int .i64 0, .int .i64 0, .int .i64 0, .int .i64 0, .int .i64 0] [(0, 1, (.k (.v (.c (.int .i64 15)))))]), .s (.bs 51 .inst [(.t 50)]), .s (.app 52 .inst (.t 49) (.t 51)), .s (.mv 2 (.t 52))]) (.ret))))))⟩
def c_spec_l6DrawCode : Fun := ⟨100, [true], fun ts K => as1 ts fun t0 => arQ pCurT t0 fun c => chk (CurOk c) (∀ (l : List Inst) (d : Cur), (1 ≤ l.length ∧ l.length ≤ 20 ∧ CurOk d) → K (tL true .inst l) ([curOut d]))⟩
theorem run_spec_l6DrawCode (c : Cur) (hpre : CurOk c) {K : Tree → List Tree → Prop} (hK : ∀ (l : List Inst) (d : Cur), (1 ≤ l.length ∧ l.length ≤ 20 ∧ CurOk d) → K (tL true .inst l) ([curOut d])) : runK [c_spec_l1Below, c_spec_l6DrawIns] (20) [true] pf_spec_l6DrawCode [.v (.ptr true 0 (c.tc []))] K := by
  conv => whnf
  repeat' (first | (refine sel_i (fun h => ?_) (fun h => ?_) <;> conv => whnf) | (refine chk_c ?_ ?_ <;> conv => whnf) | (refine And.intro ?_ rfl) | (refine And.intro ?_ ?_ <;> conv => whnf) | (intro x y z d hd; (try have g1 := And.left hd); (try have g2 := And.right hd); (try have g3 := And.left (And.right hd)); (try have g4 := And.right (And.right hd)); conv => whnf) | (intro x y d hd; (try have g1 := And.left hd); (try have g2 := And.right hd); (try have g3 := And.left (And.right hd)); (try have g4 := And.right (And.right hd)); conv => whnf) | (intro x d hd; (try have g1 := And.left hd); (try have g2 := And.right hd); (try have g3 := And.left (And.right hd)); (try have g4 := And.right (And.right hd)); conv => whnf) | (intro d hd; (try have g1 := And.left hd); (try have g2 := And.right hd); (try have g3 := And.left (And.right hd)); (try have g4 := And.right (And.right hd)); conv => whnf))
  all_goals first
    | (refine ⟨?_⟩; exact hd)
    | (refine ⟨?_⟩; exact hd.2)
    | (refine ⟨?_⟩; exact hpre)
    | (refine ⟨?_⟩; exact ⟨hd, by decide⟩)
    | (refine ⟨?_⟩; exact ⟨hd.2, by decide⟩)
    | (refine ⟨?_⟩; exact ⟨hd, by simp⟩)
    | (refine ⟨?_⟩; exact ⟨hd.2, by simp⟩)
    | (refine ⟨?_⟩; exact ⟨hpre, by simp⟩)
    | (refine ⟨?_⟩; decide)
    | (refine ⟨?_⟩; rfl)
    | skip
  all_goals (
    have hx := hd.1
    refine loop (α := Nat × Cur × List Inst) (fun q => ⟨[(0, .v (.c (.ptr 0 0))), (3, .v (.c (.sl true .inst 2))), (4, .v (.c (.int .i64 x))), (5, .v (.c (.int .i64 (q.1 : Int))))],
        [(2, some (.flat true .inst none q.2.2)), (1, some (.flat false (.int .u8) none q.2.1.b)), (0, some (.box true [.sl false (.int .u8) 1, .int .i64 q.2.1.i, .int .i64 q.2.1.h]))], nums.tail.tail.tail, [.v (.c (.ptr 0 0))], false, []⟩)
      (fun q => (q.1 : Int) ≤ x ∧ CurOk q.2.1 ∧ q.2.2.length ≤ 5 + q.1) (fun q => 14 - q.1) (fun q R hI hR => ?_) (0, d, _) _ ⟨by simp; omega, hd.2, by simp⟩ (by simp)
    obtain ⟨i, e, l⟩ := q
    obtain ⟨hi, he, hl⟩ := hI
    dsimp only at hi he hl
    dsimp only
    conv => whnf
    repeat' (first | (refine sel_i (fun h => ?_) (fun h => ?_) <;> conv => whnf) | (refine chk_c ?_ ?_ <;> conv => whnf) | (refine And.intro ?_ rfl) | (refine And.intro ?_ ?_ <;> conv => whnf) | (intro x y z d hd; (try have g1 := And.left hd); (try have g2 := And.right hd); (try have g3 := And.left (And.right hd)); (try have g4 := And.right (And.right hd)); conv => whnf) | (intro x y d hd; (try have g1 := And.left hd); (try have g2 := And.right hd); (try have g3 := And.left (And.right hd)); (try have g4 := And.right (And.right hd)); conv => whnf) | (intro x d hd; (try have g1 := And.left hd); (try have g2 := And.right hd); (try have g3 := And.left (And.right hd)); (try have g4 := And.right (And.right hd)); conv => whnf) | (intro d hd; (try have g1 := And.left hd); (try have g2 := And.right hd); (try have g3 := And.left (And.right hd)); (try have g4 := And.right (And.right hd)); conv => whnf))
    all_goals first
      | (refine ⟨?_⟩; exact he)
      | (refine ⟨?_⟩; simp; omega)
      | (rw [wrap_id (n := (i : Int) + 1) (by omega) (by omega)]; exact hR (i + 1, _, _) ⟨by simp at h ⊢; omega, by exact hd, by simp; omega⟩ (by simp at h ⊢; omega))
      | exact hK _ ⟨_, _, _⟩ ⟨by simp, by simp; omega, he⟩
      | trace_state)
theorem ok_spec_l6DrawCode : FunOk Tryz.prog c_spec_l6DrawCode := funOkR (E := [c_spec_l1Below, c_spec_l6DrawIns]) (envOk_cons ok_spec_l1Below (envOk_cons ok_spec_l6DrawIns (envOk_nil))) mixd Tryz.func100 (pf := pf_spec_l6DrawCode) (by kernel_rfl) fun ts K h => by
  obtain ⟨t0, e0, h⟩ := as1_out h
  subst e0
  obtain ⟨c, e1, hq⟩ := arQ_out rd_cur h
  clear h
  subst e1
  have h := hq
  clear hq
  obtain ⟨hpre, h⟩ := chk_o h
  exact ⟨Nat.le_of_ble_eq_true (show Nat.ble 1 Tryz.f100.ntmps = true by kernel_rfl), _, run_spec_l6DrawCode c hpre h⟩

theorem kMem {K : Tree → List Tree → Prop} {o : List Tree} {P : Mem → Prop} (hK : ∀ w : Mem, P w → K (tG (w.tc true [])) o) (a : List Word) (b : List Bool) (h : P ⟨a, b⟩) : K (.v (.g [.ow .word a, .ow .bool b])) o := hK ⟨a, b⟩ h
def cuC (d : Cur) (k : Nat) : List Cell := [.sl false (.int .u8) k, .int .i64 d.i, .int .i64 d.h]
theorem memoryOk_setW {m : Mem} (h : memoryOk m = true) {i : Nat} {w : Word} (hw : wordOk w = true) : memoryOk ⟨m.words.set i w, m.gone⟩ = true := by
  obtain ⟨h1, h2, h3⟩ := memoryOk_iff.1 h
  refine memoryOk_iff.2 ⟨by simp [h1], h2, fun v hv => ?_⟩
  rcases mem_set hv with q | q
  · exact h3 v q
  · rw [q]; exact hw
theorem memoryOk_setG {m : Mem} (h : memoryOk m = true) {i : Nat} {b : Bool} : memoryOk ⟨m.words, m.gone.set i b⟩ = true := by
  obtain ⟨h1, h2, h3⟩ := memoryOk_iff.1 h
  exact memoryOk_iff.2 ⟨h1, by simp [h2], h3⟩
theorem memNew_ok : memoryOk memNew = true := by decide +kernel
theorem stateNew_ok : stateOk stateNew = true := by decide +kernel
theorem lMem_of {m : Mem} (h : memoryOk m = true) : LMem m 24 := by
  obtain ⟨h1, h2, h3⟩ := memoryOk_iff.1 h
  exact ⟨by omega, by omega⟩

def lb_spec_l8DrawRight_0 : PC := .seq (.seq (.reg [.s (.mv 7 (.t 4)), .s (.mv 8 (.t 0)), .s (.call (some 9) 48 [(.t 8), (.k (.v (.c (.int .i64 12))))]), .s (.bin 10 .lss (.t 7) (.t 9))]) (.cond (.t 10) (.skip) (.exit 0))) (.seq (.blk 1 (.rgd [0] [.s (.fa 13 (.t 3) 0), .s (.load 14 false 1 (.t 13)), .s (.mv 15 (.t 0)), .s (.call (some 16) 48 [(.t 15), (.k (.v (.c (.int .i64 24))))]), .s (.mv 17 (.t 0)), .s (.call (some 18) 54 [(.t 17)]), .s (.ia 19 .word (.t 14) (.t 16)), .s (.store 6 (.t 19) (.t 18))] (.tk 0 (.tk 1 (.tk 2 (.tk 4 (.one 3 false (.one 5 false (.tk 6 (.one 7 true (.done none))))))))))) (.reg [.s (.mv 11 (.t 4)), .s (.bin 12 .add (.t 11) (.k (.v (.c (.int .i64 1))))), .s (.mv 4 (.t 12))]))
def lb_spec_l8DrawRight_1 : PC := .seq (.seq (.reg [.s (.mv 20 (.t 5)), .s (.mv 21 (.t 0)), .s (.call (some 22) 48 [(.t 21), (.k (.v (.c (.int .i64 4))))]), .s (.bin 23 .lss (.t 20) (.t 22))]) (.cond (.t 23) (.skip) (.exit 2))) (.seq (.blk 3 (.rgd [0] [.s (.fa 26 (.t 3) 1), .s (.load 27 false 1 (.t 26)), .s (.mv 28 (.t 0)), .s (.call (some 29) 48 [(.t 28), (.k (.v (.c (.int .i64 24))))]), .s (.ia 30 .bool (.t 27) (.t 29)), .s (.store 1 (.t 30) (.k (.v (.c .tt))))] (.tk 0 (.tk 1 (.tk 2 (.one 3 false (.tk 4 (.one 5 true (.done none))))))))) (.reg [.s (.mv 24 (.t 5)), .s (.bin 25 .add (.t 24) (.k (.v (.c (.int .i64 1))))), .s (.mv 5 (.t 25))]))
def pf_spec_l8DrawRight : PF := ⟨[.c 2 true 2], .seq (.reg [.s (.alloc 2 [.nils .word, .nils .bool])]) (.seq (.reg [.s (.call (some 6) 138 []), .s (.alloc 3 [.nils .word, .nils .bool]), .s (.store 2 (.t 3) (.t 6))]) (.seq (.seq (.reg [.s (.mv 4 (.k (.v (.c (.int .i64 0)))))]) (.blk 0 (.loop [0, 2, 3, 4] lb_spec_l8DrawRight_0))) (.seq (.seq (.reg [.s (.mv 5 (.k (.v (.c (.int .i64 0)))))]) (.blk 2 (.loop [0, 2, 3, 5] lb_spec_l8DrawRight_1))) (.seq (.reg [.s (.load 31 true 2 (.t 3)), .s (.store 2 (.t 2) (.t 31))]) (.ret)))))⟩
def c_spec_l8DrawRight : Fun := ⟨73, [true], fun ts K => as1 ts fun t0 => arQ pCurT t0 fun c => chk (CurOk c) (∀ (m : Mem) (d : Cur), (memoryOk m = true ∧ CurOk d) → K (tG (m.tc true [])) ([curOut d]))⟩
theorem run_spec_l8DrawRight (c : Cur) (hpre : CurOk c) {K : Tree → List Tree → Prop} (hK : ∀ (m : Mem) (d : Cur), (memoryOk m = true ∧ CurOk d) → K (tG (m.tc true [])) ([curOut d])) : runK [c_spec_l1Below, c_spec_l3DrawRight, c_spec_MemoryNew] (20) [true] pf_spec_l8DrawRight [.v (.ptr true 0 (c.tc []))] K := by
  conv => whnf
  refine loop (α := Nat × Cur × Mem) (fun q => ⟨[(0, .v (.c (.ptr 0 0))), (2, .v (.c (.ptr 2 0))), (3, .v (.c (.ptr 3 0))), (4, .v (.c (.int .i64 (q.1 : Int))))],
        [(5, some (.flat true .bool none q.2.2.gone)), (4, some (.flat true .word none q.2.2.words)), (3, some (.box true [.sl false .word 4, .sl false .bool 5])), (2, some (.box true [.nils .word, .nils .bool])), (1, some (.flat false (.int .u8) none q.2.1.b)), (0, some (.box true (cuC q.2.1 1)))], nums.tail.tail.tail.tail.tail.tail, [.v (.c (.ptr 0 0))], false, []⟩)
    (fun q => q.1 ≤ 12 ∧ CurOk q.2.1 ∧ memoryOk q.2.2 = true) (fun q => 12 - q.1) (fun q R hI hR => ?_) (0, c, memNew) _ ⟨by simp, hpre, memNew_ok⟩ (by simp)
  obtain ⟨i, e, m⟩ := q
  obtain ⟨hi, he, hm⟩ := hI
  dsimp only at hi he hm
  dsimp only
  have hl := memoryOk_iff.1 hm
  conv => whnf
  repeat' (first | (refine sel_i (fun h => ?_) (fun h => ?_) <;> conv => whnf) | (refine chk_c ?_ ?_ <;> conv => whnf) | (refine And.intro ?_ rfl) | (refine And.intro ?_ ?_ <;> conv => whnf) | (intro x y z d hd; (try have g1 := And.left hd); (try have g2 := And.right hd); (try have g3 := And.left (And.right hd)); (try have g4 := And.right (And.right hd)); conv => whnf) | (intro x y d hd; (try have g1 := And.left hd); (try have g2 := And.right hd); (try have g3 := And.left (And.right hd)); (try have g4 := And.right (And.right hd)); conv => whnf) | (intro x d hd; (try have g1 := And.left hd); (try have g2 := And.right hd); (try have g3 := And.left (And.right hd)); (try have g4 := And.right (And.right hd)); conv => whnf) | (intro d hd; (try have g1 := And.left hd); (try have g2 := And.right hd); (try have g3 := And.left (And.right hd)); (try have g4 := And.right (And.right hd)); conv => whnf))
  all_goals first
    | (refine ⟨?_⟩; exact he)
    | (refine ⟨?_⟩; exact hd.2)
    | (refine ⟨?_⟩; simp at *; omega)
    | (rw [wrap_id (n := (i : Int) + 1) (by omega) (by omega)]; exact hR (i + 1, _, ⟨_, _⟩) ⟨by simp at h ⊢; omega, by exact hd.2, memoryOk_setW hm hd.1⟩ (by simp at h ⊢; omega))
    | skip
  clear hR he hl hi
  refine loop (α := Nat × Cur × Mem) (fun q => ⟨[(0, .v (.c (.ptr 0 0))), (2, .v (.c (.ptr 2 0))), (3, .v (.c (.ptr 3 0))), (5, .v (.c (.int .i64 (q.1 : Int))))],
        [(5, some (.flat true .bool none q.2.2.gone)), (4, some (.flat true .word none q.2.2.words)), (3, some (.box true [.sl false .word 4, .sl false .bool 5])), (2, some (.box true [.nils .word, .nils .bool])), (1, some (.flat false (.int .u8) none q.2.1.b)), (0, some (.box true (cuC q.2.1 1)))], nums.tail.tail.tail.tail.tail.tail, [.v (.c (.ptr 0 0))], false, []⟩)
    (fun q => q.1 ≤ 12 ∧ CurOk q.2.1 ∧ memoryOk q.2.2 = true) (fun q => 12 - q.1) (fun q R hI hR => ?_) (0, d, m) _ ⟨by simp, hd.2, hm⟩ (by simp)
  obtain ⟨i, e, m⟩ := q
  obtain ⟨hi, he, hm⟩ := hI
  dsimp only at hi he hm
  dsimp only
  have hl := memoryOk_iff.1 hm
  conv => whnf
  repeat' (first | (refine sel_i (fun h => ?_) (fun h => ?_) <;> conv => whnf) | (refine chk_c ?_ ?_ <;> conv => whnf) | (refine And.intro ?_ rfl) | (refine And.intro ?_ ?_ <;> conv => whnf) | (intro x y z d hd; (try have g1 := And.left hd); (try have g2 := And.right hd); (try have g3 := And.left (And.right hd)); (try have g4 := And.right (And.right hd)); conv => whnf) | (intro x y d hd; (try have g1 := And.left hd); (try have g2 := And.right hd); (try have g3 := And.left (And.right hd)); (try have g4 := And.right (And.right hd)); conv => whnf) | (intro x d hd; (try have g1 := And.left hd); (try have g2 := And.right hd); (try have g3 := And.left (And.right hd)); (try have g4 := And.right (And.right hd)); conv => whnf) | (intro d hd; (try have g1 := And.left hd); (try have g2 := And.right hd); (try have g3 := And.left (And.right hd)); (try have g4 := And.right (And.right hd)); conv => whnf))
  all_goals first
    | (refine ⟨?_⟩; exact he)
    | (refine ⟨?_⟩; exact hd.2)
    | (refine ⟨?_⟩; simp at *; omega)
    | (rw [wrap_id (n := (i : Int) + 1) (by omega) (by omega)]; have h := of_decide_eq_true h; exact hR (i + 1, d, ⟨m.words, m.gone.set x.toNat true⟩) ⟨by dsimp only; omega, hd.2, memoryOk_setG hm⟩ (by dsimp only; omega))
    | (exact kMem (fun m hm => hK m _ hm) _ _ ⟨hm, hd.2⟩)
    | trace_state
theorem ok_spec_l8DrawRight : FunOk Tryz.prog c_spec_l8DrawRight := funOkR (E := [c_spec_l1Below, c_spec_l3DrawRight, c_spec_MemoryNew]) (envOk_cons ok_spec_l1Below (envOk_cons ok_spec_l3DrawRight (envOk_cons ok_spec_MemoryNew (envOk_nil)))) mixd Tryz.func73 (pf := pf_spec_l8DrawRight) (by kernel_rfl) fun ts K h => by
  obtain ⟨t0, e0, h⟩ := as1_out h
  subst e0
  obtain ⟨c, e1, hq⟩ := arQ_out rd_cur h
  clear h
  subst e1
  have h := hq
  clear hq
  obtain ⟨hpre, h⟩ := chk_o h
  exact ⟨Nat.le_of_ble_eq_true (show Nat.ble 1 Tryz.f73.ntmps = true by kernel_rfl), _, run_spec_l8DrawRight c hpre h⟩

def pf_spec_l8Draw : PF := ⟨[.c 2 true 2], .seq (.reg [.s (.alloc 2 [.nils .word, .nils .bool])]) (.seq (.reg [.s (.mv 4 (.t 0)), .s (.call (some 5) 73 [(.t 4)]), .s (.alloc 3 [.nils .word, .nils .bool]), .s (.store 2 (.t 3) (.t 5))]) (.seq (.seq (.reg [.s (.mv 6 (.t 0)), .s (.call (some 7) 48 [(.t 6), (.k (.v (.c (.int .i64 15))))])]) (.blk 0 (.seq (.reg [.s (.bin 9 .eql (.t 7) (.k (.v (.c (.int .i64 0))))), .s (.mv 8 (.t 9))]) (.cond (.t 8) (.reg [.s (.fa 10 (.t 3) 0), .s (.load 11 false 1 (.t 10)), .s (.slc 12 .word (.t 11) (some (.k (.v (.c (.int .i64 1))))) none), .s (.fa 13 (.t 3) 0), .s (.store 1 (.t 13) (.t 12))]) (.seq (.reg [.s (.bin 15 .eql (.t 7) (.k (.v (.c (.int .i64 1))))), .s (.mv 14 (.t 15))]) (.cond (.t 14) (.rgd [0] [.s (.fa 16 (.t 3) 0), .s (.load 17 false 1 (.t 16)), .s (.mv 18 (.t 0)), .s (.call (some 19) 48 [(.t 18), (.k (.v (.c (.int .i64 24))))]), .s (.mv 20 (.t 0)), .s (.call (some 21) 179 [(.t 20)]), .s (.ia 22 .word (.t 17) (.t 19)), .s (.store 6 (.t 22) (.t 21))] (.tk 0 (.tk 1 (.tk 2 (.tk 4 (.one 3 false (.one 5 false (.tk 6 (.one 7 true (.done none)))))))))) (.seq (.reg [.s (.bin 24 .eql (.t 7) (.k (.v (.c (.int .i64 2))))), .s (.mv 23 (.t 24))]) (.cond (.t 23) (.reg [.s (.fa 25 (.t 3) 1), .s (.store 1 (.t 25) (.k (.v (.c (.nils .bool)))))]) (.skip))))))))) (.seq (.reg [.s (.load 26 true 2 (.t 3)), .s (.store 2 (.t 2) (.t 26))]) (.ret))))⟩
def c_spec_l8Draw : Fun := ⟨180, [true], fun ts K => as1 ts fun t0 => arQ pCurT t0 fun c => chk (CurOk c) (∀ (m : Mem) (d : Cur), (LMem m 24 ∧ CurOk d) → K (tG (m.tc true [])) ([curOut d]))⟩
theorem run_spec_l8Draw (c : Cur) (hpre : CurOk c) {K : Tree → List Tree → Prop} (hK : ∀ (m : Mem) (d : Cur), (LMem m 24 ∧ CurOk d) → K (tG (m.tc true [])) ([curOut d])) : runK [c_spec_l1Below, c_spec_l8DrawRight, c_spec_l3Draw] (0) [true] pf_spec_l8Draw [.v (.ptr true 0 (c.tc []))] K := by
  conv => whnf
  repeat' (first | (refine sel_i (fun h => ?_) (fun h => ?_) <;> conv => whnf) | (refine chk_c ?_ ?_ <;> conv => whnf) | (refine And.intro ?_ rfl) | (refine And.intro ?_ ?_ <;> conv => whnf) | (intro x y z d hd; (try have g1 := And.left hd); (try have g2 := And.right hd); (try have g3 := And.left (And.right hd)); (try have g4 := And.right (And.right hd)); conv => whnf) | (intro x y d hd; (try have g1 := And.left hd); (try have g2 := And.right hd); (try have g3 := And.left (And.right hd)); (try have g4 := And.right (And.right hd)); conv => whnf) | (intro x d hd; (try have g1 := And.left hd); (try have g2 := And.right hd); (try have g3 := And.left (And.right hd)); (try have g4 := And.right (And.right hd)); conv => whnf) | (intro d hd; (try have g1 := And.left hd); (try have g2 := And.right hd); (try have g3 := And.left (And.right hd)); (try have g4 := And.right (And.right hd)); conv => whnf))
  all_goals first
    | (refine ⟨?_⟩; exact hd)
    | (refine ⟨?_⟩; exact hd.2)
    | (refine ⟨?_⟩; exact hd.2.2)
    | (refine ⟨?_⟩; exact hpre)
    | (refine ⟨?_⟩; exact ⟨hd, by simp⟩)
    | (refine ⟨?_⟩; exact ⟨hd.2, by simp⟩)
    | (refine ⟨?_⟩; decide)
    | (refine ⟨?_⟩; rfl)
    | (refine ⟨?_⟩; have := memoryOk_iff.1 (by assumption); simp at *; omega)
    | (exact kMem (fun m hm => hK m _ hm) _ _ ⟨lMem_of (by assumption), hd.2⟩)
    | (have hl := lMem_of (by assumption); exact kMem (fun m hm => hK m _ hm) _ _ ⟨⟨hl.1, Nat.zero_le _⟩, hd.2⟩)
    | (have hl := memoryOk_iff.1 (by assumption); exact kMem (fun m hm => hK m _ hm) _ _ ⟨⟨by simp [win]; omega, by dsimp only; omega⟩, hd.2⟩)
    | (have hl := memoryOk_iff.1 (by assumption); exact kMem (fun m hm => hK m _ hm) _ _ ⟨⟨by simp; omega, by dsimp only; omega⟩, hd⟩)
    | trace_state
theorem ok_spec_l8Draw : FunOk Tryz.prog c_spec_l8Draw := funOkR (E := [c_spec_l1Below, c_spec_l8DrawRight, c_spec_l3Draw]) (envOk_cons ok_spec_l1Below (envOk_cons ok_spec_l8DrawRight (envOk_cons ok_spec_l3Draw (envOk_nil)))) mixd Tryz.func180 (pf := pf_spec_l8Draw) (by kernel_rfl) fun ts K h => by
  obtain ⟨t0, e0, h⟩ := as1_out h
  subst e0
  obtain ⟨c, e1, hq⟩ := arQ_out rd_cur h
  clear h
  subst e1
  have h := hq
  clear hq
  obtain ⟨hpre, h⟩ := chk_o h
  exact ⟨Nat.le_of_ble_eq_true (show Nat.ble 1 Tryz.f180.ntmps = true by kernel_rfl), _, run_spec_l8Draw c hpre h⟩

theorem stateOk_setR {s : State} (h : stateOk s = true) {i : Nat} {w : Word} (hw : wordOk w = true) {m : Mem} (hm : memoryOk m = true) : stateOk ⟨s.regs.set i w, s.pc, m, s.trap⟩ = true := by
  obtain ⟨r1, r2, r3, r4, r5, r6⟩ := stateOk_iff.1 h
  refine stateOk_iff.2 ⟨by simp [r1], fun v hv => ?_, r3, hm, r5, r6⟩
  rcases mem_set hv with q | q
  · exact r2 v q
  · rw [q]; exact hw
theorem snN : stateNew.regs.length = 8 := rfl

def lb_spec_l9DrawState_0 : PC := .seq (.seq (.reg [.s (.mv 27 (.t 7)), .s (.mv 28 (.t 6)), .s (.bin 29 .lss (.t 27) (.t 28))]) (.cond (.t 29) (.skip) (.exit 0))) (.seq (.blk 1 (.seq (.reg [.s (.mv 32 (.t 4)), .s (.load 33 true 10 (.t 5)), .s (.call (some 34) 108 [(.t 32), (.t 33)]), .s (.alloc 8 [.nils .word, .int .i64 0, .ff, .int .i64 0, .int .i64 0, .int .i64 0, .int .i64 0, .nils .word, .nils .bool, .int .i64 0]), .s (.store 10 (.t 8) (.t 34))]) (.seq (.reg [.s (.fa 35 (.t 8) 9), .s (.load 36 false 1 (.t 35)), .s (.bin 37 .eql (.t 36) (.k (.v (.c (.int .i64 0)))))]) (.cond (.t 37) (.reg [.s (.load 38 true 10 (.t 8)), .s (.store 10 (.t 5) (.t 38))]) (.skip))))) (.reg [.s (.mv 30 (.t 7)), .s (.bin 31 .add (.t 30) (.k (.v (.c (.int .i64 1))))), .s (.mv 7 (.t 31))]))
def pf_spec_l9DrawState : PF := ⟨[.t 2, .c 3 true 10], .seq (.reg [.s (.mv 2 (.k (.v (.c (.nils .inst))))), .s (.alloc 3 [.nils .word, .int .i64 0, .ff, .int .i64 0, .int .i64 0, .int .i64 0, .int .i64 0, .nils .word, .nils .bool, .int .i64 0])]) (.seq (.reg [.s (.mv 9 (.t 0)), .s (.call (some 10) 100 [(.t 9)]), .s (.mv 4 (.t 10))]) (.seq (.reg [.s (.call (some 11) 107 []), .s (.alloc 5 [.nils .word, .int .i64 0, .ff, .int .i64 0, .int .i64 0, .int .i64 0, .int .i64 0, .nils .word, .nils .bool, .int .i64 0]), .s (.store 10 (.t 5) (.t 11))]) (.seq (.seq (.reg [.s (.mv 12 (.t 0)), .s (.call (some 13) 53 [(.t 12), (.k (.v (.c (.int .i64 2))))])]) (.cond (.t 13) (.seq (.reg [.s (.mv 14 (.t 0)), .s (.call (some 15) 73 [(.t 14)]), .s (.fa 16 (.t 5) 7), .s (.store 2 (.t 16) (.t 15))]) (.rgd [0] [.s (.fa 17 (.t 5) 0), .s (.load 18 false 1 (.t 17)), .s (.mv 19 (.t 0)), .s (.call (some 20) 48 [(.t 19), (.k (.v (.c (.int .i64 4))))]), .s (.bin 21 .add (.k (.v (.c (.int .i64 1)))) (.t 20)), .s (.mv 22 (.t 0)), .s (.call (some 23) 54 [(.t 22)]), .s (.ia 24 .word (.t 18) (.t 21)), .s (.store 6 (.t 24) (.t 23))] (.tk 0 (.tk 1 (.tk 2 (.tk 5 (.one 3 false (.tk 4 (.one 6 false (.tk 7 (.one 8 true (.done none)))))))))))) (.skip))) (.seq (.reg [.s (.mv 25 (.t 0)), .s (.call (some 26) 48 [(.t 25), (.k (.v (.c (.int .i64 10))))]), .s (.mv 6 (.t 26))]) (.seq (.seq (.reg [.s (.mv 7 (.k (.v (.c (.int .i64 0)))))]) (.blk 0 (.loop [3, 4, 5, 6, 7] lb_spec_l9DrawState_0))) (.seq (.rgd [] [.s (.mv 39 (.t 4)), .s (.load 40 true 10 (.t 5)), .s (.mv 2 (.t 39)), .s (.store 10 (.t 3) (.t 40))] (.tk 0 (.tk 1 (.tk 2 (.one 3 true (.done none)))))) (.ret)))))))⟩
def c_spec_l9DrawState : Fun := ⟨52, [true], fun ts K => as1 ts fun t0 => arQ pCurT t0 fun c => chk (CurOk c) (∀ (l : List Inst) (s : State) (d : Cur), ((l.length ≤ 20 ∧ 1 ≤ l.length) ∧ stateOk s = true ∧ CurOk d) → K (.tup [.c (tl true .inst l), .g (s.tc true [])]) ([curOut d]))⟩
theorem run_spec_l9DrawState (c : Cur) (hpre : CurOk c) {K : Tree → List Tree → Prop} (hK : ∀ (l : List Inst) (s : State) (d : Cur), ((l.length ≤ 20 ∧ 1 ≤ l.length) ∧ stateOk s = true ∧ CurOk d) → K (.tup [.c (tl true .inst l), .g (s.tc true [])]) ([curOut d])) : runK [c_spec_l1Below, c_spec_l1Once, c_spec_l3DrawRight, c_spec_l8DrawRight, c_spec_l6DrawCode, c_spec_StateNew, c_spec_Step] (12) [true] pf_spec_l9DrawState [.v (.ptr true 0 (c.tc []))] K := by
  conv => whnf
  repeat' (first | (refine sel_i (fun h => ?_) (fun h => ?_) <;> conv => whnf) | (refine chk_c ?_ ?_ <;> conv => whnf) | (refine And.intro ?_ rfl) | (refine And.intro ?_ ?_ <;> conv => whnf) | (intro x y z d hd; (try have g1 := And.left hd); (try have g2 := And.right hd); (try have g3 := And.left (And.right hd)); (try have g4 := And.right (And.right hd)); conv => whnf) | (intro x y d hd; (try have g1 := And.left hd); (try have g2 := And.right hd); (try have g3 := And.left (And.right hd)); (try have g4 := And.right (And.right hd)); conv => whnf) | (intro x d hd; (try have g1 := And.left hd); (try have g2 := And.right hd); (try have g3 := And.left (And.right hd)); (try have g4 := And.right (And.right hd)); conv => whnf) | (intro d hd; (try have g1 := And.left hd); (try have g2 := And.right hd); (try have g3 := And.left (And.right hd)); (try have g4 := And.right (And.right hd)); conv => whnf))
  all_goals first
    | (refine ⟨?_⟩; exact hd)
    | (refine ⟨?_⟩; exact hd.2)
    | (refine ⟨?_⟩; exact hpre)
    | (refine ⟨?_⟩; decide)
    | (refine ⟨?_⟩; rfl)
    | (refine ⟨?_⟩; exact hd.2.2)
    | (refine ⟨?_⟩; rw [snN, wrap_id (by omega) (by omega)]; omega)
    | skip
  all_goals (
    have hx := hd.1
    refine loop (α := Nat × State) (fun q => ⟨[(3, .v (.c (.ptr 2 0))), (4, .v (.c (.sl false .inst 3))), (5, .v (.c (.ptr 4 0))), (6, .v (.c (.int .i64 x))), (7, .v (.c (.int .i64 (q.1 : Int))))],
        [(7, some (.flat true .bool none q.2.mem.gone)), (6, some (.flat true .word none q.2.mem.words)), (5, some (.flat true .word none q.2.regs)), (4, some (.box true (stC q.2 5 6 7 []))), (3, some (.flat true .inst none _)), (2, some (.box true zSC)), (1, some (.flat false (.int .u8) none d.b)), (0, some (.box true (cuC d 1)))], nums.tail.tail.tail.tail.tail.tail.tail.tail, [.v (.c (.ptr 0 0))], false, []⟩)
      (fun q => (q.1 : Int) ≤ x ∧ stateOk q.2 = true) (fun q => 10 - q.1) (fun q R hI hR => ?_) (0, ⟨_, _, ⟨_, _⟩, _⟩) _ ⟨by simp; omega, by first | exact stateNew_ok | exact stateOk_setR stateNew_ok (by assumption) (by assumption)⟩ (by simp)
    obtain ⟨i, v⟩ := q
    obtain ⟨hi, hv⟩ := hI
    dsimp only at hi hv
    dsimp only
    have hlen := (stateOk_len hv).l
    conv => whnf
    repeat' (first | (refine sel_i (fun h => ?_) (fun h => ?_) <;> conv => whnf) | (refine chk_c ?_ ?_ <;> conv => whnf) | (refine And.intro ?_ rfl) | (refine And.intro ?_ ?_ <;> conv => whnf) | (intro x y z d hd; (try have g1 := And.left hd); (try have g2 := And.right hd); (try have g3 := And.left (And.right hd)); (try have g4 := And.right (And.right hd)); conv => whnf) | (intro x y d hd; (try have g1 := And.left hd); (try have g2 := And.right hd); (try have g3 := And.left (And.right hd)); (try have g4 := And.right (And.right hd)); conv => whnf) | (intro x d hd; (try have g1 := And.left hd); (try have g2 := And.right hd); (try have g3 := And.left (And.right hd)); (try have g4 := And.right (And.right hd)); conv => whnf) | (intro d hd; (try have g1 := And.left hd); (try have g2 := And.right hd); (try have g3 := And.left (And.right hd)); (try have g4 := And.right (And.right hd)); conv => whnf))
    all_goals (try simp only [etaKey, etaWord, etaMemory, etaState, decide_eq_true_eq, decide_eq_false_iff_not, beq_iff_eq] at *)
    all_goals first
      | (refine ⟨?_⟩; exact ⟨by omega, hlen⟩)
      | (rw [wrap_id (n := (i : Int) + 1) (by omega) (by omega)]; exact hR (i + 1, stepS _ v) ⟨by dsimp only; omega, stepS_ok hv⟩ (by dsimp only; omega))
      | (rw [wrap_id (n := (i : Int) + 1) (by omega) (by omega)]; exact hR (i + 1, v) ⟨by dsimp only; omega, hv⟩ (by dsimp only; omega))
      | (exact hK _ v d ⟨⟨by omega, by omega⟩, hv, hd.2⟩)
      | trace_state)
theorem ok_spec_l9DrawState : FunOk Tryz.prog c_spec_l9DrawState := funOkR (E := [c_spec_l1Below, c_spec_l1Once, c_spec_l3DrawRight, c_spec_l8DrawRight, c_spec_l6DrawCode, c_spec_StateNew, c_spec_Step]) (envOk_cons ok_spec_l1Below (envOk_cons ok_spec_l1Once (envOk_cons ok_spec_l3DrawRight (envOk_cons ok_spec_l8DrawRight (envOk_cons ok_spec_l6DrawCode (envOk_cons ok_spec_StateNew (envOk_cons ok_spec_Step (envOk_nil)))))))) mixd Tryz.func52 (pf := pf_spec_l9DrawState) (by kernel_rfl) fun ts K h => by
  obtain ⟨t0, e0, h⟩ := as1_out h
  subst e0
  obtain ⟨c, e1, hq⟩ := arQ_out rd_cur h
  clear h
  subst e1
  have h := hq
  clear hq
  obtain ⟨hpre, h⟩ := chk_o h
  exact ⟨Nat.le_of_ble_eq_true (show Nat.ble 1 Tryz.f52.ntmps = true by kernel_rfl), _, run_spec_l9DrawState c hpre h⟩

theorem U8s.app {a b : List Int} (ha : U8s a) (hb : U8s b) : U8s (a ++ b) := fun x hx => by
  rcases List.mem_append.1 hx with q | q
  · exact ha x q
  · exact hb x q
theorem U8s.put {a : List Int} (ha : U8s a) {i : Nat} {v : Int} (hv : 0 ≤ v ∧ v ≤ 255) : U8s (a.set i v) := fun x hx => by
  rcases mem_set hx with q | q
  · exact ha x q
  · rw [q]; exact hv
theorem kState {K : Tree → List Tree → Prop} {o : List Tree} {P : State → Prop} {l : List Inst} (hK : ∀ s : State, P s → K (.tup [.c (tl true .inst l), .g (s.tc true [])]) o) (a : List Word) (n : Int) (is : Bool) (e f g h : Int) (b : List Word) (c : List Bool) (t : Int) (hp : P ⟨a, ⟨n, is, ⟨e, f, g, h⟩⟩, ⟨b, c⟩, t⟩) :
    K (.tup [.c (.ow .inst l), .g [.ow .word a, .int .i64 n, .bool is, .int .i64 e, .int .i64 f, .int .i64 g, .int .i64 h, .ow .word b, .ow .bool c, .int .i64 t]]) o := hK ⟨a, ⟨n, is, ⟨e, f, g, h⟩⟩, ⟨b, c⟩, t⟩ hp

def pf_spec_l9Draw : PF := ⟨[.t 2, .c 3 true 10], .seq (.reg [.s (.mv 2 (.k (.v (.c (.nils .inst))))), .s (.alloc 3 [.nils .word, .int .i64 0, .ff, .int .i64 0, .int .i64 0, .int .i64 0, .int .i64 0, .nils .word, .nils .bool, .int .i64 0])]) (.seq (.reg [.s (.mv 7 (.t 0)), .s (.call (some 8) 52 [(.t 7)]), .s (.mv 6 (.t 8)), .s (.ext 9 (.t 6) 0), .s (.ext 10 (.t 6) 1), .s (.alloc 5 [.nils .word, .int .i64 0, .ff, .int .i64 0, .int .i64 0, .int .i64 0, .int .i64 0, .nils .word, .nils .bool, .int .i64 0]), .s (.mv 4 (.t 9)), .s (.store 10 (.t 5) (.t 10))]) (.seq (.seq (.reg [.s (.mv 11 (.t 0)), .s (.call (some 12) 48 [(.t 11), (.k (.v (.c (.int .i64 15))))])]) (.blk 0 (.seq (.reg [.s (.bin 14 .eql (.t 12) (.k (.v (.c (.int .i64 0))))), .s (.mv 13 (.t 14))]) (.cond (.t 13) (.rgd [0] [.s (.fa 15 (.t 5) 0), .s (.load 16 false 1 (.t 15)), .s (.mv 17 (.t 0)), .s (.call (some 18) 48 [(.t 17), (.k (.v (.c (.int .i64 8))))]), .s (.mv 19 (.t 0)), .s (.call (some 20) 179 [(.t 19)]), .s (.ia 21 .word (.t 16) (.t 18)), .s (.store 6 (.t 21) (.t 20))] (.tk 0 (.tk 1 (.tk 2 (.tk 4 (.one 3 false (.one 5 false (.tk 6 (.one 7 true (.done none)))))))))) (.seq (.reg [.s (.bin 23 .eql (.t 12) (.k (.v (.c (.int .i64 1))))), .s (.mv 22 (.t 23))]) (.cond (.t 22) (.reg [.s (.mv 24 (.t 0)), .s (.call (some 25) 179 [(.t 24)]), .s (.fa 26 (.t 5) 1), .s (.store 6 (.t 26) (.t 25))]) (.seq (.reg [.s (.bin 28 .eql (.t 12) (.k (.v (.c (.int .i64 2))))), .s (.mv 27 (.t 28))]) (.cond (.t 27) (.reg [.s (.mv 29 (.t 0)), .s (.call (some 30) 180 [(.t 29)]), .s (.fa 31 (.t 5) 7), .s (.store 2 (.t 31) (.t 30))]) (.seq (.reg [.s (.bin 33 .eql (.t 12) (.k (.v (.c (.int .i64 3))))), .s (.mv 32 (.t 33))]) (.cond (.t 32) (.reg [.s (.mv 34 (.t 0)), .s (.call (some 35) 48 [(.t 34), (.k (.v (.c (.int .i64 8))))]), .s (.bin 36 .sub (.t 35) (.k (.v (.c (.int .i64 1))))), .s (.fa 37 (.t 5) 9), .s (.store 1 (.t 37) (.t 36))]) (.seq (.reg [.s (.bin 39 .eql (.t 12) (.k (.v (.c (.int .i64 4))))), .s (.mv 38 (.t 39))]) (.cond (.t 38) (.reg [.s (.fa 40 (.t 5) 0), .s (.load 41 false 1 (.t 40)), .s (.slc 42 .word (.t 41) (some (.k (.v (.c (.int .i64 1))))) none), .s (.fa 43 (.t 5) 0), .s (.store 1 (.t 43) (.t 42))]) (.seq (.reg [.s (.bin 45 .eql (.t 12) (.k (.v (.c (.int .i64 5))))), .s (.mv 44 (.t 45))]) (.cond (.t 44) (.rgd [0] [.s (.mv 46 (.t 4)), .s (.mv 47 (.t 0)), .s (.mv 48 (.t 4)), .s (.len 49 false (.t 48)), .s (.call (some 50) 48 [(.t 47), (.t 49)]), .s (.mv 51 (.t 0)), .s (.mv 52 (.t 4)), .s (.ia 53 .inst (.t 52) (.k (.v (.c (.int .i64 0))))), .s (.load 54 true 5 (.t 53)), .s (.call (some 55) 101 [(.t 51), (.t 54)]), .s (.ia 56 .inst (.t 46) (.t 50)), .s (.store 5 (.t 56) (.t 55))] (.tk 0 (.tk 1 (.tk 2 (.tk 3 (.tk 5 (.tk 6 (.tk 7 (.tk 8 (.one 4 false (.one 9 true (.tk 10 (.one 11 true (.done none)))))))))))))) (.skip))))))))))))))) (.seq (.rgd [] [.s (.mv 57 (.t 4)), .s (.load 58 true 10 (.t 5)), .s (.mv 2 (.t 57)), .s (.store 10 (.t 3) (.t 58))] (.tk 0 (.tk 1 (.tk 2 (.one 3 true (.done none)))))) (.ret))))⟩
def c_spec_l9Draw : Fun := ⟨129, [true], fun ts K => as1 ts fun t0 => arQ pCurT t0 fun c => chk (CurOk c) (∀ (l : List Inst) (s : State) (d : Cur), ((l.length ≤ 20 ∧ LState s 24) ∧ CurOk d) → K (.tup [.c (tl true .inst l), .g (s.tc true [])]) ([curOut d]))⟩
theorem run_spec_l9Draw (c : Cur) (hpre : CurOk c) {K : Tree → List Tree → Prop} (hK : ∀ (l : List Inst) (s : State) (d : Cur), ((l.length ≤ 20 ∧ LState s 24) ∧ CurOk d) → K (.tup [.c (tl true .inst l), .g (s.tc true [])]) ([curOut d])) : runK [c_spec_l1Below, c_spec_l9DrawState, c_spec_l6Spoil, c_spec_l3Draw, c_spec_l8Draw] (0) [true] pf_spec_l9Draw [.v (.ptr true 0 (c.tc []))] K := by
  conv => whnf
  repeat' (first | (refine sel_i (fun h => ?_) (fun h => ?_) <;> conv => whnf) | (refine chk_c ?_ ?_ <;> conv => whnf) | (refine And.intro ?_ rfl) | (refine And.intro ?_ ?_ <;> conv => whnf) | (intro x y z d hd; (try have g1 := And.left hd); (try have g2 := And.right hd); (try have g3 := And.left (And.right hd)); (try have g4 := And.right (And.right hd)); conv => whnf) | (intro x y d hd; (try have g1 := And.left hd); (try have g2 := And.right hd); (try have g3 := And.left (And.right hd)); (try have g4 := And.right (And.right hd)); conv => whnf) | (intro x d hd; (try have g1 := And.left hd); (try have g2 := And.right hd); (try have g3 := And.left (And.right hd)); (try have g4 := And.right (And.right hd)); conv => whnf) | (intro d hd; (try have g1 := And.left hd); (try have g2 := And.right hd); (try have g3 := And.left (And.right hd)); (try have g4 := And.right (And.right hd)); conv => whnf))
  all_goals first
    | (refine ⟨?_⟩; exact hd)
    | (refine ⟨?_⟩; exact hd.2)
    | (refine ⟨?_⟩; exact hd.2.2)
    | (refine ⟨?_⟩; exact hpre)
    | (refine ⟨?_⟩; exact ⟨hd, by simp⟩)
    | (refine ⟨?_⟩; exact ⟨hd.2, by simp⟩)
    | (refine ⟨?_⟩; exact ⟨hd.2.2, by simp⟩)
    | (refine ⟨?_⟩; decide)
    | (refine ⟨?_⟩; rfl)
    | (refine ⟨?_⟩; obtain ⟨hl1, hl2, hl3⟩ := stateOk_len (s := y) (by assumption); omega)
    | (have hm : LMem x 24 := (by assumption); obtain ⟨hl1, hl2, hl3⟩ := stateOk_len (s := y) (by assumption); refine kState (fun s hs => hK _ s _ hs) _ _ _ _ _ _ _ _ _ _ ⟨⟨?_, ?_, ?_, ?_⟩, ?_⟩ <;> first | exact hm.1 | exact hm.2 | exact hd | exact hd.2 | exact hd.2.2 | omega | (simp; omega))
    | (obtain ⟨hl1, hl2, hl3⟩ := stateOk_len (s := y) (by assumption); exact kState (fun s hs => hK _ s _ hs) _ _ _ _ _ _ _ _ _ _ ⟨⟨by first | omega | (simp; omega), by refine ⟨?_, ?_, ?_⟩ <;> first | omega | (simp; omega) | (simp [win]; omega)⟩, by first | exact hd | exact hd.2 | exact hd.2.2⟩)
    | trace_state
theorem ok_spec_l9Draw : FunOk Tryz.prog c_spec_l9Draw := funOkR (E := [c_spec_l1Below, c_spec_l9DrawState, c_spec_l6Spoil, c_spec_l3Draw, c_spec_l8Draw]) (envOk_cons ok_spec_l1Below (envOk_cons ok_spec_l9DrawState (envOk_cons ok_spec_l6Spoil (envOk_cons ok_spec_l3Draw (envOk_cons ok_spec_l8Draw (envOk_nil)))))) mixd Tryz.func129 (pf := pf_spec_l9Draw) (by kernel_rfl) fun ts K h => by
  obtain ⟨t0, e0, h⟩ := as1_out h
  subst e0
  obtain ⟨c, e1, hq⟩ := arQ_out rd_cur h
  clear h
  subst e1
  have h := hq
  clear hq
  obtain ⟨hpre, h⟩ := chk_o h
  exact ⟨Nat.le_of_ble_eq_true (show Nat.ble 1 Tryz.f129.ntmps = true by kernel_rfl), _, run_spec_l9Draw c hpre h⟩

theorem eqWd {a b : Word} : (a.n == b.n && (a.is == b.is && (a.key.base == b.key.base && (a.key.top == b.key.top && (a.key.perms == b.key.perms && a.key.sealed == b.key.sealed))))) = decide (a = b) := by
  obtain ⟨a1, a2, a3, a4, a5, a6⟩ := a
  obtain ⟨b1, b2, b3, b4, b5, b6⟩ := b
  rw [Bool.eq_iff_iff]
  simp














/-! what the small programs do -/






theorem spanD_mem {l : List Span} {i : Nat} (h : i < l.length) : l.getD i (FT.zero .span) ∈ l := by
  rw [List.getD_eq_getElem?_getD, List.getElem?_eq_getElem h]; exact List.getElem_mem h

def Ord (l : List Span) : Prop := l.Pairwise (fun a b => a.at_ < b.at_)
theorem ord_of {l : List Span} (h : ∀ j, 0 < j → j < l.length → (l.getD (j - 1) (FT.zero .span)).at_ < (l.getD j (FT.zero .span)).at_) : Ord l := by
  have key : ∀ d i : Nat, i + d + 1 < l.length → (l.getD i (FT.zero .span)).at_ < (l.getD (i + d + 1) (FT.zero .span)).at_ := by
    intro d
    induction d with
    | zero => intro i hi; have := h (i + 1) (by omega) hi; simpa using this
    | succ d ih =>
      intro i hi
      have h1 := ih i (by omega)
      have h2 := h (i + (d + 1) + 1) (by omega) hi
      rw [show i + (d + 1) + 1 - 1 = i + d + 1 by omega] at h2
      omega
  refine List.pairwise_iff_getElem.2 fun i j hi hj hij => ?_
  have := key (j - i - 1) i (by omega)
  rw [show i + (j - i - 1) + 1 = j by omega] at this
  simpa [List.getD_eq_getElem?_getD, hi, hj] using this
theorem ord_step {l : List Span} (h : Ord l) {j : Nat} (h0 : 0 < j) (hj : j < l.length) : (l.getD (j - 1) (FT.zero .span)).at_ < (l.getD j (FT.zero .span)).at_ := by
  have := List.pairwise_iff_getElem.1 h (j - 1) j (by omega) hj (by omega)
  simpa [List.getD_eq_getElem?_getD, hj, show j - 1 < l.length by omega] using this
theorem spansOk_ord {l : List Span} : spansOk l = true ↔ (∀ s ∈ l, spanOk s = true) ∧ Ord l := by
  rw [spansOk_iff]
  constructor
  · intro h
    refine ⟨spansOk_mem (spansOk_iff.2 h), ord_of fun j h0 hj => ?_⟩
    have := ((spanChk_iff l j).1 (h j hj)).2
    omega
  · rintro ⟨h1, h2⟩ j hj
    have hs := h1 _ (spanD_mem hj)
    rw [spanChk_iff]
    simp only [spanOk, Bool.and_eq_true, inR_t] at hs
    refine ⟨hs, ?_⟩
    by_cases h0 : j = 0
    · exact .inl h0
    · exact .inr (ord_step h2 (by omega) hj)


theorem ord_ge {l : List Span} (h : spansOk l = true) : ∀ j : Nat, j < l.length → (j : Int) ≤ (l.getD j (FT.zero .span)).at_ := by
  obtain ⟨h1, h2⟩ := spansOk_ord.1 h
  intro j
  induction j with
  | zero =>
    intro hj
    have hs := h1 _ (spanD_mem hj)
    simp only [spanOk, Bool.and_eq_true, inR_t] at hs
    omega
  | succ j ih =>
    intro hj
    have := ih (by omega)
    have := ord_step h2 (show 0 < j + 1 by omega) hj
    rw [Nat.add_sub_cancel] at this
    omega
theorem spansOk_len {l : List Span} (h : spansOk l = true) : l.length ≤ 24 := by
  by_cases h0 : l.length = 0
  · omega
  · have hj : l.length - 1 < l.length := by omega
    have := ord_ge h (l.length - 1) hj
    have hs := (spansOk_ord.1 h).1 _ (spanD_mem hj)
    simp only [spanOk, Bool.and_eq_true, inR_t] at hs
    omega
theorem heapOk_iff {h : Heap} : heapOk h = true ↔ memoryOk h.mem = true ∧ spansOk h.live = true ∧ spansOk h.waits = true ∧ ∀ c, c < 24 → cnt h.live c + cnt h.waits c ≤ 1 ∧ h.mem.gone.getD c false = decide (0 < cnt h.waits c) := by
  simp only [heapOk, Bool.and_eq_true, allR_iff, decide_eq_true_eq, beq_iff_eq, and_assoc]
theorem heapOk_len {h : Heap} (k : heapOk h = true) : LHeap h 24 := by
  obtain ⟨h1, h2, h3, h4⟩ := heapOk_iff.1 k
  obtain ⟨m1, m2, m3⟩ := memoryOk_iff.1 h1
  exact ⟨⟨by omega, by omega⟩, spansOk_len h2, spansOk_len h3⟩
def InSpan (l : List Span) (w : Word) : Prop := w.is = true → w.key.base < w.key.top → ∃ s ∈ l, s.at_ ≤ w.key.base ∧ w.key.top ≤ s.at_ + s.len
theorem InSpan.mono {l l' : List Span} {w : Word} (h : InSpan l w) (hl : ∀ s ∈ l, s ∈ l') : InSpan l' w := fun h1 h2 => by
  obtain ⟨s, hs, h3⟩ := h h1 h2; exact ⟨s, hl s hs, h3⟩
structure Good (h : Heap) (rs : List Word) : Prop where
  ok : heapOk h = true
  regs : ∀ w ∈ rs, wordOk w = true ∧ InSpan (h.live ++ h.waits) w
  mem : ∀ w ∈ h.mem.words, InSpan (h.live ++ h.waits) w
theorem Good.len {h : Heap} {rs : List Word} (g : Good h rs) : LHeap h 24 := heapOk_len g.ok



theorem win_over {α : Type} (s D Z : List α) (i k : Nat) (h : i ≤ s.length) (hk : k = i + D.length) : win (over (over s i D) k Z) 0 k = s.take i ++ D := by
  have e1 : (s.take i ++ D).length = k := by rw [List.length_append, List.length_take, Nat.min_eq_left h, hk]
  have e2 : (over s i D).take k = s.take i ++ D := by unfold over; exact List.take_left' e1
  unfold win
  rw [List.drop_zero]
  show ((over s i D).take k ++ Z ++ _).take k = _
  rw [e2, List.append_assoc, List.take_left' e1]










/-! strictly ascending lists: they are what their members are -/



/-! neighbours that are alike, in place -/

/-! the core: what it is made of -/
abbrev zCore : Core := ⟨zState, [], zW, false, []⟩
def guessOk (g : List Int) : Bool := decide (g.length = 48) && g.all (fun n => inR n (-1) 65535)
def guessNew : List Int := List.replicate 48 (-1)
def guessW (g : List Int) (pc : Word) : Word := if inR pc.n 0 (g.length - 1) && (g.getD pc.n.toNat (FT.zero (.int .i64)) != -1) then pointW pc (g.getD pc.n.toNat (FT.zero (.int .i64))) else nextW pc
def learnG (g : List Int) (pc next : Word) : List Int := if inR pc.n 0 (g.length - 1) then g.set pc.n.toNat (andI next.n 65535) else g
def entryOk (e : Entry) : Bool := wordOk e.pc && wordOk e.guess && wordOk e.e.val && wordOk e.e.next && wordOk e.e.put && (insOk e.x || decide (e.x = zI)) && inR e.e.trap 0 5 && inR e.e.r (-1) 7 && decide (e.e.drop ≤ 4096)
def coreOk (c : Core) : Bool := stateOk c.s && decide (c.rob.length ≤ 6) && c.rob.all entryOk && wordOk c.next && guessOk c.guesses
def coreNew (s : State) : Core := if stateOk s then ⟨s, [], s.pc, false, guessNew⟩ else zCore
def setBy (e : Entry) : Int := if e.done then e.e.r else setsI e.x
def srcGo (rob : List Entry) (r : Int) : Nat → Int
  | 0 => -1
  | k + 1 => if setBy (rob.getD k (FT.zero .entry)) = r then (k : Int) else srcGo rob r k
def source (rob : List Entry) (i r : Int) : Int := if r < 0 then -1 else srcGo rob r (min i rob.length).toNat
def valueC (c : Core) (i r : Int) : Word × Bool :=
  if source c.rob i r < 0 then (c.s.regs.getD r.toNat (FT.zero .word), true) else if (c.rob.getD (source c.rob i r).toNat (FT.zero .entry)).done then ((c.rob.getD (source c.rob i r).toNat (FT.zero .entry)).e.val, true) else (zW, false)
def LCore (c : Core) (n : Nat) : Prop := LState c.s n ∧ c.rob.length ≤ n ∧ c.guesses.length ≤ n
theorem LCore.mono {c : Core} {n m : Nat} (h : LCore c n) (k : n ≤ m) : LCore c m := ⟨h.1.mono k, Nat.le_trans h.2.1 k, Nat.le_trans h.2.2 k⟩
theorem etaCore (x : Core) : (⟨x.s, x.rob, x.next, x.stop, x.guesses⟩ : Core) = x := rfl
theorem insEq0 (a : Inst) : (a.op == 0 && (a.r == 0 && (a.a == 0 && (a.b == 0 && a.n == 0)))) = decide (a = zI) := by
  obtain ⟨a1, a2, a3, a4, a5⟩ := a
  rw [Bool.eq_iff_iff]; simp
theorem srcGo_in (rob : List Entry) (r : Int) : ∀ k, -1 ≤ srcGo rob r k ∧ srcGo rob r k < k
  | 0 => by simp [srcGo]
  | k + 1 => by
    have := srcGo_in rob r k
    unfold srcGo
    split <;> omega
theorem source_in (rob : List Entry) (i r : Int) : -1 ≤ source rob i r ∧ source rob i r < rob.length := by
  unfold source
  split
  · omega
  · have := srcGo_in rob r (min i rob.length).toNat
    omega
theorem coreOk_iff {c : Core} : coreOk c = true ↔ stateOk c.s = true ∧ c.rob.length ≤ 6 ∧ (∀ e ∈ c.rob, entryOk e = true) ∧ wordOk c.next = true ∧ guessOk c.guesses = true := by
  simp only [coreOk, Bool.and_eq_true, decide_eq_true_eq, List.all_eq_true, and_assoc]
theorem guessOk_len {g : List Int} (h : guessOk g = true) : g.length = 48 := by
  simp only [guessOk, Bool.and_eq_true, decide_eq_true_eq] at h; exact h.1
theorem coreOk_len {c : Core} (h : coreOk c = true) : LenOk c.s ∧ c.rob.length ≤ 6 ∧ c.guesses.length = 48 := by
  obtain ⟨h1, h2, h3, h4, h5⟩ := coreOk_iff.1 h
  exact ⟨stateOk_len h1, h2, guessOk_len h5⟩
theorem coreOk_l {c : Core} (h : coreOk c = true) : LCore c 2147483647 := by
  obtain ⟨h1, h2, h3⟩ := coreOk_len h
  exact ⟨h1.l, by omega, by omega⟩
theorem guessW_yes {g : List Int} {pc : Word} (h : inR pc.n 0 (g.length - 1) = true) (h2 : (g.getD pc.n.toNat (FT.zero (.int .i64)) != -1) = true) : guessW g pc = pointW pc (g.getD pc.n.toNat (FT.zero (.int .i64))) := by
  unfold guessW; rw [h, h2]; rfl
theorem guessW_no {g : List Int} {pc : Word} (h2 : (g.getD pc.n.toNat (FT.zero (.int .i64)) != -1) = false) : guessW g pc = pointW pc (IntKind.i64.wrap (pc.n + 1)) := by
  unfold guessW; rw [h2, Bool.and_false]; rfl
theorem guessW_out {g : List Int} {pc : Word} (h : inR pc.n 0 (g.length - 1) = false) : guessW g pc = pointW pc (IntKind.i64.wrap (pc.n + 1)) := by
  unfold guessW; rw [h]; rfl

def pf_slices_Clone_Entry : PF := ⟨[.t 2], .seq (.reg [.s (.mv 2 (.k (.v (.c (.nils .entry)))))]) (.seq (.seq (.reg [.s (.mv 3 (.t 0)), .s (.isnil 4 (.t 3))]) (.cond (.t 4) (.seq (.reg [.s (.mv 2 (.k (.v (.c (.nils .entry)))))]) (.ret)) (.skip))) (.seq (.reg [.s (.bs 5 .entry []), .s (.mv 6 (.t 0)), .s (.app 7 .entry (.t 5) (.t 6)), .s (.mv 2 (.t 7))]) (.ret)))⟩
def c_slices_Clone_Entry : Fun := ⟨191, [], fun ts K => as1 ts fun t0 => arC (pL .entry) t0 fun a => chk (a.length ≤ 2147483647) (K (tL true .entry a) [])⟩
theorem ok_slices_Clone_Entry : FunOk Tryz.prog c_slices_Clone_Entry := funOkN (E := []) envOk_nil mixd Tryz.func191 (pf := pf_slices_Clone_Entry) (by kernel_rfl) rfl (Nat.le_of_ble_eq_true (show Nat.ble 1 Tryz.f191.ntmps = true by kernel_rfl)) fun ts K h => by
  obtain ⟨t0, e0, h⟩ := as1_out h
  subst e0
  obtain ⟨a, e1, h⟩ := arC_out (rd_l .entry) h
  subst e1
  obtain ⟨hpre, h⟩ := chk_o h
  refine ⟨.entry, a, _, rfl, h, 0, fun e => ?_, ?_⟩
  · subst e
    conv => whnf
    exact ⟨rfl, rfl⟩
  · conv => whnf
    repeat' (refine chk_c ?_ ?_ <;> conv => whnf)
    all_goals first
      | (refine ⟨?_⟩; simp; omega)
      | exact ⟨rfl, rfl⟩

def pf_slices_Clone_int : PF := ⟨[.t 2], .seq (.reg [.s (.mv 2 (.k (.v (.c (.nils (.int .i64))))))]) (.seq (.seq (.reg [.s (.mv 3 (.t 0)), .s (.isnil 4 (.t 3))]) (.cond (.t 4) (.seq (.reg [.s (.mv 2 (.k (.v (.c (.nils (.int .i64))))))]) (.ret)) (.skip))) (.seq (.reg [.s (.bs 5 (.int .i64) []), .s (.mv 6 (.t 0)), .s (.app 7 (.int .i64) (.t 5) (.t 6)), .s (.mv 2 (.t 7))]) (.ret)))⟩
def c_slices_Clone_int : Fun := ⟨192, [], fun ts K => as1 ts fun t0 => arC (pL (.int .i64)) t0 fun a => chk (a.length ≤ 2147483647) (K (tL true (.int .i64) a) [])⟩
theorem ok_slices_Clone_int : FunOk Tryz.prog c_slices_Clone_int := funOkN (E := []) envOk_nil mixd Tryz.func192 (pf := pf_slices_Clone_int) (by kernel_rfl) rfl (Nat.le_of_ble_eq_true (show Nat.ble 1 Tryz.f192.ntmps = true by kernel_rfl)) fun ts K h => by
  obtain ⟨t0, e0, h⟩ := as1_out h
  subst e0
  obtain ⟨a, e1, h⟩ := arC_out (rd_l (.int .i64)) h
  subst e1
  obtain ⟨hpre, h⟩ := chk_o h
  refine ⟨(.int .i64), a, _, rfl, h, 0, fun e => ?_, ?_⟩
  · subst e
    conv => whnf
    exact ⟨rfl, rfl⟩
  · conv => whnf
    repeat' (refine chk_c ?_ ?_ <;> conv => whnf)
    all_goals first
      | (refine ⟨?_⟩; simp; omega)
      | exact ⟨rfl, rfl⟩

def pf_impl_GuessOk_1 : PF := ⟨[.t 2], .seq (.reg [.s (.mv 2 (.k (.v (.c .ff))))]) (.seq (.reg [.s (.mv 3 (.t 0)), .s (.call (some 4) 60 [(.t 3), (.k (.v (.c (.int .i64 (-1))))), (.k (.v (.c (.int .i64 65535))))]), .s (.bnot 5 (.t 4)), .s (.mv 2 (.t 5))]) (.ret))⟩
def c_impl_GuessOk_1 : Fun := ⟨225, [], fun ts K => as1 ts fun t0 => arC (pI .i64) t0 fun n => K (tB (!inR n (-1) 65535)) []⟩
theorem run_impl_GuessOk_1 (n : Int) : runK [c_impl_in] (0) [] pf_impl_GuessOk_1 [tI .i64 n] fun r o => r = tB (!inR n (-1) 65535) ∧ o = [] := by
  conv => whnf
  repeat' (first | (refine sel_i (fun h => ?_) (fun h => ?_) <;> conv => whnf) | (refine chk_c ?_ ?_ <;> conv => whnf) | (refine And.intro ?_ rfl) | (refine And.intro ?_ ?_ <;> conv => whnf))
  all_goals rfl
theorem ok_impl_GuessOk_1 : FunOk Tryz.prog c_impl_GuessOk_1 := funOk (E := [c_impl_in]) (envOk_cons ok_impl_in (envOk_nil)) mixd Tryz.func225 (pf := pf_impl_GuessOk_1) (by kernel_rfl) fun ts K h => by
  obtain ⟨t0, e0, h⟩ := as1_out h
  subst e0
  obtain ⟨n, e1, hq⟩ := arC_out (rd_int .i64) h
  clear h
  subst e1
  have h := hq
  clear hq
  exact ⟨_, _, h, Nat.le_of_ble_eq_true (show Nat.ble 1 Tryz.f225.ntmps = true by kernel_rfl), _, run_impl_GuessOk_1 n⟩

def lb_slices_IndexFunc_int_0 : PC := .seq (.reg [.s (.bin 9 .lss (.t 8) (.t 7))]) (.seq (.cond (.t 9) (.skip) (.exit 0)) (.seq (.blk 1 (.seq (.reg [.s (.mv 10 (.t 8)), .s (.mv 5 (.t 10))]) (.seq (.reg [.s (.mv 11 (.t 1)), .s (.mv 12 (.t 0)), .s (.mv 13 (.t 5)), .s (.ia 14 (.int .i64) (.t 12) (.t 13)), .s (.load 15 false 1 (.t 14)), .s (.callv (some 16) (.t 11) [(.t 15)])]) (.cond (.t 16) (.seq (.reg [.s (.mv 17 (.t 5)), .s (.mv 4 (.t 17))]) (.ret)) (.skip))))) (.reg [.s (.bin 18 .add (.t 8) (.k (.v (.c (.int .i64 1))))), .s (.mv 8 (.t 18))])))
def pf_slices_IndexFunc_int : PF := ⟨[.t 4], .seq (.reg [.s (.mv 4 (.k (.v (.c (.int .i64 0)))))]) (.seq (.seq (.reg [.s (.mv 6 (.t 0)), .s (.len 7 false (.t 6)), .s (.mv 8 (.k (.v (.c (.int .i64 0)))))]) (.blk 0 (.loop [0, 1, 7, 8] lb_slices_IndexFunc_int_0))) (.seq (.reg [.s (.mv 4 (.k (.v (.c (.int .i64 (-1))))))]) (.ret)))⟩
def c_slices_IndexFunc_int__impl_GuessOk_1 : Fun := ⟨204, [], fun ts K => as2 ts fun t0 t1 => arC (pL (.int .i64)) t0 fun xs => arF0 225 t1 fun g => chk (xs.length ≤ 2147483647) (K (tN (idxOf (fun n => !inR n (-1) 65535) xs)) [])⟩
theorem run_slices_IndexFunc_int__impl_GuessOk_1 (xs : List (FT.Ty (.int .i64))) (g : Unit) (hpre : xs.length ≤ 2147483647) : runK [c_impl_GuessOk_1] (xs.length + 1) [] pf_slices_IndexFunc_int [tL false (.int .i64) xs, .fn 225 []] fun r o => r = tN (idxOf (fun n => !inR n (-1) 65535) xs) ∧ o = [] := by
  conv => whnf
  refine loop (α := Nat) (fun i => ⟨[(0, .v (.c (.sl false (.int .i64) 0))), (1, .fn 225 []), (7, .v (.c (.int .i64 (xs.length : Int)))), (8, .v (.c (.int .i64 (i : Int))))], [(0, some (.flat false (.int .i64) none xs))], nums.tail, [], false, []⟩)
      (fun i => i ≤ xs.length ∧ idxOf (fun n => !inR n (-1) 65535) xs = idxGo (fun n => !inR n (-1) 65535) (xs.drop i) i) (fun i => xs.length - i) (fun i R hI hR => ?_) 0 _ ⟨by simp, rfl⟩ (by simp)
  obtain ⟨hi, hx⟩ := hI
  conv => whnf
  refine sel_i (fun h2 => ?_) (fun h2 => ?_)
  · have hlt : i < xs.length := by simp at h2; omega
    conv => whnf
    repeat (refine chk_i (by first | omega | (simp; omega)) ?_; conv => whnf)
    refine sel_i (fun h3 => ?_) (fun h3 => ?_)
    · conv => whnf
      rw [hx, idxGo_yes (z := FT.zero (.int .i64)) hlt (by first | (simp only [keyEq] at h3; exact h3) | (simpa using h3))]
      exact ⟨rfl, rfl⟩
    · conv => whnf
      rw [wrap_id (n := (i : Int) + 1) (by omega) (by omega)]
      exact hR (i + 1) ⟨by omega, by rw [hx, idxGo_no (z := FT.zero (.int .i64)) hlt (by first | (simp only [keyEq] at h3; exact h3) | (simpa using h3))]⟩ (by omega)
  · conv => whnf
    rw [hx, idxGo_end (by simp at h2; omega)]
    exact ⟨rfl, rfl⟩
theorem ok_slices_IndexFunc_int__impl_GuessOk_1 : FunOk Tryz.prog c_slices_IndexFunc_int__impl_GuessOk_1 := funOk (E := [c_impl_GuessOk_1]) (envOk_cons ok_impl_GuessOk_1 (envOk_nil)) mixd Tryz.func204 (pf := pf_slices_IndexFunc_int) (by kernel_rfl) fun ts K h => by
  obtain ⟨t0, t1, e0, h⟩ := as2_out h
  subst e0
  obtain ⟨xs, e1, hq⟩ := arC_out (rd_l (.int .i64)) h
  clear h
  subst e1
  have h := hq
  clear hq
  obtain ⟨g, e1, hq⟩ := arF0_out h
  clear h
  subst e1
  have h := hq
  clear hq
  obtain ⟨hpre, h⟩ := chk_o h
  exact ⟨_, _, h, Nat.le_of_ble_eq_true (show Nat.ble 2 Tryz.f204.ntmps = true by kernel_rfl), _, run_slices_IndexFunc_int__impl_GuessOk_1 xs g hpre⟩

def pf_slices_ContainsFunc_int : PF := ⟨[.t 4], .seq (.reg [.s (.mv 4 (.k (.v (.c .ff))))]) (.seq (.reg [.s (.mv 5 (.t 0)), .s (.mv 6 (.t 1)), .s (.call (some 7) 204 [(.t 5), (.t 6)]), .s (.bin 8 .geq (.t 7) (.k (.v (.c (.int .i64 0))))), .s (.mv 4 (.t 8))]) (.ret))⟩
def c_slices_ContainsFunc_int__impl_GuessOk_1 : Fun := ⟨224, [], fun ts K => as2 ts fun t0 t1 => arC (pL (.int .i64)) t0 fun xs => arF0 225 t1 fun g => chk (xs.length ≤ 2147483647) (K (tB (xs.any (fun n => !inR n (-1) 65535))) [])⟩
theorem run_slices_ContainsFunc_int__impl_GuessOk_1 (xs : List (FT.Ty (.int .i64))) (g : Unit) (hpre : xs.length ≤ 2147483647) : runK [c_slices_IndexFunc_int__impl_GuessOk_1, c_impl_GuessOk_1] (0) [] pf_slices_ContainsFunc_int [tL false (.int .i64) xs, .fn 225 []] fun r o => r = tB (xs.any (fun n => !inR n (-1) 65535)) ∧ o = [] := by
  conv => whnf
  repeat' (first | (refine sel_i (fun h => ?_) (fun h => ?_) <;> conv => whnf) | (refine chk_c ?_ ?_ <;> conv => whnf) | (refine And.intro ?_ rfl) | (refine And.intro ?_ ?_ <;> conv => whnf))
  all_goals first | (refine ⟨?_⟩; exact hpre) | exact hpre | (rw [← idxOf_any]; rfl) | (rw [← idxOf_any])
theorem ok_slices_ContainsFunc_int__impl_GuessOk_1 : FunOk Tryz.prog c_slices_ContainsFunc_int__impl_GuessOk_1 := funOk (E := [c_slices_IndexFunc_int__impl_GuessOk_1, c_impl_GuessOk_1]) (envOk_cons ok_slices_IndexFunc_int__impl_GuessOk_1 (envOk_cons ok_impl_GuessOk_1 (envOk_nil))) mixd Tryz.func224 (pf := pf_slices_ContainsFunc_int) (by kernel_rfl) fun ts K h => by
  obtain ⟨t0, t1, e0, h⟩ := as2_out h
  subst e0
  obtain ⟨xs, e1, hq⟩ := arC_out (rd_l (.int .i64)) h
  clear h
  subst e1
  have h := hq
  clear hq
  obtain ⟨g, e1, hq⟩ := arF0_out h
  clear h
  subst e1
  have h := hq
  clear hq
  obtain ⟨hpre, h⟩ := chk_o h
  exact ⟨_, _, h, Nat.le_of_ble_eq_true (show Nat.ble 2 Tryz.f224.ntmps = true by kernel_rfl), _, run_slices_ContainsFunc_int__impl_GuessOk_1 xs g hpre⟩

theorem eqLen48 (n : Nat) : ((n : Int) == 48) = decide (n = 48) := eqLen n 48

def pf_impl_GuessOk : PF := ⟨[.t 2], .seq (.reg [.s (.mv 2 (.k (.v (.c .ff))))]) (.seq (.reg [.s (.mv 3 (.t 0)), .s (.len 4 false (.t 3)), .s (.bin 5 .eql (.t 4) (.k (.v (.c (.int .i64 48))))), .s (.mv 6 (.t 5)), .g 6 true (some 7) (.mv 7 (.t 0)), .g 6 true (some 8) (.call (some 8) 224 [(.t 7), (.k (.fn 225 []))]), .g 6 true (some 9) (.bnot 9 (.t 8)), .s (.pick 10 (.t 6) (.t 9) (.k (.v (.c .ff)))), .s (.mv 2 (.t 10))]) (.ret))⟩
def c_impl_GuessOk : Fun := ⟨186, [], fun ts K => as1 ts fun t0 => arC (pL (.int .i64)) t0 fun g => chk (g.length ≤ 2147483647) (K (tB (guessOk g)) [])⟩
theorem run_impl_GuessOk (g : List (FT.Ty (.int .i64))) (hpre : g.length ≤ 2147483647) : runK [c_slices_ContainsFunc_int__impl_GuessOk_1, c_impl_GuessOk_1] (0) [] pf_impl_GuessOk [tL false (.int .i64) g] fun r o => r = tB (guessOk g) ∧ o = [] := by
  conv => whnf
  repeat' (first | (refine sel_i (fun h => ?_) (fun h => ?_) <;> conv => whnf) | (refine chk_c ?_ ?_ <;> conv => whnf) | (refine And.intro ?_ rfl) | (refine And.intro ?_ ?_ <;> conv => whnf))
  all_goals first | (refine ⟨?_⟩; exact hpre) | (simp only [eqLen48, all_any, Bool.not_not] at *; simp_all [guessOk]; done) | trace_state
theorem ok_impl_GuessOk : FunOk Tryz.prog c_impl_GuessOk := funOk (E := [c_slices_ContainsFunc_int__impl_GuessOk_1, c_impl_GuessOk_1]) (envOk_cons ok_slices_ContainsFunc_int__impl_GuessOk_1 (envOk_cons ok_impl_GuessOk_1 (envOk_nil))) mixd Tryz.func186 (pf := pf_impl_GuessOk) (by kernel_rfl) fun ts K h => by
  obtain ⟨t0, e0, h⟩ := as1_out h
  subst e0
  obtain ⟨g, e1, hq⟩ := arC_out (rd_l (.int .i64)) h
  clear h
  subst e1
  have h := hq
  clear hq
  obtain ⟨hpre, h⟩ := chk_o h
  exact ⟨_, _, h, Nat.le_of_ble_eq_true (show Nat.ble 1 Tryz.f186.ntmps = true by kernel_rfl), _, run_impl_GuessOk g hpre⟩

def lb_spec_GuessOk_0 : PC := .seq (.seq (.reg [.s (.mv 4 (.t 3)), .s (.mv 5 (.t 0)), .s (.len 6 false (.t 5)), .s (.bin 7 .lss (.t 4) (.t 6))]) (.cond (.t 7) (.skip) (.exit 0))) (.seq (.blk 1 (.seq (.reg [.s (.mv 10 (.t 0)), .s (.mv 11 (.t 3)), .s (.ia 12 (.int .i64) (.t 10) (.t 11)), .s (.load 13 false 1 (.t 12)), .s (.call (some 14) 77 [(.t 13), (.k (.v (.c (.int .i64 (-1))))), (.k (.v (.c (.int .i64 65535))))]), .s (.bnot 15 (.t 14))]) (.cond (.t 15) (.seq (.reg [.s (.mv 2 (.k (.v (.c .ff))))]) (.ret)) (.skip)))) (.reg [.s (.mv 8 (.t 3)), .s (.bin 9 .add (.t 8) (.k (.v (.c (.int .i64 1))))), .s (.mv 3 (.t 9))]))
def pf_spec_GuessOk : PF := ⟨[.t 2], .seq (.reg [.s (.mv 2 (.k (.v (.c .ff))))]) (.seq (.seq (.reg [.s (.mv 3 (.k (.v (.c (.int .i64 0)))))]) (.blk 0 (.loop [0, 3] lb_spec_GuessOk_0))) (.seq (.reg [.s (.mv 16 (.t 0)), .s (.len 17 false (.t 16)), .s (.bin 18 .eql (.t 17) (.k (.v (.c (.int .i64 48))))), .s (.mv 2 (.t 18))]) (.ret)))⟩
def c_spec_GuessOk : Fun := ⟨195, [], fun ts K => as1 ts fun t0 => arC (pL (.int .i64)) t0 fun g => chk (g.length ≤ 2147483647) (K (tB (guessOk g)) [])⟩
theorem run_spec_GuessOk (g : List (FT.Ty (.int .i64))) (hpre : g.length ≤ 2147483647) : runK [c_spec_l1In] (g.length + 1) [] pf_spec_GuessOk [tL false (.int .i64) g] fun r o => r = tB (guessOk g) ∧ o = [] := by
  conv => whnf
  refine loop (α := Nat) (fun i => ⟨[(0, .v (.c (.sl false (.int .i64) 0))), (3, .v (.c (.int .i64 (i : Int))))], [(0, some (.flat false (.int .i64) none g))], nums.tail, [], false, []⟩)
      (fun i => i ≤ g.length ∧ (g.drop i).all (fun n => inR n (-1) 65535) = g.all (fun n => inR n (-1) 65535)) (fun i => g.length - i) (fun i R hI hR => ?_) 0 _ ⟨by simp, by simp⟩ (by omega)
  obtain ⟨hi, hx⟩ := hI
  have w3 : IntKind.i64.wrap ((i : Int) + 1) = ((i + 1 : Nat) : Int) := by rw [wrap_id (by omega) (by omega)]; rfl
  conv => whnf
  repeat' (first | (refine sel_i (fun h => ?_) (fun h => ?_) <;> conv => whnf) | (refine chk_c ?_ ?_ <;> conv => whnf) | (refine And.intro ?_ rfl) | (refine And.intro ?_ ?_ <;> conv => whnf))
  all_goals (simp only [w3, eqLen48, Int.toNat_natCast, Bool.not_eq_true', Bool.not_eq_false', decide_eq_true_eq, decide_eq_false_iff_not] at *)
  all_goals first
    | (refine ⟨?_⟩; omega)
    | (unfold guessOk; rw [all_no (z := FT.zero (.int .i64)) (by omega) (by assumption) hx, Bool.and_false]; done)
    | (exact hR (i + 1) ⟨by omega, all_yes (z := FT.zero (.int .i64)) (by omega) (by assumption) hx⟩ (by omega))
    | (unfold guessOk; rw [all_end (by omega) hx, Bool.and_true]; done)
    | trace_state
theorem ok_spec_GuessOk : FunOk Tryz.prog c_spec_GuessOk := funOk (E := [c_spec_l1In]) (envOk_cons ok_spec_l1In (envOk_nil)) mixd Tryz.func195 (pf := pf_spec_GuessOk) (by kernel_rfl) fun ts K h => by
  obtain ⟨t0, e0, h⟩ := as1_out h
  subst e0
  obtain ⟨g, e1, hq⟩ := arC_out (rd_l (.int .i64)) h
  clear h
  subst e1
  have h := hq
  clear hq
  obtain ⟨hpre, h⟩ := chk_o h
  exact ⟨_, _, h, Nat.le_of_ble_eq_true (show Nat.ble 1 Tryz.f195.ntmps = true by kernel_rfl), _, run_spec_GuessOk g hpre⟩

theorem u64_id {n : Int} (h : 0 ≤ n ∧ n ≤ 2147483647) : IntKind.u64.wrap n = n := by
  show n % 18446744073709551616 = n
  omega
theorem and32 {b : Int} (h0 : 0 ≤ b) (h1 : b ≤ 2147483647) : IntKind.u64.wrap ((BitVec.ofInt IntKind.u64.bits b &&& BitVec.ofInt IntKind.u64.bits 4294967295).toNat : Int) = b := by
  obtain ⟨m, rfl⟩ := Int.eq_ofNat_of_zero_le h0
  have e : (BitVec.ofInt IntKind.u64.bits (m : Int) &&& BitVec.ofInt IntKind.u64.bits 4294967295).toNat = m := by
    rw [BitVec.toNat_and, BitVec.ofInt_natCast, BitVec.toNat_ofNat]
    have e2 : (BitVec.ofInt IntKind.u64.bits 4294967295).toNat = 2 ^ 32 - 1 := by decide
    rw [e2, Nat.and_two_pow_sub_one_eq_mod, Nat.mod_eq_of_lt (a := m) (by show _ < 2 ^ 64; omega), Nat.mod_eq_of_lt (by omega)]
  rw [e]
  exact u64_id ⟨by omega, by omega⟩
theorem shr32 {b : Int} (h0 : 0 ≤ b) (h1 : b ≤ 2147483647) : b.fdiv (2 ^ min (Int.toNat 32) IntKind.u64.bits) = 0 := by
  have e : min (Int.toNat 32) IntKind.u64.bits = 32 := by decide
  rw [e, Int.fdiv_eq_ediv_of_nonneg _ (by decide)]
  omega

def pf_bits_Mul64 : PF := ⟨[.t 4, .t 5], .seq (.reg [.s (.mv 4 (.k (.v (.c (.int .u64 0))))), .s (.mv 5 (.k (.v (.c (.int .u64 0)))))]) (.seq (.reg [.s (.mv 14 (.t 0)), .s (.bin 15 .and (.t 14) (.k (.v (.c (.int .u64 4294967295))))), .s (.mv 6 (.t 15))]) (.seq (.reg [.s (.mv 16 (.t 0)), .s (.bin 17 .shr (.t 16) (.k (.v (.c (.int .u64 32))))), .s (.mv 7 (.t 17))]) (.seq (.reg [.s (.mv 18 (.t 1)), .s (.bin 19 .and (.t 18) (.k (.v (.c (.int .u64 4294967295))))), .s (.mv 8 (.t 19))]) (.seq (.reg [.s (.mv 20 (.t 1)), .s (.bin 21 .shr (.t 20) (.k (.v (.c (.int .u64 32))))), .s (.mv 9 (.t 21))]) (.seq (.reg [.s (.mv 22 (.t 6)), .s (.mv 23 (.t 8)), .s (.bin 24 .mul (.t 22) (.t 23)), .s (.mv 10 (.t 24))]) (.seq (.reg [.s (.mv 25 (.t 7)), .s (.mv 26 (.t 8)), .s (.bin 27 .mul (.t 25) (.t 26)), .s (.mv 28 (.t 10)), .s (.bin 29 .shr (.t 28) (.k (.v (.c (.int .u64 32))))), .s (.bin 30 .add (.t 27) (.t 29)), .s (.mv 11 (.t 30))]) (.seq (.reg [.s (.mv 31 (.t 11)), .s (.bin 32 .and (.t 31) (.k (.v (.c (.int .u64 4294967295))))), .s (.mv 12 (.t 32))]) (.seq (.reg [.s (.mv 33 (.t 11)), .s (.bin 34 .shr (.t 33) (.k (.v (.c (.int .u64 32))))), .s (.mv 13 (.t 34))]) (.seq (.reg [.s (.mv 35 (.t 12)), .s (.mv 36 (.t 6)), .s (.mv 37 (.t 9)), .s (.bin 38 .mul (.t 36) (.t 37)), .s (.bin 39 .add (.t 35) (.t 38)), .s (.mv 12 (.t 39))]) (.seq (.reg [.s (.mv 40 (.t 7)), .s (.mv 41 (.t 9)), .s (.bin 42 .mul (.t 40) (.t 41)), .s (.mv 43 (.t 13)), .s (.bin 44 .add (.t 42) (.t 43)), .s (.mv 45 (.t 12)), .s (.bin 46 .shr (.t 45) (.k (.v (.c (.int .u64 32))))), .s (.bin 47 .add (.t 44) (.t 46)), .s (.mv 4 (.t 47))]) (.seq (.reg [.s (.mv 48 (.t 0)), .s (.mv 49 (.t 1)), .s (.bin 50 .mul (.t 48) (.t 49)), .s (.mv 5 (.t 50))]) (.ret))))))))))))⟩
def c_bits_Mul64 : Fun := ⟨257, [], fun ts K => as2 ts fun t0 t1 => arC (pI .u64) t0 fun a => arC (pI .u64) t1 fun b => chk (a = 1 ∧ 0 ≤ b ∧ b ≤ 2147483647) (K (.tup [.c (.int .u64 0), .c (.int .u64 b)]) [])⟩
theorem run_bits_Mul64 (a : Int) (b : Int) (hpre : a = 1 ∧ 0 ≤ b ∧ b ≤ 2147483647) : runK [] (0) [] pf_bits_Mul64 [tI .u64 a, tI .u64 b] fun r o => r = .tup [.c (.int .u64 0), .c (.int .u64 b)] ∧ o = [] := by
  obtain ⟨rfl, h0, h1⟩ := hpre
  have e1 := and32 (b := 1) (by decide) (by decide)
  have e2 := and32 h0 h1
  have e3 := shr32 (b := 1) (by decide) (by decide)
  have e4 := shr32 h0 h1
  have e5 := u64_id ⟨h0, h1⟩
  have e6 := u64_id (n := 0) (by decide)
  have e7 := shr32 (b := 0) (by decide) (by decide)
  have e8 := and32 (b := 0) (by decide) (by decide)
  conv => whnf
  repeat' (first | (refine sel_i (fun h => ?_) (fun h => ?_) <;> conv => whnf) | (refine chk_c ?_ ?_ <;> conv => whnf) | (refine And.intro ?_ rfl) | (refine And.intro ?_ ?_ <;> conv => whnf))
  all_goals first
    | (refine ⟨?_⟩; decide)
    | (simp only [e1, e2, e3, e4, e5, e6, e7, e8, Int.one_mul, Int.zero_mul, Int.mul_zero, Int.add_zero]; done)
    | trace_state
theorem ok_bits_Mul64 : FunOk Tryz.prog c_bits_Mul64 := funOk (E := []) (envOk_nil) mixd Tryz.func257 (pf := pf_bits_Mul64) (by kernel_rfl) fun ts K h => by
  obtain ⟨t0, t1, e0, h⟩ := as2_out h
  subst e0
  obtain ⟨a, e1, hq⟩ := arC_out (rd_int .u64) h
  clear h
  subst e1
  have h := hq
  clear hq
  obtain ⟨b, e1, hq⟩ := arC_out (rd_int .u64) h
  clear h
  subst e1
  have h := hq
  clear hq
  obtain ⟨hpre, h⟩ := chk_o h
  exact ⟨_, _, h, Nat.le_of_ble_eq_true (show Nat.ble 2 Tryz.f257.ntmps = true by kernel_rfl), _, run_bits_Mul64 a b hpre⟩

def pf_bits_Mul : PF := ⟨[.t 4, .t 5], .seq (.reg [.s (.mv 4 (.k (.v (.c (.int .u64 0))))), .s (.mv 5 (.k (.v (.c (.int .u64 0)))))]) (.seq (.cond (.k (.v (.c .ff))) (.seq (.reg [.s (.mv 11 (.t 0)), .s (.conv 12 .u32 (.t 11)), .s (.mv 13 (.t 1)), .s (.conv 14 .u32 (.t 13)), .s (.call (some 15) 256 [(.t 12), (.t 14)]), .s (.mv 10 (.t 15)), .s (.ext 16 (.t 10) 0), .s (.ext 17 (.t 10) 1), .s (.mv 6 (.t 16)), .s (.mv 7 (.t 17))]) (.seq (.reg [.s (.mv 18 (.t 6)), .s (.conv 19 .u64 (.t 18)), .s (.mv 20 (.t 7)), .s (.conv 21 .u64 (.t 20)), .s (.mv 4 (.t 19)), .s (.mv 5 (.t 21))]) (.ret))) (.skip)) (.seq (.reg [.s (.mv 23 (.t 0)), .s (.mv 24 (.t 1)), .s (.call (some 25) 257 [(.t 23), (.t 24)]), .s (.mv 22 (.t 25)), .s (.ext 26 (.t 22) 0), .s (.ext 27 (.t 22) 1), .s (.mv 8 (.t 26)), .s (.mv 9 (.t 27))]) (.seq (.reg [.s (.mv 28 (.t 8)), .s (.mv 29 (.t 9)), .s (.mv 4 (.t 28)), .s (.mv 5 (.t 29))]) (.ret))))⟩
def c_bits_Mul : Fun := ⟨222, [], fun ts K => as2 ts fun t0 t1 => arC (pI .u64) t0 fun a => arC (pI .u64) t1 fun b => chk (a = 1 ∧ 0 ≤ b ∧ b ≤ 2147483647) (K (.tup [.c (.int .u64 0), .c (.int .u64 b)]) [])⟩
theorem run_bits_Mul (a : Int) (b : Int) (hpre : a = 1 ∧ 0 ≤ b ∧ b ≤ 2147483647) : runK [c_bits_Mul64] (0) [] pf_bits_Mul [tI .u64 a, tI .u64 b] fun r o => r = .tup [.c (.int .u64 0), .c (.int .u64 b)] ∧ o = [] := by
  conv => whnf
  repeat' (first | (refine sel_i (fun h => ?_) (fun h => ?_) <;> conv => whnf) | (refine chk_c ?_ ?_ <;> conv => whnf) | (refine And.intro ?_ rfl) | (refine And.intro ?_ ?_ <;> conv => whnf))
  all_goals first
    | (refine ⟨?_⟩; exact hpre)
    | rfl
    | trace_state
theorem ok_bits_Mul : FunOk Tryz.prog c_bits_Mul := funOk (E := [c_bits_Mul64]) (envOk_cons ok_bits_Mul64 (envOk_nil)) mixd Tryz.func222 (pf := pf_bits_Mul) (by kernel_rfl) fun ts K h => by
  obtain ⟨t0, t1, e0, h⟩ := as2_out h
  subst e0
  obtain ⟨a, e1, hq⟩ := arC_out (rd_int .u64) h
  clear h
  subst e1
  have h := hq
  clear hq
  obtain ⟨b, e1, hq⟩ := arC_out (rd_int .u64) h
  clear h
  subst e1
  have h := hq
  clear hq
  obtain ⟨hpre, h⟩ := chk_o h
  exact ⟨_, _, h, Nat.le_of_ble_eq_true (show Nat.ble 2 Tryz.f222.ntmps = true by kernel_rfl), _, run_bits_Mul a b hpre⟩

def repS (v : Int) (n k : Nat) : List Int := List.replicate k v ++ List.replicate (n - k) (FT.zero (.int .i64))
theorem repS_len (v : Int) {n k : Nat} (h : k ≤ n) : (repS v n k).length = n := by simp [repS]; omega
theorem repS_0 {x : List Int} (hx : x.length = 1) (n : Nat) : over (List.replicate n (FT.zero (.int .i64))) 0 (x.take n) = repS (x.getD 0 (FT.zero (.int .i64))) n (min 1 n) := by
  obtain ⟨v, rfl⟩ := List.length_eq_one_iff.1 hx
  cases n with
  | zero => rfl
  | succ n =>
    have e : min 1 (n + 1) = 1 := by omega
    rw [e]
    simp [over, repS]
theorem repS_win (v : Int) {n k : Nat} (h : k ≤ n) : win (repS v n k) 0 k = List.replicate k v := by
  unfold win repS
  rw [List.drop_zero, List.take_append_of_le_length (by simp), List.take_of_length_le (by simp)]
theorem repS_step (v : Int) {n k : Nat} (h : k ≤ n) : over (repS v n k) k ((List.replicate k v).take (n - k)) = repS v n (k + min k (n - k)) := by
  unfold over
  have e1 : (repS v n k).take k = List.replicate k v := by
    unfold repS; rw [List.take_append_of_le_length (by simp), List.take_of_length_le (by simp)]
  have e2 : (List.replicate k v).take (n - k) = List.replicate (min k (n - k)) v := by rw [List.take_replicate, Nat.min_comm]
  rw [e1, e2, List.length_replicate]
  unfold repS
  rw [List.drop_append, List.drop_replicate, List.drop_replicate, List.length_replicate]
  have e3 : k - (k + min k (n - k)) = 0 := by omega
  have e4 : n - k - (k + min k (n - k) - k) = n - (k + min k (n - k)) := by omega
  rw [e3, e4, List.replicate_zero, List.nil_append, ← List.replicate_append_replicate, List.append_assoc]

def lb_slices_Repeat_int_0 : PC := .seq (.seq (.reg [.s (.mv 34 (.t 8)), .s (.mv 35 (.t 7)), .s (.len 36 false (.t 35)), .s (.bin 37 .lss (.t 34) (.t 36))]) (.cond (.t 37) (.skip) (.exit 0))) (.blk 1 (.rgd [] [.s (.mv 38 (.t 8)), .s (.mv 39 (.t 7)), .s (.mv 40 (.t 8)), .s (.slc 41 (.int .i64) (.t 39) (some (.t 40)) none), .s (.mv 42 (.t 7)), .s (.mv 43 (.t 8)), .s (.slc 44 (.int .i64) (.t 42) none (some (.t 43))), .s (.cpy (some 45) (.int .i64) (.t 41) (.t 44)), .s (.bin 46 .add (.t 38) (.t 45)), .s (.mv 8 (.t 46))] (.tk 0 (.tk 1 (.tk 2 (.tk 4 (.tk 5 (.alt 3 false (.one 6 true (.one 7 true (.tk 8 (.tk 9 (.done (some [7, 8])))))) (.alt 6 false (.one 3 true (.one 7 true (.tk 8 (.tk 9 (.done (some [7, 8])))))) (.nil))))))))))
def pf_slices_Repeat_int : PF := ⟨[.t 4], .seq (.reg [.s (.mv 4 (.k (.v (.c (.nils (.int .i64))))))]) (.seq (.seq (.reg [.s (.mv 9 (.t 1)), .s (.bin 10 .lss (.t 9) (.k (.v (.c (.int .i64 0)))))]) (.cond (.t 10) (.reg [.s (.no), .s (.no)]) (.skip))) (.seq (.reg [.s (.mv 13 (.t 0)), .s (.len 14 false (.t 13)), .s (.conv 15 .u64 (.t 14)), .s (.mv 16 (.t 1)), .s (.conv 17 .u64 (.t 16)), .s (.call (some 18) 222 [(.t 15), (.t 17)]), .s (.mv 12 (.t 18)), .s (.ext 19 (.t 12) 0), .s (.ext 20 (.t 12) 1), .s (.mv 5 (.t 19)), .s (.mv 6 (.t 20))]) (.seq (.seq (.reg [.s (.mv 21 (.t 5)), .s (.bin 22 .gtr (.t 21) (.k (.v (.c (.int .u64 0))))), .s (.mv 23 (.t 22)), .g 23 false (some 24) (.mv 24 (.t 6)), .g 23 false (some 25) (.bin 25 .gtr (.t 24) (.k (.v (.c (.int .u64 9223372036854775807))))), .s (.pick 26 (.t 23) (.k (.v (.c .tt))) (.t 25))]) (.cond (.t 26) (.reg [.s (.no), .s (.no)]) (.skip))) (.seq (.reg [.s (.mv 28 (.t 6)), .s (.conv 29 .i64 (.t 28)), .s (.mkS 30 (.int .i64) (.t 29)), .s (.mv 7 (.t 30))]) (.seq (.reg [.s (.mv 31 (.t 7)), .s (.mv 32 (.t 0)), .s (.cpy (some 33) (.int .i64) (.t 31) (.t 32)), .s (.mv 8 (.t 33))]) (.seq (.blk 0 (.loop [7, 8] lb_slices_Repeat_int_0)) (.seq (.reg [.s (.mv 47 (.t 7)), .s (.mv 4 (.t 47))]) (.ret))))))))⟩
def c_slices_Repeat_int : Fun := ⟨182, [], fun ts K => as2 ts fun t0 t1 => arC (pL (.int .i64)) t0 fun x => arC (pI .i64) t1 fun n => chk (x.length = 1 ∧ 0 ≤ n ∧ n ≤ 2147483647) (K (tL true (.int .i64) (List.replicate n.toNat (x.getD 0 (FT.zero (.int .i64))))) [])⟩
theorem run_slices_Repeat_int (x : List (FT.Ty (.int .i64))) (n : Int) (hpre : x.length = 1 ∧ 0 ≤ n ∧ n ≤ 2147483647) : runK [c_bits_Mul] (n.toNat + 1) [] pf_slices_Repeat_int [tL false (.int .i64) x, tI .i64 n] fun r o => r = tL true (.int .i64) (List.replicate n.toNat (x.getD 0 (FT.zero (.int .i64)))) ∧ o = [] := by
  obtain ⟨hx, h0, h1⟩ := hpre
  have w1 : IntKind.u64.wrap (x.length : Int) = 1 := by rw [hx]; decide
  have w2 : IntKind.u64.wrap n = n := u64_id ⟨h0, h1⟩
  have w3 : IntKind.i64.wrap n = n := wrap_id (by omega) (by omega)
  have e0 := repS_0 hx n.toNat
  conv => whnf
  repeat' (first | (refine sel_i (fun h => ?_) (fun h => ?_) <;> conv => whnf) | (refine chk_c ?_ ?_ <;> conv => whnf) | (refine And.intro ?_ rfl) | (refine And.intro ?_ ?_ <;> conv => whnf))
  all_goals (simp only [w1, w2, w3, decide_eq_true_eq, decide_eq_false_iff_not, List.length_replicate, hx, e0] at *)
  all_goals first
    | omega
    | (refine ⟨?_⟩; omega)
    | skip
  generalize x.getD 0 (FT.zero (.int .i64)) = v
  refine loop (α := Nat) (fun k => ⟨[(7, .v (.c (.sl true (.int .i64) 0))), (8, .v (.c (.int .i64 (k : Int))))], [(0, some (.flat true (.int .i64) none (repS v n.toNat k)))], nums.tail, [], false, []⟩)
    (fun k => k ≤ n.toNat ∧ (k = 0 → n = 0)) (fun k => n.toNat - k) (fun k R hI hR => ?_) (min 1 n.toNat) _ ⟨by omega, by omega⟩ (by omega)
  obtain ⟨hk, hk0⟩ := hI
  have hl := repS_len v hk
  have hw := repS_win v hk
  have hs := repS_step v hk
  have g1 : ((n.toNat : Int) - k).toNat = n.toNat - k := by omega
  have g2 : min k (n.toNat - k) + k ≤ n.toNat := by omega
  conv => whnf
  repeat' (first | (refine sel_i (fun h => ?_) (fun h => ?_) <;> conv => whnf) | (refine chk_c ?_ ?_ <;> conv => whnf) | (refine And.intro ?_ rfl) | (refine And.intro ?_ ?_ <;> conv => whnf))
  all_goals (simp only [hl, Int.toNat_natCast, hw, g1, Nat.zero_add, List.length_replicate, hs, decide_eq_true_eq, decide_eq_false_iff_not] at *)
  all_goals first
    | trivial
    | (refine ⟨?_⟩; omega)
    | (rw [show k = n.toNat by omega]; unfold repS; simp; done)
    | (rw [wrap_id (n := (k : Int) + (min k (n.toNat - k) : Nat)) (by omega) (by omega)]
       exact hR (k + min k (n.toNat - k)) ⟨by omega, by omega⟩ (by omega))
    | trace_state
theorem ok_slices_Repeat_int : FunOk Tryz.prog c_slices_Repeat_int := funOk (E := [c_bits_Mul]) (envOk_cons ok_bits_Mul (envOk_nil)) mixd Tryz.func182 (pf := pf_slices_Repeat_int) (by kernel_rfl) fun ts K h => by
  obtain ⟨t0, t1, e0, h⟩ := as2_out h
  subst e0
  obtain ⟨x, e1, hq⟩ := arC_out (rd_l (.int .i64)) h
  clear h
  subst e1
  have h := hq
  clear hq
  obtain ⟨n, e1, hq⟩ := arC_out (rd_int .i64) h
  clear h
  subst e1
  have h := hq
  clear hq
  obtain ⟨hpre, h⟩ := chk_o h
  exact ⟨_, _, h, Nat.le_of_ble_eq_true (show Nat.ble 2 Tryz.f182.ntmps = true by kernel_rfl), _, run_slices_Repeat_int x n hpre⟩

def pf_impl_GuessNew : PF := ⟨[.t 0], .seq (.reg [.s (.mv 0 (.k (.v (.c (.nils (.int .i64))))))]) (.seq (.reg [.s (.bs 1 (.int .i64) [(.k (.v (.c (.int .i64 (-1)))))]), .s (.call (some 2) 182 [(.t 1), (.k (.v (.c (.int .i64 48))))]), .s (.mv 0 (.t 2))]) (.ret))⟩
def c_impl_GuessNew : Fun := ⟨132, [], fun ts K => as0 ts (K (tL true (.int .i64) guessNew) [])⟩
theorem run_impl_GuessNew  : runK [c_slices_Repeat_int] (0) [] pf_impl_GuessNew [] fun r o => r = tL true (.int .i64) guessNew ∧ o = [] := by
  conv => whnf
  repeat' (first | (refine sel_i (fun h => ?_) (fun h => ?_) <;> conv => whnf) | (refine chk_c ?_ ?_ <;> conv => whnf) | (refine And.intro ?_ rfl) | (refine And.intro ?_ ?_ <;> conv => whnf))
  all_goals first
    | (refine ⟨?_⟩; decide)
    | rfl
    | trace_state
theorem ok_impl_GuessNew : FunOk Tryz.prog c_impl_GuessNew := funOk (E := [c_slices_Repeat_int]) (envOk_cons ok_slices_Repeat_int (envOk_nil)) mixd Tryz.func132 (pf := pf_impl_GuessNew) (by kernel_rfl) fun ts K h => by
  obtain ⟨e0, h⟩ := as0_out h
  subst e0
  exact ⟨_, _, h, Nat.le_of_ble_eq_true (show Nat.ble 0 Tryz.f132.ntmps = true by kernel_rfl), _, run_impl_GuessNew ⟩

def lb_spec_GuessNew_0 : PC := .seq (.seq (.reg [.s (.mv 4 (.t 2)), .s (.bin 5 .lss (.t 4) (.k (.v (.c (.int .i64 48)))))]) (.cond (.t 5) (.skip) (.exit 0))) (.seq (.blk 1 (.reg [.s (.mv 8 (.t 1)), .s (.bs 9 (.int .i64) [(.k (.v (.c (.int .i64 (-1)))))]), .s (.app 10 (.int .i64) (.t 8) (.t 9)), .s (.mv 1 (.t 10))])) (.reg [.s (.mv 6 (.t 2)), .s (.bin 7 .add (.t 6) (.k (.v (.c (.int .i64 1))))), .s (.mv 2 (.t 7))]))
def pf_spec_GuessNew : PF := ⟨[.t 0], .seq (.reg [.s (.mv 0 (.k (.v (.c (.nils (.int .i64))))))]) (.seq (.reg [.s (.bs 3 (.int .i64) []), .s (.mv 1 (.t 3))]) (.seq (.seq (.reg [.s (.mv 2 (.k (.v (.c (.int .i64 0)))))]) (.blk 0 (.loop [1, 2] lb_spec_GuessNew_0))) (.seq (.reg [.s (.mv 11 (.t 1)), .s (.mv 0 (.t 11))]) (.ret))))⟩
def c_spec_GuessNew : Fun := ⟨143, [], fun ts K => as0 ts (K (tL true (.int .i64) guessNew) [])⟩
theorem run_spec_GuessNew  : runK [] (49) [] pf_spec_GuessNew [] fun r o => r = tL true (.int .i64) guessNew ∧ o = [] := by
  conv => whnf
  refine loop (α := Nat) (fun k => ⟨[(1, .v (.c (.sl true (.int .i64) 0))), (2, .v (.c (.int .i64 (k : Int))))], [(0, some (.flat true (.int .i64) none (List.replicate k (-1))))], nums.tail, [], false, []⟩)
    (fun k => k ≤ 48) (fun k => 48 - k) (fun k R hI hR => ?_) 0 _ (by omega) (by omega)
  have w3 : IntKind.i64.wrap ((k : Int) + 1) = ((k + 1 : Nat) : Int) := by rw [wrap_id (by omega) (by omega)]; rfl
  have hR := hR (k + 1)
  rw [List.replicate_succ'] at hR
  conv => whnf
  repeat' (first | (refine sel_i (fun h => ?_) (fun h => ?_) <;> conv => whnf) | (refine chk_c ?_ ?_ <;> conv => whnf) | (refine And.intro ?_ rfl) | (refine And.intro ?_ ?_ <;> conv => whnf))
  all_goals (simp only [w3, decide_eq_true_eq, decide_eq_false_iff_not] at *)
  all_goals first
    | (refine ⟨?_⟩; simp only [List.length_replicate, List.length_cons, List.length_nil]; omega)
    | exact hR (by omega) (by omega)
    | (rw [show k = 48 by omega]; rfl)
    | trace_state
theorem ok_spec_GuessNew : FunOk Tryz.prog c_spec_GuessNew := funOk (E := []) (envOk_nil) mixd Tryz.func143 (pf := pf_spec_GuessNew) (by kernel_rfl) fun ts K h => by
  obtain ⟨e0, h⟩ := as0_out h
  subst e0
  exact ⟨_, _, h, Nat.le_of_ble_eq_true (show Nat.ble 0 Tryz.f143.ntmps = true by kernel_rfl), _, run_spec_GuessNew ⟩

def pf_impl_Guess : PF := ⟨[.c 4 true 6], .seq (.reg [.s (.box 3 (.t 1)), .s (.alloc 4 [.int .i64 0, .ff, .int .i64 0, .int .i64 0, .int .i64 0, .int .i64 0])]) (.seq (.seq (.reg [.s (.fa 5 (.t 3) 0), .s (.load 6 false 1 (.t 5)), .s (.mv 7 (.t 0)), .s (.len 8 false (.t 7)), .s (.bin 9 .sub (.t 8) (.k (.v (.c (.int .i64 1))))), .s (.call (some 10) 60 [(.t 6), (.k (.v (.c (.int .i64 0)))), (.t 9)]), .s (.mv 11 (.t 10)), .g 11 true (some 12) (.mv 12 (.t 0)), .g 11 true (some 13) (.fa 13 (.t 3) 0), .g 11 true (some 14) (.load 14 false 1 (.t 13)), .g 11 true (some 15) (.ia 15 (.int .i64) (.t 12) (.t 14)), .g 11 true (some 16) (.load 16 false 1 (.t 15)), .g 11 true (some 17) (.bin 17 .neq (.t 16) (.k (.v (.c (.int .i64 (-1)))))), .s (.pick 18 (.t 11) (.t 17) (.k (.v (.c .ff))))]) (.cond (.t 18) (.seq (.rgd [] [.s (.load 19 true 6 (.t 3)), .s (.mv 20 (.t 0)), .s (.fa 21 (.t 3) 0), .s (.load 22 false 1 (.t 21)), .s (.ia 23 (.int .i64) (.t 20) (.t 22)), .s (.load 24 false 1 (.t 23)), .s (.call (some 25) 175 [(.t 19), (.t 24)]), .s (.store 6 (.t 4) (.t 25))] (.tk 0 (.tk 1 (.tk 2 (.tk 3 (.tk 4 (.tk 5 (.one 6 true (.one 7 true (.done none)))))))))) (.ret)) (.skip))) (.seq (.reg [.s (.load 26 true 6 (.t 3)), .s (.fa 27 (.t 3) 0), .s (.load 28 false 1 (.t 27)), .s (.bin 29 .add (.t 28) (.k (.v (.c (.int .i64 1))))), .s (.call (some 30) 175 [(.t 26), (.t 29)]), .s (.store 6 (.t 4) (.t 30))]) (.ret)))⟩
def c_impl_Guess : Fun := ⟨139, [], fun ts K => as2 ts fun t0 t1 => arC (pL (.int .i64)) t0 fun g => arG pWordT t1 fun pc => chk (g.length ≤ 2147483647) (K (tG ((guessW g pc).tc [])) [])⟩
theorem run_impl_Guess (g : List (FT.Ty (.int .i64))) (pc : Word) (hpre : g.length ≤ 2147483647) : runK [c_impl_in, c_impl_Point] (0) [] pf_impl_Guess [tL false (.int .i64) g, tG (pc.tc [])] fun r o => r = tG ((guessW g pc).tc []) ∧ o = [] := by
  have w1 : IntKind.i64.wrap ((g.length : Int) - 1) = (g.length : Int) - 1 := wrap_id (by omega) (by omega)
  conv => whnf
  repeat' (first | (refine sel_i (fun h => ?_) (fun h => ?_) <;> conv => whnf) | (refine chk_c ?_ ?_ <;> conv => whnf) | (refine And.intro ?_ rfl) | (refine And.intro ?_ ?_ <;> conv => whnf))
  all_goals (try simp only [w1, etaKey, etaWord] at *)
  all_goals first
    | (refine ⟨?_⟩; have hr := inR_t.1 (show inR pc.n 0 ((g.length : Int) - 1) = true by assumption); omega)
    | (rw [guessW_yes (by assumption) (by assumption)]; rfl)
    | (rw [guessW_no (by assumption)]; rfl)
    | (rw [guessW_out (by assumption)]; rfl)
    | trace_state
theorem ok_impl_Guess : FunOk Tryz.prog c_impl_Guess := funOk (E := [c_impl_in, c_impl_Point]) (envOk_cons ok_impl_in (envOk_cons ok_impl_Point (envOk_nil))) mixd Tryz.func139 (pf := pf_impl_Guess) (by kernel_rfl) fun ts K h => by
  obtain ⟨t0, t1, e0, h⟩ := as2_out h
  subst e0
  obtain ⟨g, e1, hq⟩ := arC_out (rd_l (.int .i64)) h
  clear h
  subst e1
  have h := hq
  clear hq
  obtain ⟨pc, e1, hq⟩ := arG_out rd_word h
  clear h
  subst e1
  have h := hq
  clear hq
  obtain ⟨hpre, h⟩ := chk_o h
  exact ⟨_, _, h, Nat.le_of_ble_eq_true (show Nat.ble 2 Tryz.f139.ntmps = true by kernel_rfl), _, run_impl_Guess g pc hpre⟩

def pf_spec_Guess : PF := ⟨[.c 4 true 6], .seq (.reg [.s (.box 3 (.t 1)), .s (.alloc 4 [.int .i64 0, .ff, .int .i64 0, .int .i64 0, .int .i64 0, .int .i64 0])]) (.seq (.seq (.reg [.s (.fa 5 (.t 3) 0), .s (.load 6 false 1 (.t 5)), .s (.mv 7 (.t 0)), .s (.len 8 false (.t 7)), .s (.bin 9 .sub (.t 8) (.k (.v (.c (.int .i64 1))))), .s (.call (some 10) 77 [(.t 6), (.k (.v (.c (.int .i64 0)))), (.t 9)]), .s (.mv 11 (.t 10)), .g 11 true (some 12) (.mv 12 (.t 0)), .g 11 true (some 13) (.fa 13 (.t 3) 0), .g 11 true (some 14) (.load 14 false 1 (.t 13)), .g 11 true (some 15) (.ia 15 (.int .i64) (.t 12) (.t 14)), .g 11 true (some 16) (.load 16 false 1 (.t 15)), .g 11 true (some 17) (.bin 17 .neq (.t 16) (.k (.v (.c (.int .i64 (-1)))))), .s (.pick 18 (.t 11) (.t 17) (.k (.v (.c .ff))))]) (.cond (.t 18) (.seq (.rgd [] [.s (.load 19 true 6 (.t 3)), .s (.mv 20 (.t 0)), .s (.fa 21 (.t 3) 0), .s (.load 22 false 1 (.t 21)), .s (.ia 23 (.int .i64) (.t 20) (.t 22)), .s (.load 24 false 1 (.t 23)), .s (.call (some 25) 197 [(.t 19), (.t 24)]), .s (.store 6 (.t 4) (.t 25))] (.tk 0 (.tk 1 (.tk 2 (.tk 3 (.tk 4 (.tk 5 (.one 6 true (.one 7 true (.done none)))))))))) (.ret)) (.skip))) (.seq (.reg [.s (.load 26 true 6 (.t 3)), .s (.fa 27 (.t 3) 0), .s (.load 28 false 1 (.t 27)), .s (.bin 29 .add (.t 28) (.k (.v (.c (.int .i64 1))))), .s (.call (some 30) 197 [(.t 26), (.t 29)]), .s (.store 6 (.t 4) (.t 30))]) (.ret)))⟩
def c_spec_Guess : Fun := ⟨148, [], fun ts K => as2 ts fun t0 t1 => arC (pL (.int .i64)) t0 fun g => arG pWordT t1 fun pc => chk (g.length ≤ 2147483647) (K (tG ((guessW g pc).tc [])) [])⟩
theorem run_spec_Guess (g : List (FT.Ty (.int .i64))) (pc : Word) (hpre : g.length ≤ 2147483647) : runK [c_spec_l1In, c_spec_Point] (0) [] pf_spec_Guess [tL false (.int .i64) g, tG (pc.tc [])] fun r o => r = tG ((guessW g pc).tc []) ∧ o = [] := by
  have w1 : IntKind.i64.wrap ((g.length : Int) - 1) = (g.length : Int) - 1 := wrap_id (by omega) (by omega)
  conv => whnf
  repeat' (first | (refine sel_i (fun h => ?_) (fun h => ?_) <;> conv => whnf) | (refine chk_c ?_ ?_ <;> conv => whnf) | (refine And.intro ?_ rfl) | (refine And.intro ?_ ?_ <;> conv => whnf))
  all_goals (try simp only [w1, etaKey, etaWord] at *)
  all_goals first
    | (refine ⟨?_⟩; have hr := inR_t.1 (show inR pc.n 0 ((g.length : Int) - 1) = true by assumption); omega)
    | (rw [guessW_yes (by assumption) (by assumption)]; rfl)
    | (rw [guessW_no (by assumption)]; rfl)
    | (rw [guessW_out (by assumption)]; rfl)
    | trace_state
theorem ok_spec_Guess : FunOk Tryz.prog c_spec_Guess := funOk (E := [c_spec_l1In, c_spec_Point]) (envOk_cons ok_spec_l1In (envOk_cons ok_spec_Point (envOk_nil))) mixd Tryz.func148 (pf := pf_spec_Guess) (by kernel_rfl) fun ts K h => by
  obtain ⟨t0, t1, e0, h⟩ := as2_out h
  subst e0
  obtain ⟨g, e1, hq⟩ := arC_out (rd_l (.int .i64)) h
  clear h
  subst e1
  have h := hq
  clear hq
  obtain ⟨pc, e1, hq⟩ := arG_out rd_word h
  clear h
  subst e1
  have h := hq
  clear hq
  obtain ⟨hpre, h⟩ := chk_o h
  exact ⟨_, _, h, Nat.le_of_ble_eq_true (show Nat.ble 2 Tryz.f148.ntmps = true by kernel_rfl), _, run_spec_Guess g pc hpre⟩

def pf_impl_Learn : PF := ⟨[.t 6], .seq (.reg [.s (.box 4 (.t 1)), .s (.box 5 (.t 2)), .s (.mv 6 (.k (.v (.c (.nils (.int .i64))))))]) (.seq (.reg [.s (.mv 8 (.t 0)), .s (.call (some 9) 192 [(.t 8)]), .s (.mv 7 (.t 9))]) (.seq (.seq (.reg [.s (.fa 10 (.t 4) 0), .s (.load 11 false 1 (.t 10)), .s (.mv 12 (.t 0)), .s (.len 13 false (.t 12)), .s (.bin 14 .sub (.t 13) (.k (.v (.c (.int .i64 1))))), .s (.call (some 15) 60 [(.t 11), (.k (.v (.c (.int .i64 0)))), (.t 14)])]) (.cond (.t 15) (.rgd [] [.s (.mv 16 (.t 7)), .s (.fa 17 (.t 4) 0), .s (.load 18 false 1 (.t 17)), .s (.load 19 true 6 (.t 5)), .s (.call (some 20) 212 [(.t 19)]), .s (.fld 21 (.t 20) 0 1 false), .s (.ia 22 (.int .i64) (.t 16) (.t 18)), .s (.store 1 (.t 22) (.t 21))] (.tk 0 (.tk 1 (.tk 2 (.tk 3 (.one 4 false (.tk 5 (.tk 6 (.one 7 true (.done none)))))))))) (.skip))) (.seq (.reg [.s (.mv 23 (.t 7)), .s (.mv 6 (.t 23))]) (.ret))))⟩
def c_impl_Learn : Fun := ⟨190, [], fun ts K => as3 ts fun t0 t1 t2 => arC (pL (.int .i64)) t0 fun g => arG pWordT t1 fun pc => arG pWordT t2 fun nx => chk (g.length ≤ 2147483647) (K (tL true (.int .i64) (learnG g pc nx)) [])⟩
theorem run_impl_Learn (g : List (FT.Ty (.int .i64))) (pc : Word) (nx : Word) (hpre : g.length ≤ 2147483647) : runK [c_impl_in, c_slices_Clone_int, c_impl_Bare] (0) [] pf_impl_Learn [tL false (.int .i64) g, tG (pc.tc []), tG (nx.tc [])] fun r o => r = tL true (.int .i64) (learnG g pc nx) ∧ o = [] := by
  have w1 : IntKind.i64.wrap ((g.length : Int) - 1) = (g.length : Int) - 1 := wrap_id (by omega) (by omega)
  conv => whnf
  repeat' (first | (refine sel_i (fun h => ?_) (fun h => ?_) <;> conv => whnf) | (refine chk_c ?_ ?_ <;> conv => whnf) | (refine And.intro ?_ rfl) | (refine And.intro ?_ ?_ <;> conv => whnf))
  all_goals (try simp only [w1, etaKey, etaWord] at *)
  all_goals first
    | (refine ⟨?_⟩; first | exact hpre | (have hr := inR_t.1 (show inR pc.n 0 ((g.length : Int) - 1) = true by assumption); omega))
    | (unfold learnG; simp only [*, if_true, if_false, Bool.false_eq_true]; first | done | rfl)
    | trace_state
theorem ok_impl_Learn : FunOk Tryz.prog c_impl_Learn := funOk (E := [c_impl_in, c_slices_Clone_int, c_impl_Bare]) (envOk_cons ok_impl_in (envOk_cons ok_slices_Clone_int (envOk_cons ok_impl_Bare (envOk_nil)))) mixd Tryz.func190 (pf := pf_impl_Learn) (by kernel_rfl) fun ts K h => by
  obtain ⟨t0, t1, t2, e0, h⟩ := as3_out h
  subst e0
  obtain ⟨g, e1, hq⟩ := arC_out (rd_l (.int .i64)) h
  clear h
  subst e1
  have h := hq
  clear hq
  obtain ⟨pc, e1, hq⟩ := arG_out rd_word h
  clear h
  subst e1
  have h := hq
  clear hq
  obtain ⟨nx, e1, hq⟩ := arG_out rd_word h
  clear h
  subst e1
  have h := hq
  clear hq
  obtain ⟨hpre, h⟩ := chk_o h
  exact ⟨_, _, h, Nat.le_of_ble_eq_true (show Nat.ble 3 Tryz.f190.ntmps = true by kernel_rfl), _, run_impl_Learn g pc nx hpre⟩

def pf_spec_Learn : PF := ⟨[.t 6], .seq (.reg [.s (.box 4 (.t 1)), .s (.box 5 (.t 2)), .s (.mv 6 (.k (.v (.c (.nils (.int .i64))))))]) (.seq (.reg [.s (.bs 8 (.int .i64) []), .s (.mv 9 (.t 0)), .s (.app 10 (.int .i64) (.t 8) (.t 9)), .s (.mv 7 (.t 10))]) (.seq (.seq (.reg [.s (.fa 11 (.t 4) 0), .s (.load 12 false 1 (.t 11)), .s (.mv 13 (.t 0)), .s (.len 14 false (.t 13)), .s (.bin 15 .sub (.t 14) (.k (.v (.c (.int .i64 1))))), .s (.call (some 16) 77 [(.t 12), (.k (.v (.c (.int .i64 0)))), (.t 15)])]) (.cond (.t 16) (.rgd [] [.s (.mv 17 (.t 7)), .s (.fa 18 (.t 4) 0), .s (.load 19 false 1 (.t 18)), .s (.fa 20 (.t 5) 0), .s (.load 21 false 1 (.t 20)), .s (.call (some 22) 109 [(.t 21)]), .s (.fld 23 (.t 22) 0 1 false), .s (.ia 24 (.int .i64) (.t 17) (.t 19)), .s (.store 1 (.t 24) (.t 23))] (.tk 0 (.tk 1 (.tk 2 (.tk 3 (.tk 4 (.one 5 false (.tk 6 (.tk 7 (.one 8 true (.done none))))))))))) (.skip))) (.seq (.reg [.s (.mv 25 (.t 7)), .s (.mv 6 (.t 25))]) (.ret))))⟩
def c_spec_Learn : Fun := ⟨200, [], fun ts K => as3 ts fun t0 t1 t2 => arC (pL (.int .i64)) t0 fun g => arG pWordT t1 fun pc => arG pWordT t2 fun nx => chk (g.length ≤ 2147483647) (K (tL true (.int .i64) (learnG g pc nx)) [])⟩
theorem run_spec_Learn (g : List (FT.Ty (.int .i64))) (pc : Word) (nx : Word) (hpre : g.length ≤ 2147483647) : runK [c_spec_l1In, c_spec_Plain] (0) [] pf_spec_Learn [tL false (.int .i64) g, tG (pc.tc []), tG (nx.tc [])] fun r o => r = tL true (.int .i64) (learnG g pc nx) ∧ o = [] := by
  have w1 : IntKind.i64.wrap ((g.length : Int) - 1) = (g.length : Int) - 1 := wrap_id (by omega) (by omega)
  conv => whnf
  repeat' (first | (refine sel_i (fun h => ?_) (fun h => ?_) <;> conv => whnf) | (refine chk_c ?_ ?_ <;> conv => whnf) | (refine And.intro ?_ rfl) | (refine And.intro ?_ ?_ <;> conv => whnf))
  all_goals (try simp only [w1, etaKey, etaWord, List.nil_append] at *)
  all_goals first
    | (refine ⟨?_⟩; first | exact hpre | (simp only [List.length_nil]; omega) | (have hr := inR_t.1 (show inR pc.n 0 ((g.length : Int) - 1) = true by assumption); omega))
    | (unfold learnG; simp only [*, if_true, if_false, Bool.false_eq_true]; first | done | rfl)
    | trace_state
theorem ok_spec_Learn : FunOk Tryz.prog c_spec_Learn := funOk (E := [c_spec_l1In, c_spec_Plain]) (envOk_cons ok_spec_l1In (envOk_cons ok_spec_Plain (envOk_nil))) mixd Tryz.func200 (pf := pf_spec_Learn) (by kernel_rfl) fun ts K h => by
  obtain ⟨t0, t1, t2, e0, h⟩ := as3_out h
  subst e0
  obtain ⟨g, e1, hq⟩ := arC_out (rd_l (.int .i64)) h
  clear h
  subst e1
  have h := hq
  clear hq
  obtain ⟨pc, e1, hq⟩ := arG_out rd_word h
  clear h
  subst e1
  have h := hq
  clear hq
  obtain ⟨nx, e1, hq⟩ := arG_out rd_word h
  clear h
  subst e1
  have h := hq
  clear hq
  obtain ⟨hpre, h⟩ := chk_o h
  exact ⟨_, _, h, Nat.le_of_ble_eq_true (show Nat.ble 3 Tryz.f200.ntmps = true by kernel_rfl), _, run_spec_Learn g pc nx hpre⟩
end Go.Pi
