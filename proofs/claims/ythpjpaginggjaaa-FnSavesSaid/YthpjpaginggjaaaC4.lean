/- Contracts of functions, each out of its run by PI. No conditions. -/
import Derived.Test.YthpjpaginggjaaaC3
namespace Go.Pi
open Go.Proofs
set_option linter.unusedVariables false
set_option linter.unusedSimpArgs false
set_option maxRecDepth 100000
attribute [local irreducible] iterN
structure Cur where
  b : List Int
  i : Int
  h : Int
def Cur.tc (c : Cur) (r : List TC) : List TC := tl false (.int .u8) c.b :: .int .i64 c.i :: .int .i64 c.h :: r
def pCurT : Prs Cur := fun l f => pL (.int .u8) l fun a l => pN l fun b l => pN l fun c l => f ⟨a, b, c⟩ l
theorem rd_cur : Rd pCurT Cur.tc := fun l f h0 => by
  obtain ⟨a, _, rfl, h1⟩ := rd_l (.int .u8) _ _ h0
  obtain ⟨b, _, rfl, h2⟩ := rd_int .i64 _ _ h1
  obtain ⟨c, _, rfl, h3⟩ := rd_int .i64 _ _ h2
  exact ⟨⟨a, b, c⟩, _, rfl, h3⟩
def CurOk (c : Cur) : Prop := 0 ≤ c.i ∧ c.b.length ≤ 1048576
abbrev curOut (d : Cur) : Tree := .v (.ptr true 0 (d.tc []))
theorem and255 (n : Int) : 0 ≤ andI n 255 ∧ andI n 255 ≤ 255 := andI_le n (by decide) (by decide)

def pf_laws_big : PF := ⟨[.t 2], .seq (.reg [.s (.mv 2 (.k (.v (.c .ff))))]) (.seq (.reg [.s (.mv 3 (.t 0)), .s (.len 4 false (.t 3)), .s (.bin 5 .gtr (.t 4) (.k (.v (.c (.int .i64 1048576))))), .s (.mv 2 (.t 5))]) (.ret))⟩
def c_laws_big : Fun := ⟨12, [], fun ts K => as1 ts fun t0 => arC (pL (.int .u8)) t0 fun c => K (tB (decide (1048576 < c.length))) []⟩
theorem run_laws_big (c : List (FT.Ty (.int .u8))) : runK [] (0) [] pf_laws_big [tL false (.int .u8) c] fun r o => r = tB (decide (1048576 < c.length)) ∧ o = [] := by
  conv => whnf
  repeat' (first | (refine sel_i (fun h => ?_) (fun h => ?_) <;> conv => whnf) | (refine chk_c ?_ ?_ <;> conv => whnf) | (refine And.intro ?_ rfl) | (refine And.intro ?_ ?_ <;> conv => whnf))
  have e : decide ((c.length : Int) > 1048576) = decide (1048576 < c.length) := decide_eq_decide.2 (by omega)
  rw [e]
theorem ok_laws_big : FunOk Try.prog c_laws_big := funOk (E := []) (envOk_nil) mixd Try.func12 (pf := pf_laws_big) (by kernel_rfl) fun ts K h => by
  obtain ⟨t0, e0, h⟩ := as1_out h
  subst e0
  obtain ⟨c, e1, hq⟩ := arC_out (rd_l (.int .u8)) h
  clear h
  subst e1
  have h := hq
  clear hq
  exact ⟨_, _, h, Nat.le_of_ble_eq_true (show Nat.ble 1 Try.f12.ntmps = true by kernel_rfl), _, run_laws_big c⟩

def lb_spec_l1New_0 : PC := .seq (.seq (.reg [.s (.mv 8 (.t 4)), .s (.mv 9 (.t 0)), .s (.len 10 false (.t 9)), .s (.bin 11 .lss (.t 8) (.t 10)), .s (.mv 12 (.t 11)), .g 12 true (some 13) (.mv 13 (.t 4)), .g 12 true (some 14) (.bin 14 .lss (.t 13) (.k (.v (.c (.int .i64 4000))))), .s (.pick 15 (.t 12) (.t 14) (.k (.v (.c .ff))))]) (.cond (.t 15) (.skip) (.exit 0))) (.seq (.blk 1 (.reg [.s (.mv 18 (.t 3)), .s (.bin 19 .mul (.t 18) (.k (.v (.c (.int .i64 131))))), .s (.mv 20 (.t 0)), .s (.mv 21 (.t 4)), .s (.ia 22 (.int .u8) (.t 20) (.t 21)), .s (.load 23 false 1 (.t 22)), .s (.conv 24 .i64 (.t 23)), .s (.bin 25 .add (.t 19) (.t 24)), .s (.bin 26 .add (.t 25) (.k (.v (.c (.int .i64 7))))), .s (.bin 27 .and (.t 26) (.k (.v (.c (.int .i64 1073741823))))), .s (.mv 3 (.t 27))])) (.reg [.s (.mv 16 (.t 4)), .s (.bin 17 .add (.t 16) (.k (.v (.c (.int .i64 1))))), .s (.mv 4 (.t 17))]))
def pf_spec_l1New : PF := ⟨[.t 2], .seq (.reg [.s (.mv 2 (.k (.v (.c .nilp))))]) (.seq (.reg [.s (.mv 5 (.t 0)), .s (.len 6 false (.t 5)), .s (.bin 7 .add (.k (.v (.c (.int .i64 19220)))) (.t 6)), .s (.mv 3 (.t 7))]) (.seq (.seq (.reg [.s (.mv 4 (.k (.v (.c (.int .i64 0)))))]) (.blk 0 (.loop [0, 3, 4] lb_spec_l1New_0))) (.seq (.reg [.s (.mv 28 (.t 0)), .s (.mv 29 (.t 3)), .s (.build 30 [.nils (.int .u8), .int .i64 0, .int .i64 0] [(0, 1, (.t 28)), (2, 1, (.t 29))]), .s (.box 31 (.t 30)), .s (.mv 2 (.t 31))]) (.ret))))⟩
def c_spec_l1New : Fun := ⟨81, [], fun ts K => as1 ts fun t0 => arC (pL (.int .u8)) t0 fun c => chk (c.length ≤ 1048576) (∀ (d : Cur), (CurOk d) → K (.v (.ptr true 0 (d.tc []))) [])⟩
theorem run_spec_l1New (c : List (FT.Ty (.int .u8))) (hpre : c.length ≤ 1048576) {K : Tree → List Tree → Prop} (hK : ∀ (d : Cur), (CurOk d) → K (.v (.ptr true 0 (d.tc []))) []) : runK [] (c.length + 1) [] pf_spec_l1New [tL false (.int .u8) c] K := by
  conv => whnf
  refine loop (α := Nat × Int) (fun q => ⟨[(0, .v (.c (.sl false (.int .u8) 0))), (3, .v (.c (.int .i64 q.2))), (4, .v (.c (.int .i64 (q.1 : Int))))], [(0, some (.flat false (.int .u8) none c))], nums.tail, [], false, []⟩)
    (fun q => q.1 ≤ c.length) (fun q => c.length - q.1) (fun q R hI hR => ?_) (0, IntKind.i64.wrap (19220 + (c.length : Int))) _ (Nat.zero_le _) (by simp)
  obtain ⟨i, n⟩ := q
  dsimp only at hI
  dsimp only
  conv => whnf
  repeat' (first | (refine sel_i (fun h => ?_) (fun h => ?_) <;> conv => whnf) | (refine chk_c ?_ ?_ <;> conv => whnf) | (refine And.intro ?_ rfl) | (refine And.intro ?_ ?_ <;> conv => whnf))
  all_goals first
    | (refine ⟨?_⟩; simp at *; omega)
    | (rw [wrap_id (n := (i : Int) + 1) (by omega) (by omega)]; refine hR (i + 1, _) (by simp at *; omega) (by simp at *; omega))
    | exact hK ⟨_, _, _⟩ ⟨Int.le_refl _, hpre⟩
    | trace_state
theorem ok_spec_l1New : FunOk Try.prog c_spec_l1New := funOkR (E := []) (envOk_nil) mixd Try.func81 (pf := pf_spec_l1New) (by kernel_rfl) fun ts K h => by
  obtain ⟨t0, e0, h⟩ := as1_out h
  subst e0
  obtain ⟨c, e1, hq⟩ := arC_out (rd_l (.int .u8)) h
  clear h
  subst e1
  have h := hq
  clear hq
  obtain ⟨hpre, h⟩ := chk_o h
  exact ⟨Nat.le_of_ble_eq_true (show Nat.ble 1 Try.f81.ntmps = true by kernel_rfl), _, run_spec_l1New c hpre h⟩

def pf_spec_l1Byte : PF := ⟨[.t 2], .seq (.reg [.s (.mv 2 (.k (.v (.c (.int .i64 0)))))]) (.seq (.reg [.s (.mv 4 (.t 0)), .s (.mv 5 (.t 0)), .s (.nchk 6 (.t 5)), .s (.fa 7 (.t 6) 2), .s (.load 8 false 1 (.t 7)), .s (.bin 9 .mul (.t 8) (.k (.v (.c (.int .i64 6364136223846793005))))), .s (.bin 10 .add (.t 9) (.k (.v (.c (.int .i64 1442695040888963407))))), .s (.nchk 11 (.t 4)), .s (.fa 12 (.t 11) 2), .s (.store 1 (.t 12) (.t 10))]) (.seq (.rgd [] [.s (.mv 13 (.t 0)), .s (.nchk 14 (.t 13)), .s (.fa 15 (.t 14) 2), .s (.load 16 false 1 (.t 15)), .s (.bin 17 .shr (.t 16) (.k (.v (.c (.int .u64 33))))), .s (.mv 18 (.t 0)), .s (.nchk 19 (.t 18)), .s (.fa 20 (.t 19) 2), .s (.load 21 false 1 (.t 20)), .s (.bin 22 .shr (.t 21) (.k (.v (.c (.int .u64 45))))), .s (.bin 23 .xor (.t 17) (.t 22)), .s (.bin 24 .and (.t 23) (.k (.v (.c (.int .i64 255))))), .s (.mv 3 (.t 24))] (.tk 0 (.tk 1 (.tk 2 (.tk 3 (.tk 4 (.tk 5 (.tk 6 (.tk 7 (.tk 8 (.tk 9 (.tk 10 (.tk 11 (.tk 12 (.done none))))))))))))))) (.seq (.seq (.rgd [] [.s (.mv 25 (.t 0)), .s (.nchk 26 (.t 25)), .s (.fa 27 (.t 26) 1), .s (.load 28 false 1 (.t 27)), .s (.mv 29 (.t 0)), .s (.nchk 30 (.t 29)), .s (.fa 31 (.t 30) 0), .s (.load 32 false 1 (.t 31)), .s (.len 33 false (.t 32)), .s (.bin 34 .lss (.t 28) (.t 33))] (.tk 0 (.tk 1 (.tk 2 (.tk 3 (.tk 4 (.tk 5 (.tk 6 (.tk 7 (.tk 8 (.tk 9 (.done none)))))))))))) (.cond (.t 34) (.seq (.rgd [] [.s (.mv 35 (.t 3)), .s (.mv 36 (.t 0)), .s (.nchk 37 (.t 36)), .s (.fa 38 (.t 37) 0), .s (.load 39 false 1 (.t 38)), .s (.mv 40 (.t 0)), .s (.nchk 41 (.t 40)), .s (.fa 42 (.t 41) 1), .s (.load 43 false 1 (.t 42)), .s (.ia 44 (.int .u8) (.t 39) (.t 43)), .s (.load 45 false 1 (.t 44)), .s (.conv 46 .i64 (.t 45)), .s (.bin 47 .add (.t 35) (.t 46)), .s (.bin 48 .and (.t 47) (.k (.v (.c (.int .i64 255))))), .s (.mv 3 (.t 48))] (.tk 0 (.tk 1 (.tk 2 (.tk 3 (.tk 4 (.tk 5 (.tk 6 (.tk 7 (.tk 8 (.tk 9 (.tk 10 (.tk 11 (.tk 12 (.tk 13 (.tk 14 (.done none))))))))))))))))) (.reg [.s (.mv 49 (.t 0)), .s (.mv 50 (.t 0)), .s (.nchk 51 (.t 50)), .s (.fa 52 (.t 51) 1), .s (.load 53 false 1 (.t 52)), .s (.bin 54 .add (.t 53) (.k (.v (.c (.int .i64 1))))), .s (.nchk 55 (.t 49)), .s (.fa 56 (.t 55) 1), .s (.store 1 (.t 56) (.t 54))])) (.skip))) (.seq (.reg [.s (.mv 57 (.t 3)), .s (.mv 2 (.t 57))]) (.ret)))))⟩
def c_spec_l1Byte : Fun := ⟨157, [true], fun ts K => as1 ts fun t0 => arQ pCurT t0 fun c => chk (CurOk c) (∀ (x : Int) (d : Cur), ((0 ≤ x ∧ x ≤ 255) ∧ CurOk d) → K (tN x) ([curOut d]))⟩
theorem run_spec_l1Byte (c : Cur) (hpre : CurOk c) {K : Tree → List Tree → Prop} (hK : ∀ (x : Int) (d : Cur), ((0 ≤ x ∧ x ≤ 255) ∧ CurOk d) → K (tN x) ([curOut d])) : runK [] (0) [true] pf_spec_l1Byte [.v (.ptr true 0 (c.tc []))] K := by
  obtain ⟨c1, c2⟩ := hpre
  conv => whnf
  repeat' (first | (refine sel_i (fun h => ?_) (fun h => ?_) <;> conv => whnf) | (refine chk_c ?_ ?_ <;> conv => whnf) | (refine And.intro ?_ rfl) | (refine And.intro ?_ ?_ <;> conv => whnf))
  all_goals (try simp only [andI_eq])
  all_goals first
    | (refine ⟨?_⟩; decide)
    | (refine ⟨?_⟩; simp at h; omega)
    | (have hc : c.i < c.b.length := by simpa using h
       rw [wrap_id (n := c.i + 1) (by omega) (by omega)]
       generalize hy : andI _ 255 = y
       exact hK y ⟨c.b, c.i + 1, _⟩ ⟨hy ▸ and255 _, by dsimp only; omega, c2⟩)
    | (generalize hy : andI _ 255 = y; generalize IntKind.i64.wrap (IntKind.i64.wrap (c.h * 6364136223846793005) + 1442695040888963407) = z; exact hK y ⟨c.b, c.i, z⟩ ⟨hy ▸ and255 _, c1, c2⟩)
    | trace_state
theorem ok_spec_l1Byte : FunOk Try.prog c_spec_l1Byte := funOkR (E := []) (envOk_nil) mixd Try.func157 (pf := pf_spec_l1Byte) (by kernel_rfl) fun ts K h => by
  obtain ⟨t0, e0, h⟩ := as1_out h
  subst e0
  obtain ⟨c, e1, hq⟩ := arQ_out rd_cur h
  clear h
  subst e1
  have h := hq
  clear hq
  obtain ⟨hpre, h⟩ := chk_o h
  exact ⟨Nat.le_of_ble_eq_true (show Nat.ble 1 Try.f157.ntmps = true by kernel_rfl), _, run_spec_l1Byte c hpre h⟩

theorem tmod_in {x n : Int} (hx : 0 ≤ x) (hn : 0 < n) : 0 ≤ x.tmod n ∧ x.tmod n < n := by
  rw [Int.tmod_eq_emod_of_nonneg hx]; exact ⟨Int.emod_nonneg _ (by omega), Int.emod_lt_of_pos _ hn⟩

def pf_spec_l1Below : PF := ⟨[.t 4], .seq (.reg [.s (.mv 4 (.k (.v (.c (.int .i64 0)))))]) (.seq (.seq (.reg [.s (.mv 9 (.t 1)), .s (.bin 10 .leq (.t 9) (.k (.v (.c (.int .i64 0)))))]) (.cond (.t 10) (.seq (.reg [.s (.mv 4 (.k (.v (.c (.int .i64 0)))))]) (.ret)) (.skip))) (.seq (.seq (.reg [.s (.mv 11 (.t 1)), .s (.bin 12 .leq (.t 11) (.k (.v (.c (.int .i64 256)))))]) (.cond (.t 12) (.seq (.reg [.s (.mv 13 (.t 0)), .s (.call (some 14) 157 [(.t 13)]), .s (.mv 15 (.t 1)), .s (.bin 16 .rem (.t 14) (.t 15)), .s (.mv 4 (.t 16))]) (.ret)) (.skip))) (.seq (.reg [.s (.mv 17 (.t 0)), .s (.call (some 18) 157 [(.t 17)]), .s (.mv 5 (.t 18))]) (.seq (.reg [.s (.mv 19 (.t 0)), .s (.call (some 20) 157 [(.t 19)]), .s (.mv 6 (.t 20))]) (.seq (.reg [.s (.mv 21 (.t 0)), .s (.call (some 22) 157 [(.t 21)]), .s (.mv 7 (.t 22))]) (.seq (.reg [.s (.mv 23 (.t 0)), .s (.call (some 24) 157 [(.t 23)]), .s (.mv 8 (.t 24))]) (.seq (.reg [.s (.mv 25 (.t 5)), .s (.bin 26 .mul (.t 25) (.k (.v (.c (.int .i64 16777216))))), .s (.mv 27 (.t 6)), .s (.bin 28 .mul (.t 27) (.k (.v (.c (.int .i64 65536))))), .s (.bin 29 .add (.t 26) (.t 28)), .s (.mv 30 (.t 7)), .s (.bin 31 .mul (.t 30) (.k (.v (.c (.int .i64 256))))), .s (.bin 32 .add (.t 29) (.t 31)), .s (.mv 33 (.t 8)), .s (.bin 34 .add (.t 32) (.t 33)), .s (.mv 35 (.t 1)), .s (.bin 36 .rem (.t 34) (.t 35)), .s (.mv 4 (.t 36))]) (.ret))))))))⟩
def c_spec_l1Below : Fun := ⟨83, [true, false], fun ts K => as2 ts fun t0 t1 => arQ pCurT t0 fun c => arC (pI .i64) t1 fun n => chk (CurOk c) (∀ (x : Int) (d : Cur), ((0 ≤ x ∧ (n ≤ 0 → x = 0) ∧ (0 < n → x < n)) ∧ CurOk d) → K (tN x) ([curOut d]))⟩
theorem run_spec_l1Below (c : Cur) (n : Int) (hpre : CurOk c) {K : Tree → List Tree → Prop} (hK : ∀ (x : Int) (d : Cur), ((0 ≤ x ∧ (n ≤ 0 → x = 0) ∧ (0 < n → x < n)) ∧ CurOk d) → K (tN x) ([curOut d])) : runK [c_spec_l1Byte] (0) [true, false] pf_spec_l1Below [.v (.ptr true 0 (c.tc [])), tI .i64 n] K := by
  conv => whnf
  repeat' (first | (refine sel_i (fun h => ?_) (fun h => ?_) <;> conv => whnf) | (refine chk_c ?_ ?_ <;> conv => whnf) | (refine And.intro ?_ rfl) | (refine And.intro ?_ ?_ <;> conv => whnf) | (intro x y z d hd; (try have g1 := And.left hd); (try have g2 := And.right hd); (try have g3 := And.left (And.right hd)); (try have g4 := And.right (And.right hd)); conv => whnf) | (intro x y d hd; (try have g1 := And.left hd); (try have g2 := And.right hd); (try have g3 := And.left (And.right hd)); (try have g4 := And.right (And.right hd)); conv => whnf) | (intro x d hd; (try have g1 := And.left hd); (try have g2 := And.right hd); (try have g3 := And.left (And.right hd)); (try have g4 := And.right (And.right hd)); conv => whnf) | (intro d hd; (try have g1 := And.left hd); (try have g2 := And.right hd); (try have g3 := And.left (And.right hd)); (try have g4 := And.right (And.right hd)); conv => whnf))
  all_goals first
    | (refine ⟨?_⟩; exact hd.2)
    | (refine ⟨?_⟩; exact hpre)
    | (refine ⟨?_⟩; simp at *; omega)
    | exact hK _ ⟨_, _, _⟩ ⟨⟨Int.le_refl _, fun _ => rfl, fun _ => by simp at h; omega⟩, hpre⟩
    | (have hn : 0 < n := by simp at *; omega
       have ht := tmod_in (n := n) hd.1.1 hn
       exact hK _ ⟨_, _, _⟩ ⟨⟨ht.1, fun _ => by omega, fun _ => ht.2⟩, hd.2⟩)
    | (have hn : 0 < n := by simp at *; omega
       rename_i x1 d1 hd1 _ _ _ _ x2 d2 hd2 _ _ _ _ x3 d3 hd3 _ _ _ _
       have q1 := hd1.1; have q2 := hd2.1; have q3 := hd3.1; have q4 := hd.1
       rw [wrap_id (n := x1 * 16777216) (by omega) (by omega), wrap_id (n := x2 * 65536) (by omega) (by omega), wrap_id (n := x1 * 16777216 + x2 * 65536) (by omega) (by omega), wrap_id (n := x3 * 256) (by omega) (by omega), wrap_id (n := x1 * 16777216 + x2 * 65536 + x3 * 256) (by omega) (by omega), wrap_id (n := x1 * 16777216 + x2 * 65536 + x3 * 256 + x) (by omega) (by omega)]
       have ht := tmod_in (x := x1 * 16777216 + x2 * 65536 + x3 * 256 + x) (n := n) (by omega) hn
       exact hK _ ⟨_, _, _⟩ ⟨⟨ht.1, fun _ => by omega, fun _ => ht.2⟩, hd.2⟩)
    | trace_state
theorem ok_spec_l1Below : FunOk Try.prog c_spec_l1Below := funOkR (E := [c_spec_l1Byte]) (envOk_cons ok_spec_l1Byte (envOk_nil)) mixd Try.func83 (pf := pf_spec_l1Below) (by kernel_rfl) fun ts K h => by
  obtain ⟨t0, t1, e0, h⟩ := as2_out h
  subst e0
  obtain ⟨c, e1, hq⟩ := arQ_out rd_cur h
  clear h
  subst e1
  have h := hq
  clear hq
  obtain ⟨n, e1, hq⟩ := arC_out (rd_int .i64) h
  clear h
  subst e1
  have h := hq
  clear hq
  obtain ⟨hpre, h⟩ := chk_o h
  exact ⟨Nat.le_of_ble_eq_true (show Nat.ble 2 Try.f83.ntmps = true by kernel_rfl), _, run_spec_l1Below c n hpre h⟩

def pf_spec_l1Once : PF := ⟨[.t 4], .seq (.reg [.s (.mv 4 (.k (.v (.c .ff))))]) (.seq (.reg [.s (.mv 5 (.t 0)), .s (.mv 6 (.t 1)), .s (.call (some 7) 83 [(.t 5), (.t 6)]), .s (.bin 8 .eql (.t 7) (.k (.v (.c (.int .i64 0))))), .s (.mv 4 (.t 8))]) (.ret))⟩
def c_spec_l1Once : Fun := ⟨163, [true, false], fun ts K => as2 ts fun t0 t1 => arQ pCurT t0 fun c => arC (pI .i64) t1 fun n => chk (CurOk c) (∀ (x : Bool) (d : Cur), (CurOk d) → K (tB x) ([curOut d]))⟩
theorem run_spec_l1Once (c : Cur) (n : Int) (hpre : CurOk c) {K : Tree → List Tree → Prop} (hK : ∀ (x : Bool) (d : Cur), (CurOk d) → K (tB x) ([curOut d])) : runK [c_spec_l1Below] (0) [true, false] pf_spec_l1Once [.v (.ptr true 0 (c.tc [])), tI .i64 n] K := by
  conv => whnf
  repeat' (first | (refine sel_i (fun h => ?_) (fun h => ?_) <;> conv => whnf) | (refine chk_c ?_ ?_ <;> conv => whnf) | (refine And.intro ?_ rfl) | (refine And.intro ?_ ?_ <;> conv => whnf) | (intro x y z d hd; (try have g1 := And.left hd); (try have g2 := And.right hd); (try have g3 := And.left (And.right hd)); (try have g4 := And.right (And.right hd)); conv => whnf) | (intro x y d hd; (try have g1 := And.left hd); (try have g2 := And.right hd); (try have g3 := And.left (And.right hd)); (try have g4 := And.right (And.right hd)); conv => whnf) | (intro x d hd; (try have g1 := And.left hd); (try have g2 := And.right hd); (try have g3 := And.left (And.right hd)); (try have g4 := And.right (And.right hd)); conv => whnf) | (intro d hd; (try have g1 := And.left hd); (try have g2 := And.right hd); (try have g3 := And.left (And.right hd)); (try have g4 := And.right (And.right hd)); conv => whnf))
  all_goals first
    | (refine ⟨?_⟩; exact hpre)
    | exact hK _ ⟨_, _, _⟩ hd.2
    | trace_state
theorem ok_spec_l1Once : FunOk Try.prog c_spec_l1Once := funOkR (E := [c_spec_l1Below]) (envOk_cons ok_spec_l1Below (envOk_nil)) mixd Try.func163 (pf := pf_spec_l1Once) (by kernel_rfl) fun ts K h => by
  obtain ⟨t0, t1, e0, h⟩ := as2_out h
  subst e0
  obtain ⟨c, e1, hq⟩ := arQ_out rd_cur h
  clear h
  subst e1
  have h := hq
  clear hq
  obtain ⟨n, e1, hq⟩ := arC_out (rd_int .i64) h
  clear h
  subst e1
  have h := hq
  clear hq
  obtain ⟨hpre, h⟩ := chk_o h
  exact ⟨Nat.le_of_ble_eq_true (show Nat.ble 2 Try.f163.ntmps = true by kernel_rfl), _, run_spec_l1Once c n hpre h⟩

theorem getD_memI {l : List Int} {i : Nat} (h : i < l.length) : l.getD i 0 ∈ l := by
  rw [List.getD_eq_getElem?_getD, List.getElem?_eq_getElem h]; exact List.getElem_mem h

def pf_spec_l1PickInt : PF := ⟨[.t 4], .seq (.reg [.s (.mv 4 (.k (.v (.c (.int .i64 0)))))]) (.seq (.reg [.s (.mv 5 (.t 1)), .s (.mv 6 (.t 0)), .s (.mv 7 (.t 1)), .s (.len 8 false (.t 7)), .s (.call (some 9) 83 [(.t 6), (.t 8)]), .s (.ia 10 (.int .i64) (.t 5) (.t 9)), .s (.load 11 false 1 (.t 10)), .s (.mv 4 (.t 11))]) (.ret))⟩
def c_spec_l1PickInt : Fun := ⟨106, [true, true], fun ts K => as2 ts fun t0 t1 => arQ pCurT t0 fun c => arC (pO (.int .i64)) t1 fun l => chk (CurOk c ∧ 0 < l.length ∧ l.length ≤ 1048576) (∀ (x : Int) (d : Cur), (x ∈ l ∧ CurOk d) → K (tN x) ([curOut d, tL true (.int .i64) l]))⟩
theorem run_spec_l1PickInt (c : Cur) (l : List (FT.Ty (.int .i64))) (hpre : CurOk c ∧ 0 < l.length ∧ l.length ≤ 1048576) {K : Tree → List Tree → Prop} (hK : ∀ (x : Int) (d : Cur), (x ∈ l ∧ CurOk d) → K (tN x) ([curOut d, tL true (.int .i64) l])) : runK [c_spec_l1Below] (0) [true, true] pf_spec_l1PickInt [.v (.ptr true 0 (c.tc [])), tL true (.int .i64) l] K := by
  obtain ⟨c1, c2⟩ := hpre
  conv => whnf
  repeat' (first | (refine sel_i (fun h => ?_) (fun h => ?_) <;> conv => whnf) | (refine chk_c ?_ ?_ <;> conv => whnf) | (refine And.intro ?_ rfl) | (refine And.intro ?_ ?_ <;> conv => whnf) | (intro x y z d hd; (try have g1 := And.left hd); (try have g2 := And.right hd); (try have g3 := And.left (And.right hd)); (try have g4 := And.right (And.right hd)); conv => whnf) | (intro x y d hd; (try have g1 := And.left hd); (try have g2 := And.right hd); (try have g3 := And.left (And.right hd)); (try have g4 := And.right (And.right hd)); conv => whnf) | (intro x d hd; (try have g1 := And.left hd); (try have g2 := And.right hd); (try have g3 := And.left (And.right hd)); (try have g4 := And.right (And.right hd)); conv => whnf) | (intro d hd; (try have g1 := And.left hd); (try have g2 := And.right hd); (try have g3 := And.left (And.right hd)); (try have g4 := And.right (And.right hd)); conv => whnf))
  all_goals first
    | (refine ⟨?_⟩; exact c1)
    | (refine ⟨?_⟩; have := hd.1; omega)
    | (exact hK _ ⟨_, _, _⟩ ⟨getD_memI (by have := hd.1; omega), hd.2⟩)
    | trace_state
theorem ok_spec_l1PickInt : FunOk Try.prog c_spec_l1PickInt := funOkR (E := [c_spec_l1Below]) (envOk_cons ok_spec_l1Below (envOk_nil)) mixd Try.func106 (pf := pf_spec_l1PickInt) (by kernel_rfl) fun ts K h => by
  obtain ⟨t0, t1, e0, h⟩ := as2_out h
  subst e0
  obtain ⟨c, e1, hq⟩ := arQ_out rd_cur h
  clear h
  subst e1
  have h := hq
  clear hq
  obtain ⟨l, e1, hq⟩ := arC_out (rd_o (.int .i64)) h
  clear h
  subst e1
  have h := hq
  clear hq
  obtain ⟨hpre, h⟩ := chk_o h
  exact ⟨Nat.le_of_ble_eq_true (show Nat.ble 2 Try.f106.ntmps = true by kernel_rfl), _, run_spec_l1PickInt c l hpre h⟩

theorem kKey {K : Tree → List Tree → Prop} {o : List Tree} {P : Prop} (hK : ∀ w : Key, P → K (tG (w.tc [])) o) (a b c d : Int) (h : P) : K (.v (.g [.int .i64 a, .int .i64 b, .int .i64 c, .int .i64 d])) o := hK ⟨a, b, c, d⟩ h
theorem kWord {K : Tree → List Tree → Prop} {o : List Tree} {P : Prop} (hK : ∀ w : Word, P → K (tG (w.tc [])) o) (n : Int) (is : Bool) (a b c d : Int) (h : P) : K (.v (.g [.int .i64 n, .bool is, .int .i64 a, .int .i64 b, .int .i64 c, .int .i64 d])) o := hK ⟨n, is, ⟨a, b, c, d⟩⟩ h
theorem kInst {K : Tree → List Tree → Prop} {o : List Tree} {P : Prop} (hK : ∀ w : Inst, P → K (tG (w.tc [])) o) (e a b c d : Int) (h : P) : K (.v (.g [.int .i64 e, .int .i64 a, .int .i64 b, .int .i64 c, .int .i64 d])) o := hK ⟨e, a, b, c, d⟩ h

def pf_spec_Root : PF := ⟨[.c 0 true 4], .seq (.reg [.s (.alloc 0 [.int .i64 0, .int .i64 0, .int .i64 0, .int .i64 0])]) (.seq (.reg [.s (.build 1 [.int .i64 0, .int .i64 0, .int .i64 0, .int .i64 0] [(1, 1, (.k (.v (.c (.int .i64 4096))))), (2, 1, (.k (.v (.c (.int .i64 63)))))]), .s (.store 4 (.t 0) (.t 1))]) (.ret))⟩
def c_spec_Root : Fun := ⟨206, [], fun ts K => as0 ts (K (tG ((⟨0, 4096, 63, 0⟩ : Key).tc [])) [])⟩
theorem run_spec_Root  : runK [] (0) [] pf_spec_Root [] fun r o => r = tG ((⟨0, 4096, 63, 0⟩ : Key).tc []) ∧ o = [] := by
  conv => whnf
  repeat' (first | (refine sel_i (fun h => ?_) (fun h => ?_) <;> conv => whnf) | (refine chk_c ?_ ?_ <;> conv => whnf) | (refine And.intro ?_ rfl) | (refine And.intro ?_ ?_ <;> conv => whnf))
  rfl
theorem ok_spec_Root : FunOk Try.prog c_spec_Root := funOk (E := []) (envOk_nil) mixd Try.func206 (pf := pf_spec_Root) (by kernel_rfl) fun ts K h => by
  obtain ⟨e0, h⟩ := as0_out h
  subst e0
  exact ⟨_, _, h, Nat.le_of_ble_eq_true (show Nat.ble 0 Try.f206.ntmps = true by kernel_rfl), _, run_spec_Root ⟩

def pf_spec_l2DrawRight : PF := ⟨[.c 2 true 4], .seq (.reg [.s (.alloc 2 [.int .i64 0, .int .i64 0, .int .i64 0, .int .i64 0])]) (.seq (.reg [.s (.call (some 4) 206 []), .s (.alloc 3 [.int .i64 0, .int .i64 0, .int .i64 0, .int .i64 0]), .s (.store 4 (.t 3) (.t 4))]) (.seq (.seq (.reg [.s (.mv 5 (.t 0)), .s (.call (some 6) 83 [(.t 5), (.k (.v (.c (.int .i64 4))))])]) (.blk 0 (.seq (.reg [.s (.bin 8 .eql (.t 6) (.k (.v (.c (.int .i64 0))))), .s (.mv 7 (.t 8))]) (.cond (.t 7) (.seq (.reg [.s (.mv 9 (.t 0)), .s (.call (some 10) 83 [(.t 9), (.k (.v (.c (.int .i64 30))))]), .s (.fa 11 (.t 3) 0), .s (.store 1 (.t 11) (.t 10))]) (.rgd [0] [.s (.fa 12 (.t 3) 0), .s (.load 13 false 1 (.t 12)), .s (.mv 14 (.t 0)), .s (.call (some 15) 83 [(.t 14), (.k (.v (.c (.int .i64 33))))]), .s (.bin 16 .add (.t 13) (.t 15)), .s (.fa 17 (.t 3) 1), .s (.store 1 (.t 17) (.t 16))] (.tk 0 (.tk 1 (.tk 2 (.one 3 false (.tk 4 (.tk 5 (.one 6 true (.done none)))))))))) (.seq (.reg [.s (.bin 19 .eql (.t 6) (.k (.v (.c (.int .i64 1))))), .s (.mv 18 (.t 19))]) (.cond (.t 18) (.seq (.reg [.s (.mv 20 (.t 0)), .s (.call (some 21) 83 [(.t 20), (.k (.v (.c (.int .i64 20))))]), .s (.bin 22 .mul (.k (.v (.c (.int .i64 64)))) (.t 21)), .s (.fa 23 (.t 3) 0), .s (.store 1 (.t 23) (.t 22))]) (.rgd [0] [.s (.fa 24 (.t 3) 0), .s (.load 25 false 1 (.t 24)), .s (.mv 26 (.t 0)), .s (.call (some 27) 83 [(.t 26), (.k (.v (.c (.int .i64 9))))]), .s (.bin 28 .mul (.k (.v (.c (.int .i64 64)))) (.t 27)), .s (.bin 29 .add (.t 25) (.t 28)), .s (.fa 30 (.t 3) 1), .s (.store 1 (.t 30) (.t 29))] (.tk 0 (.tk 1 (.tk 2 (.one 3 false (.tk 4 (.tk 5 (.tk 6 (.one 7 true (.done none))))))))))) (.seq (.reg [.s (.bin 32 .eql (.t 6) (.k (.v (.c (.int .i64 2))))), .s (.mv 31 (.t 32))]) (.cond (.t 31) (.reg [.s (.fa 33 (.t 3) 1), .s (.store 1 (.t 33) (.k (.v (.c (.int .i64 32)))))]) (.skip))))))))) (.seq (.seq (.reg [.s (.mv 34 (.t 0)), .s (.call (some 35) 163 [(.t 34), (.k (.v (.c (.int .i64 2))))])]) (.cond (.t 35) (.reg [.s (.mv 36 (.t 0)), .s (.call (some 37) 83 [(.t 36), (.k (.v (.c (.int .i64 64))))]), .s (.fa 38 (.t 3) 2), .s (.store 1 (.t 38) (.t 37))]) (.skip))) (.seq (.seq (.reg [.s (.mv 39 (.t 0)), .s (.call (some 40) 163 [(.t 39), (.k (.v (.c (.int .i64 5))))])]) (.cond (.t 40) (.reg [.s (.mv 41 (.t 0)), .s (.call (some 42) 83 [(.t 41), (.k (.v (.c (.int .i64 7))))]), .s (.bin 43 .add (.k (.v (.c (.int .i64 1)))) (.t 42)), .s (.fa 44 (.t 3) 3), .s (.store 1 (.t 44) (.t 43))]) (.skip))) (.seq (.reg [.s (.load 45 true 4 (.t 3)), .s (.store 4 (.t 2) (.t 45))]) (.ret))))))⟩
def c_spec_l2DrawRight : Fun := ⟨165, [true], fun ts K => as1 ts fun t0 => arQ pCurT t0 fun c => chk (CurOk c) (∀ (k : Key) (d : Cur), (CurOk d) → K (tG (k.tc [])) ([curOut d]))⟩
theorem run_spec_l2DrawRight (c : Cur) (hpre : CurOk c) {K : Tree → List Tree → Prop} (hK : ∀ (k : Key) (d : Cur), (CurOk d) → K (tG (k.tc [])) ([curOut d])) : runK [c_spec_l1Below, c_spec_l1Once, c_spec_Root] (0) [true] pf_spec_l2DrawRight [.v (.ptr true 0 (c.tc []))] K := by
  conv => whnf
  repeat' (first | (refine sel_i (fun h => ?_) (fun h => ?_) <;> conv => whnf) | (refine chk_c ?_ ?_ <;> conv => whnf) | (refine And.intro ?_ rfl) | (refine And.intro ?_ ?_ <;> conv => whnf) | (intro x y z d hd; (try have g1 := And.left hd); (try have g2 := And.right hd); (try have g3 := And.left (And.right hd)); (try have g4 := And.right (And.right hd)); conv => whnf) | (intro x y d hd; (try have g1 := And.left hd); (try have g2 := And.right hd); (try have g3 := And.left (And.right hd)); (try have g4 := And.right (And.right hd)); conv => whnf) | (intro x d hd; (try have g1 := And.left hd); (try have g2 := And.right hd); (try have g3 := And.left (And.right hd)); (try have g4 := And.right (And.right hd)); conv => whnf) | (intro d hd; (try have g1 := And.left hd); (try have g2 := And.right hd); (try have g3 := And.left (And.right hd)); (try have g4 := And.right (And.right hd)); conv => whnf))
  all_goals first
    | (refine ⟨?_⟩; exact hd)
    | (refine ⟨?_⟩; exact hd.2)
    | (refine ⟨?_⟩; exact hpre)
    | (refine ⟨?_⟩; exact ⟨hd, by decide⟩)
    | (refine ⟨?_⟩; exact ⟨hd.2, by decide⟩)
    | (refine ⟨?_⟩; exact ⟨hd, by simp⟩)
    | (refine ⟨?_⟩; exact ⟨hd.2, by simp⟩)
    | (refine ⟨?_⟩; exact ⟨hpre, by simp⟩)
    | (refine ⟨?_⟩; decide)
    | (refine ⟨?_⟩; rfl)
    | ((try dsimp only); exact kKey (fun w hw => hK w _ hw) _ _ _ _  hd)
    | ((try dsimp only); exact kKey (fun w hw => hK w _ hw) _ _ _ _  hd.2)
    | trace_state
theorem ok_spec_l2DrawRight : FunOk Try.prog c_spec_l2DrawRight := funOkR (E := [c_spec_l1Below, c_spec_l1Once, c_spec_Root]) (envOk_cons ok_spec_l1Below (envOk_cons ok_spec_l1Once (envOk_cons ok_spec_Root (envOk_nil)))) mixd Try.func165 (pf := pf_spec_l2DrawRight) (by kernel_rfl) fun ts K h => by
  obtain ⟨t0, e0, h⟩ := as1_out h
  subst e0
  obtain ⟨c, e1, hq⟩ := arQ_out rd_cur h
  clear h
  subst e1
  have h := hq
  clear hq
  obtain ⟨hpre, h⟩ := chk_o h
  exact ⟨Nat.le_of_ble_eq_true (show Nat.ble 1 Try.f165.ntmps = true by kernel_rfl), _, run_spec_l2DrawRight c hpre h⟩

def pf_spec_l2Draw : PF := ⟨[.c 2 true 4], .seq (.reg [.s (.alloc 2 [.int .i64 0, .int .i64 0, .int .i64 0, .int .i64 0])]) (.seq (.reg [.s (.mv 4 (.t 0)), .s (.call (some 5) 165 [(.t 4)]), .s (.alloc 3 [.int .i64 0, .int .i64 0, .int .i64 0, .int .i64 0]), .s (.store 4 (.t 3) (.t 5))]) (.seq (.seq (.reg [.s (.mv 6 (.t 0)), .s (.call (some 7) 83 [(.t 6), (.k (.v (.c (.int .i64 12))))])]) (.blk 0 (.seq (.reg [.s (.bin 9 .eql (.t 7) (.k (.v (.c (.int .i64 0))))), .s (.mv 8 (.t 9))]) (.cond (.t 8) (.rgd [0] [.s (.fa 10 (.t 3) 0), .s (.load 11 false 1 (.t 10)), .s (.mv 12 (.t 0)), .s (.bs 13 (.int .i64) [(.k (.v (.c (.int .i64 (-1))))), (.k (.v (.c (.int .i64 65)))), (.k (.v (.c (.int .i64 97)))), (.k (.v (.c (.int .i64 5000))))]), .s (.call (some 14) 106 [(.t 12), (.t 13)]), .s (.bin 15 .add (.t 11) (.t 14)), .s (.fa 16 (.t 3) 1), .s (.store 1 (.t 16) (.t 15))] (.tk 0 (.tk 1 (.tk 2 (.one 3 false (.one 4 false (.tk 5 (.tk 6 (.one 7 true (.done none)))))))))) (.seq (.reg [.s (.bin 18 .eql (.t 7) (.k (.v (.c (.int .i64 1))))), .s (.mv 17 (.t 18))]) (.cond (.t 17) (.reg [.s (.mv 19 (.t 0)), .s (.bs 20 (.int .i64) [(.k (.v (.c (.int .i64 (-1))))), (.k (.v (.c (.int .i64 64))))]), .s (.call (some 21) 106 [(.t 19), (.t 20)]), .s (.fa 22 (.t 3) 2), .s (.store 1 (.t 22) (.t 21))]) (.seq (.reg [.s (.bin 24 .eql (.t 7) (.k (.v (.c (.int .i64 2))))), .s (.mv 23 (.t 24))]) (.cond (.t 23) (.reg [.s (.mv 25 (.t 0)), .s (.bs 26 (.int .i64) [(.k (.v (.c (.int .i64 (-1))))), (.k (.v (.c (.int .i64 8))))]), .s (.call (some 27) 106 [(.t 25), (.t 26)]), .s (.fa 28 (.t 3) 3), .s (.store 1 (.t 28) (.t 27))]) (.skip))))))))) (.seq (.reg [.s (.load 29 true 4 (.t 3)), .s (.store 4 (.t 2) (.t 29))]) (.ret))))⟩
def c_spec_l2Draw : Fun := ⟨158, [true], fun ts K => as1 ts fun t0 => arQ pCurT t0 fun c => chk (CurOk c) (∀ (k : Key) (d : Cur), (CurOk d) → K (tG (k.tc [])) ([curOut d]))⟩
theorem run_spec_l2Draw (c : Cur) (hpre : CurOk c) {K : Tree → List Tree → Prop} (hK : ∀ (k : Key) (d : Cur), (CurOk d) → K (tG (k.tc [])) ([curOut d])) : runK [c_spec_l1Below, c_spec_l1PickInt, c_spec_l2DrawRight] (0) [true] pf_spec_l2Draw [.v (.ptr true 0 (c.tc []))] K := by
  conv => whnf
  repeat' (first | (refine sel_i (fun h => ?_) (fun h => ?_) <;> conv => whnf) | (refine chk_c ?_ ?_ <;> conv => whnf) | (refine And.intro ?_ rfl) | (refine And.intro ?_ ?_ <;> conv => whnf) | (intro x y z d hd; (try have g1 := And.left hd); (try have g2 := And.right hd); (try have g3 := And.left (And.right hd)); (try have g4 := And.right (And.right hd)); conv => whnf) | (intro x y d hd; (try have g1 := And.left hd); (try have g2 := And.right hd); (try have g3 := And.left (And.right hd)); (try have g4 := And.right (And.right hd)); conv => whnf) | (intro x d hd; (try have g1 := And.left hd); (try have g2 := And.right hd); (try have g3 := And.left (And.right hd)); (try have g4 := And.right (And.right hd)); conv => whnf) | (intro d hd; (try have g1 := And.left hd); (try have g2 := And.right hd); (try have g3 := And.left (And.right hd)); (try have g4 := And.right (And.right hd)); conv => whnf))
  all_goals first
    | (refine ⟨?_⟩; exact hd)
    | (refine ⟨?_⟩; exact hd.2)
    | (refine ⟨?_⟩; exact hpre)
    | (refine ⟨?_⟩; exact ⟨hd, by decide⟩)
    | (refine ⟨?_⟩; exact ⟨hd.2, by decide⟩)
    | (refine ⟨?_⟩; exact ⟨hd, by simp⟩)
    | (refine ⟨?_⟩; exact ⟨hd.2, by simp⟩)
    | (refine ⟨?_⟩; exact ⟨hpre, by simp⟩)
    | (refine ⟨?_⟩; decide)
    | (refine ⟨?_⟩; rfl)
    | ((try dsimp only); exact kKey (fun w hw => hK w _ hw) _ _ _ _  hd)
    | ((try dsimp only); exact kKey (fun w hw => hK w _ hw) _ _ _ _  hd.2)
    | trace_state
theorem ok_spec_l2Draw : FunOk Try.prog c_spec_l2Draw := funOkR (E := [c_spec_l1Below, c_spec_l1PickInt, c_spec_l2DrawRight]) (envOk_cons ok_spec_l1Below (envOk_cons ok_spec_l1PickInt (envOk_cons ok_spec_l2DrawRight (envOk_nil)))) mixd Try.func158 (pf := pf_spec_l2Draw) (by kernel_rfl) fun ts K h => by
  obtain ⟨t0, e0, h⟩ := as1_out h
  subst e0
  obtain ⟨c, e1, hq⟩ := arQ_out rd_cur h
  clear h
  subst e1
  have h := hq
  clear hq
  obtain ⟨hpre, h⟩ := chk_o h
  exact ⟨Nat.le_of_ble_eq_true (show Nat.ble 1 Try.f158.ntmps = true by kernel_rfl), _, run_spec_l2Draw c hpre h⟩

def pf_spec_l3DrawRight : PF := ⟨[.c 2 true 6], .seq (.reg [.s (.alloc 2 [.int .i64 0, .ff, .int .i64 0, .int .i64 0, .int .i64 0, .int .i64 0])]) (.seq (.seq (.reg [.s (.mv 4 (.t 0)), .s (.call (some 5) 163 [(.t 4), (.k (.v (.c (.int .i64 3))))])]) (.cond (.t 5) (.seq (.reg [.s (.mv 6 (.t 0)), .s (.bs 7 (.int .i64) [(.k (.v (.c (.int .i64 0)))), (.k (.v (.c (.int .i64 1)))), (.k (.v (.c (.int .i64 2)))), (.k (.v (.c (.int .i64 5)))), (.k (.v (.c (.int .i64 31)))), (.k (.v (.c (.int .i64 65535))))]), .s (.call (some 8) 106 [(.t 6), (.t 7)]), .s (.call (some 9) 164 [(.t 8)]), .s (.store 6 (.t 2) (.t 9))]) (.ret)) (.skip))) (.seq (.reg [.s (.mv 10 (.t 0)), .s (.call (some 11) 165 [(.t 10)]), .s (.alloc 3 [.int .i64 0, .int .i64 0, .int .i64 0, .int .i64 0]), .s (.store 4 (.t 3) (.t 11))]) (.seq (.rgd [0] [.s (.load 12 true 4 (.t 3)), .s (.mv 13 (.t 0)), .s (.fa 14 (.t 3) 0), .s (.load 15 false 1 (.t 14)), .s (.fa 16 (.t 3) 0), .s (.load 17 false 1 (.t 16)), .s (.fa 18 (.t 3) 0), .s (.load 19 false 1 (.t 18)), .s (.bin 20 .add (.t 19) (.k (.v (.c (.int .i64 1))))), .s (.fa 21 (.t 3) 1), .s (.load 22 false 1 (.t 21)), .s (.bs 23 (.int .i64) [(.t 15), (.t 17), (.t 20), (.t 22), (.k (.v (.c (.int .i64 3)))), (.k (.v (.c (.int .i64 1))))]), .s (.call (some 24) 106 [(.t 13), (.t 23)]), .s (.call (some 25) 150 [(.t 12), (.t 24)]), .s (.store 6 (.t 2) (.t 25))] (.tk 0 (.tk 1 (.tk 2 (.tk 3 (.tk 4 (.tk 5 (.tk 6 (.tk 7 (.tk 8 (.tk 9 (.tk 10 (.one 11 false (.one 12 false (.one 13 true (.one 14 true (.done none))))))))))))))))) (.ret))))⟩
def c_spec_l3DrawRight : Fun := ⟨104, [true], fun ts K => as1 ts fun t0 => arQ pCurT t0 fun c => chk (CurOk c) (∀ (w : Word) (d : Cur), (wordOk w = true ∧ CurOk d) → K (tG (w.tc [])) ([curOut d]))⟩
theorem run_spec_l3DrawRight (c : Cur) (hpre : CurOk c) {K : Tree → List Tree → Prop} (hK : ∀ (w : Word) (d : Cur), (wordOk w = true ∧ CurOk d) → K (tG (w.tc [])) ([curOut d])) : runK [c_spec_l1PickInt, c_spec_KeyWord, c_spec_l1Once, c_spec_Plain, c_spec_l2DrawRight] (0) [true] pf_spec_l3DrawRight [.v (.ptr true 0 (c.tc []))] K := by
  conv => whnf
  repeat' (first | (refine sel_i (fun h => ?_) (fun h => ?_) <;> conv => whnf) | (refine chk_c ?_ ?_ <;> conv => whnf) | (refine And.intro ?_ rfl) | (refine And.intro ?_ ?_ <;> conv => whnf) | (intro x y z d hd; (try have g1 := And.left hd); (try have g2 := And.right hd); (try have g3 := And.left (And.right hd)); (try have g4 := And.right (And.right hd)); conv => whnf) | (intro x y d hd; (try have g1 := And.left hd); (try have g2 := And.right hd); (try have g3 := And.left (And.right hd)); (try have g4 := And.right (And.right hd)); conv => whnf) | (intro x d hd; (try have g1 := And.left hd); (try have g2 := And.right hd); (try have g3 := And.left (And.right hd)); (try have g4 := And.right (And.right hd)); conv => whnf) | (intro d hd; (try have g1 := And.left hd); (try have g2 := And.right hd); (try have g3 := And.left (And.right hd)); (try have g4 := And.right (And.right hd)); conv => whnf))
  all_goals first
    | (refine ⟨?_⟩; exact hd)
    | (refine ⟨?_⟩; exact hd.2)
    | (refine ⟨?_⟩; exact hpre)
    | (refine ⟨?_⟩; exact ⟨hd, by decide⟩)
    | (refine ⟨?_⟩; exact ⟨hd.2, by decide⟩)
    | (refine ⟨?_⟩; exact ⟨hd, by simp⟩)
    | (refine ⟨?_⟩; exact ⟨hd.2, by simp⟩)
    | (refine ⟨?_⟩; exact ⟨hpre, by simp⟩)
    | (refine ⟨?_⟩; decide)
    | (refine ⟨?_⟩; rfl)
    | exact hK (plainW _) _ ⟨plainW_ok _, hd.2⟩
    | exact hK (keyWord _ _) _ ⟨keyWord_ok _ _, hd.2⟩
    | trace_state
theorem ok_spec_l3DrawRight : FunOk Try.prog c_spec_l3DrawRight := funOkR (E := [c_spec_l1PickInt, c_spec_KeyWord, c_spec_l1Once, c_spec_Plain, c_spec_l2DrawRight]) (envOk_cons ok_spec_l1PickInt (envOk_cons ok_spec_KeyWord (envOk_cons ok_spec_l1Once (envOk_cons ok_spec_Plain (envOk_cons ok_spec_l2DrawRight (envOk_nil)))))) mixd Try.func104 (pf := pf_spec_l3DrawRight) (by kernel_rfl) fun ts K h => by
  obtain ⟨t0, e0, h⟩ := as1_out h
  subst e0
  obtain ⟨c, e1, hq⟩ := arQ_out rd_cur h
  clear h
  subst e1
  have h := hq
  clear hq
  obtain ⟨hpre, h⟩ := chk_o h
  exact ⟨Nat.le_of_ble_eq_true (show Nat.ble 1 Try.f104.ntmps = true by kernel_rfl), _, run_spec_l3DrawRight c hpre h⟩

def pf_spec_l3Draw : PF := ⟨[.c 2 true 6], .seq (.reg [.s (.alloc 2 [.int .i64 0, .ff, .int .i64 0, .int .i64 0, .int .i64 0, .int .i64 0])]) (.seq (.reg [.s (.mv 4 (.t 0)), .s (.call (some 5) 104 [(.t 4)]), .s (.alloc 3 [.int .i64 0, .ff, .int .i64 0, .int .i64 0, .int .i64 0, .int .i64 0]), .s (.store 6 (.t 3) (.t 5))]) (.seq (.seq (.reg [.s (.mv 6 (.t 0)), .s (.call (some 7) 83 [(.t 6), (.k (.v (.c (.int .i64 12))))])]) (.blk 0 (.seq (.reg [.s (.bin 9 .eql (.t 7) (.k (.v (.c (.int .i64 0))))), .s (.mv 8 (.t 9))]) (.cond (.t 8) (.reg [.s (.mv 10 (.t 0)), .s (.bs 11 (.int .i64) [(.k (.v (.c (.int .i64 (-1))))), (.k (.v (.c (.int .i64 65536)))), (.k (.v (.c (.int .i64 9223372036854775807))))]), .s (.call (some 12) 106 [(.t 10), (.t 11)]), .s (.fa 13 (.t 3) 0), .s (.store 1 (.t 13) (.t 12))]) (.seq (.reg [.s (.bin 15 .eql (.t 7) (.k (.v (.c (.int .i64 1))))), .s (.mv 14 (.t 15))]) (.cond (.t 14) (.reg [.s (.fa 16 (.t 3) 1), .s (.load 17 false 1 (.t 16)), .s (.bnot 18 (.t 17)), .s (.fa 19 (.t 3) 1), .s (.store 1 (.t 19) (.t 18))]) (.seq (.reg [.s (.bin 21 .eql (.t 7) (.k (.v (.c (.int .i64 2))))), .s (.mv 20 (.t 21))]) (.cond (.t 20) (.reg [.s (.mv 22 (.t 0)), .s (.call (some 23) 158 [(.t 22)]), .s (.fa 24 (.t 3) 2), .s (.store 4 (.t 24) (.t 23))]) (.skip))))))))) (.seq (.reg [.s (.load 25 true 6 (.t 3)), .s (.store 6 (.t 2) (.t 25))]) (.ret))))⟩
def c_spec_l3Draw : Fun := ⟨84, [true], fun ts K => as1 ts fun t0 => arQ pCurT t0 fun c => chk (CurOk c) (∀ (w : Word) (d : Cur), (CurOk d) → K (tG (w.tc [])) ([curOut d]))⟩
theorem run_spec_l3Draw (c : Cur) (hpre : CurOk c) {K : Tree → List Tree → Prop} (hK : ∀ (w : Word) (d : Cur), (CurOk d) → K (tG (w.tc [])) ([curOut d])) : runK [c_spec_l1Below, c_spec_l3DrawRight, c_spec_l1PickInt, c_spec_l2Draw] (0) [true] pf_spec_l3Draw [.v (.ptr true 0 (c.tc []))] K := by
  conv => whnf
  repeat' (first | (refine sel_i (fun h => ?_) (fun h => ?_) <;> conv => whnf) | (refine chk_c ?_ ?_ <;> conv => whnf) | (refine And.intro ?_ rfl) | (refine And.intro ?_ ?_ <;> conv => whnf) | (intro x y z d hd; (try have g1 := And.left hd); (try have g2 := And.right hd); (try have g3 := And.left (And.right hd)); (try have g4 := And.right (And.right hd)); conv => whnf) | (intro x y d hd; (try have g1 := And.left hd); (try have g2 := And.right hd); (try have g3 := And.left (And.right hd)); (try have g4 := And.right (And.right hd)); conv => whnf) | (intro x d hd; (try have g1 := And.left hd); (try have g2 := And.right hd); (try have g3 := And.left (And.right hd)); (try have g4 := And.right (And.right hd)); conv => whnf) | (intro d hd; (try have g1 := And.left hd); (try have g2 := And.right hd); (try have g3 := And.left (And.right hd)); (try have g4 := And.right (And.right hd)); conv => whnf))
  all_goals first
    | (refine ⟨?_⟩; exact hd)
    | (refine ⟨?_⟩; exact hd.2)
    | (refine ⟨?_⟩; exact hpre)
    | (refine ⟨?_⟩; exact ⟨hd, by decide⟩)
    | (refine ⟨?_⟩; exact ⟨hd.2, by decide⟩)
    | (refine ⟨?_⟩; exact ⟨hd, by simp⟩)
    | (refine ⟨?_⟩; exact ⟨hd.2, by simp⟩)
    | (refine ⟨?_⟩; exact ⟨hpre, by simp⟩)
    | (refine ⟨?_⟩; decide)
    | (refine ⟨?_⟩; rfl)
    | ((try dsimp only); exact kWord (fun w hw => hK w _ hw) _ _ _ _ _ _  hd)
    | ((try dsimp only); exact kWord (fun w hw => hK w _ hw) _ _ _ _ _ _  hd.2)
    | trace_state
theorem ok_spec_l3Draw : FunOk Try.prog c_spec_l3Draw := funOkR (E := [c_spec_l1Below, c_spec_l3DrawRight, c_spec_l1PickInt, c_spec_l2Draw]) (envOk_cons ok_spec_l1Below (envOk_cons ok_spec_l3DrawRight (envOk_cons ok_spec_l1PickInt (envOk_cons ok_spec_l2Draw (envOk_nil))))) mixd Try.func84 (pf := pf_spec_l3Draw) (by kernel_rfl) fun ts K h => by
  obtain ⟨t0, e0, h⟩ := as1_out h
  subst e0
  obtain ⟨c, e1, hq⟩ := arQ_out rd_cur h
  clear h
  subst e1
  have h := hq
  clear hq
  obtain ⟨hpre, h⟩ := chk_o h
  exact ⟨Nat.le_of_ble_eq_true (show Nat.ble 1 Try.f84.ntmps = true by kernel_rfl), _, run_spec_l3Draw c hpre h⟩

def pf_spec_l6DrawIns : PF := ⟨[.c 2 true 5], .seq (.reg [.s (.alloc 2 [.int .i64 0, .int .i64 0, .int .i64 0, .int .i64 0, .int .i64 0])]) (.seq (.reg [.s (.mv 9 (.t 0)), .s (.call (some 10) 83 [(.t 9), (.k (.v (.c (.int .i64 4))))]), .s (.bin 11 .add (.k (.v (.c (.int .i64 1)))) (.t 10)), .s (.mv 12 (.t 0)), .s (.call (some 13) 83 [(.t 12), (.k (.v (.c (.int .i64 4))))]), .s (.mv 14 (.t 0)), .s (.call (some 15) 83 [(.t 14), (.k (.v (.c (.int .i64 4))))]), .s (.mv 16 (.t 0)), .s (.bs 17 (.int .i64) [(.k (.v (.c (.int .i64 0)))), (.k (.v (.c (.int .i64 0)))), (.k (.v (.c (.int .i64 1)))), (.k (.v (.c (.int .i64 2)))), (.k (.v (.c (.int .i64 3)))), (.k (.v (.c (.int .i64 (-1))))), (.k (.v (.c (.int .i64 20))))]), .s (.call (some 18) 106 [(.t 16), (.t 17)]), .s (.mv 3 (.t 11)), .s (.mv 4 (.t 13)), .s (.mv 5 (.t 15)), .s (.mv 6 (.t 18))]) (.seq (.reg [.s (.mv 19 (.t 0)), .s (.bs 20 (.int .i64) [(.k (.v (.c (.int .i64 1)))), (.k (.v (.c (.int .i64 1)))), (.k (.v (.c (.int .i64 1)))), (.k (.v (.c (.int .i64 2)))), (.k (.v (.c (.int .i64 3)))), (.k (.v (.c (.int .i64 4)))), (.k (.v (.c (.int .i64 5)))), (.k (.v (.c (.int .i64 5)))), (.k (.v (.c (.int .i64 6)))), (.k (.v (.c (.int .i64 6)))), (.k (.v (.c (.int .i64 7)))), (.k (.v (.c (.int .i64 8)))), (.k (.v (.c (.int .i64 9)))), (.k (.v (.c (.int .i64 10)))), (.k (.v (.c (.int .i64 10)))), (.k (.v (.c (.int .i64 10)))), (.k (.v (.c (.int .i64 11)))), (.k (.v (.c (.int .i64 11)))), (.k (.v (.c (.int .i64 11)))), (.k (.v (.c (.int .i64 12)))), (.k (.v (.c (.int .i64 13)))), (.k (.v (.c (.int .i64 13)))), (.k (.v (.c (.int .i64 14)))), (.k (.v (.c (.int .i64 15))))]), .s (.call (some 21) 106 [(.t 19), (.t 20)]), .s (.build 22 [.int .i64 0, .int .i64 0, .int .i64 0, .int .i64 0, .int .i64 0] [(0, 1, (.t 21))]), .s (.alloc 7 [.int .i64 0, .int .i64 0, .int .i64 0, .int .i64 0, .int .i64 0]), .s (.store 5 (.t 7) (.t 22))]) (.seq (.reg [.s (.fa 23 (.t 7) 0), .s (.load 24 false 1 (.t 23)), .s (.call (some 25) 232 [(.t 24)]), .s (.mv 8 (.t 25))]) (.seq (.seq (.reg [.s (.mv 26 (.t 8)), .s (.bin 27 .and (.t 26) (.k (.v (.c (.int .i64 1))))), .s (.bin 28 .neq (.t 27) (.k (.v (.c (.int .i64 0)))))]) (.cond (.t 28) (.reg [.s (.mv 29 (.t 3)), .s (.fa 30 (.t 7) 1), .s (.store 1 (.t 30) (.t 29))]) (.skip))) (.seq (.seq (.reg [.s (.mv 31 (.t 8)), .s (.bin 32 .and (.t 31) (.k (.v (.c (.int .i64 2))))), .s (.bin 33 .neq (.t 32) (.k (.v (.c (.int .i64 0)))))]) (.cond (.t 33) (.reg [.s (.mv 34 (.t 4)), .s (.fa 35 (.t 7) 2), .s (.store 1 (.t 35) (.t 34))]) (.skip))) (.seq (.seq (.reg [.s (.mv 36 (.t 8)), .s (.bin 37 .and (.t 36) (.k (.v (.c (.int .i64 4))))), .s (.bin 38 .neq (.t 37) (.k (.v (.c (.int .i64 0)))))]) (.cond (.t 38) (.reg [.s (.mv 39 (.t 5)), .s (.fa 40 (.t 7) 3), .s (.store 1 (.t 40) (.t 39))]) (.skip))) (.seq (.seq (.reg [.s (.mv 41 (.t 8)), .s (.bin 42 .and (.t 41) (.k (.v (.c (.int .i64 8))))), .s (.bin 43 .neq (.t 42) (.k (.v (.c (.int .i64 0)))))]) (.cond (.t 43) (.reg [.s (.mv 44 (.t 6)), .s (.fa 45 (.t 7) 4), .s (.store 1 (.t 45) (.t 44))]) (.skip))) (.seq (.reg [.s (.load 46 true 5 (.t 7)), .s (.store 5 (.t 2) (.t 46))]) (.ret)))))))))⟩
def c_spec_l6DrawIns : Fun := ⟨207, [true], fun ts K => as1 ts fun t0 => arQ pCurT t0 fun c => chk (CurOk c) (∀ (x : Inst) (d : Cur), (CurOk d) → K (tG (x.tc [])) ([curOut d]))⟩
theorem run_spec_l6DrawIns (c : Cur) (hpre : CurOk c) {K : Tree → List Tree → Prop} (hK : ∀ (x : Inst) (d : Cur), (CurOk d) → K (tG (x.tc [])) ([curOut d])) : runK [c_spec_l1Below, c_spec_l1PickInt, c_spec_l6Has] (0) [true] pf_spec_l6DrawIns [.v (.ptr true 0 (c.tc []))] K := by
  conv => whnf
  repeat' (first | (refine sel_i (fun h => ?_) (fun h => ?_) <;> conv => whnf) | (refine chk_c ?_ ?_ <;> conv => whnf) | (refine And.intro ?_ rfl) | (refine And.intro ?_ ?_ <;> conv => whnf) | (intro x y z d hd; (try have g1 := And.left hd); (try have g2 := And.right hd); (try have g3 := And.left (And.right hd)); (try have g4 := And.right (And.right hd)); conv => whnf) | (intro x y d hd; (try have g1 := And.left hd); (try have g2 := And.right hd); (try have g3 := And.left (And.right hd)); (try have g4 := And.right (And.right hd)); conv => whnf) | (intro x d hd; (try have g1 := And.left hd); (try have g2 := And.right hd); (try have g3 := And.left (And.right hd)); (try have g4 := And.right (And.right hd)); conv => whnf) | (intro d hd; (try have g1 := And.left hd); (try have g2 := And.right hd); (try have g3 := And.left (And.right hd)); (try have g4 := And.right (And.right hd)); conv => whnf))
  all_goals first
    | (refine ⟨?_⟩; exact hd)
    | (refine ⟨?_⟩; exact hd.2)
    | (refine ⟨?_⟩; exact hpre)
    | (refine ⟨?_⟩; exact ⟨hd, by decide⟩)
    | (refine ⟨?_⟩; exact ⟨hd.2, by decide⟩)
    | (refine ⟨?_⟩; exact ⟨hd, by simp⟩)
    | (refine ⟨?_⟩; exact ⟨hd.2, by simp⟩)
    | (refine ⟨?_⟩; exact ⟨hpre, by simp⟩)
    | (refine ⟨?_⟩; decide)
    | (refine ⟨?_⟩; rfl)
    | ((try dsimp only); exact kInst (fun w hw => hK w _ hw) _ _ _ _ _  hd)
    | ((try dsimp only); exact kInst (fun w hw => hK w _ hw) _ _ _ _ _  hd.2)
    | trace_state
theorem ok_spec_l6DrawIns : FunOk Try.prog c_spec_l6DrawIns := funOkR (E := [c_spec_l1Below, c_spec_l1PickInt, c_spec_l6Has]) (envOk_cons ok_spec_l1Below (envOk_cons ok_spec_l1PickInt (envOk_cons ok_spec_l6Has (envOk_nil)))) mixd Try.func207 (pf := pf_spec_l6DrawIns) (by kernel_rfl) fun ts K h => by
  obtain ⟨t0, e0, h⟩ := as1_out h
  subst e0
  obtain ⟨c, e1, hq⟩ := arQ_out rd_cur h
  clear h
  subst e1
  have h := hq
  clear hq
  obtain ⟨hpre, h⟩ := chk_o h
  exact ⟨Nat.le_of_ble_eq_true (show Nat.ble 1 Try.f207.ntmps = true by kernel_rfl), _, run_spec_l6DrawIns c hpre h⟩

def pf_spec_l6Spoil : PF := ⟨[.c 4 true 5], .seq (.reg [.s (.box 3 (.t 1)), .s (.alloc 4 [.int .i64 0, .int .i64 0, .int .i64 0, .int .i64 0, .int .i64 0])]) (.seq (.seq (.reg [.s (.mv 5 (.t 0)), .s (.call (some 6) 83 [(.t 5), (.k (.v (.c (.int .i64 7))))])]) (.blk 0 (.seq (.reg [.s (.bin 8 .eql (.t 6) (.k (.v (.c (.int .i64 0))))), .s (.mv 7 (.t 8))]) (.cond (.t 7) (.reg [.s (.mv 9 (.t 0)), .s (.call (some 10) 83 [(.t 9), (.k (.v (.c (.int .i64 18))))]), .s (.bin 11 .sub (.t 10) (.k (.v (.c (.int .i64 1))))), .s (.fa 12 (.t 3) 0), .s (.store 1 (.t 12) (.t 11))]) (.seq (.reg [.s (.bin 14 .eql (.t 6) (.k (.v (.c (.int .i64 1))))), .s (.mv 13 (.t 14))]) (.cond (.t 13) (.reg [.s (.mv 15 (.t 0)), .s (.bs 16 (.int .i64) [(.k (.v (.c (.int .i64 (-1))))), (.k (.v (.c (.int .i64 7)))), (.k (.v (.c (.int .i64 8))))]), .s (.call (some 17) 106 [(.t 15), (.t 16)]), .s (.fa 18 (.t 3) 1), .s (.store 1 (.t 18) (.t 17))]) (.seq (.reg [.s (.bin 20 .eql (.t 6) (.k (.v (.c (.int .i64 2))))), .s (.mv 19 (.t 20))]) (.cond (.t 19) (.reg [.s (.mv 21 (.t 0)), .s (.bs 22 (.int .i64) [(.k (.v (.c (.int .i64 (-1))))), (.k (.v (.c (.int .i64 7)))), (.k (.v (.c (.int .i64 8))))]), .s (.call (some 23) 106 [(.t 21), (.t 22)]), .s (.fa 24 (.t 3) 2), .s (.store 1 (.t 24) (.t 23))]) (.seq (.reg [.s (.bin 26 .eql (.t 6) (.k (.v (.c (.int .i64 3))))), .s (.mv 25 (.t 26))]) (.cond (.t 25) (.reg [.s (.mv 27 (.t 0)), .s (.bs 28 (.int .i64) [(.k (.v (.c (.int .i64 (-128))))), (.k (.v (.c (.int .i64 (-129))))), (.k (.v (.c (.int .i64 127)))), (.k (.v (.c (.int .i64 128))))]), .s (.call (some 29) 106 [(.t 27), (.t 28)]), .s (.fa 30 (.t 3) 4), .s (.store 1 (.t 30) (.t 29))]) (.skip))))))))))) (.seq (.reg [.s (.load 31 true 5 (.t 3)), .s (.store 5 (.t 4) (.t 31))]) (.ret)))⟩
def c_spec_l6Spoil : Fun := ⟨166, [true, false], fun ts K => as2 ts fun t0 t1 => arQ pCurT t0 fun c => arG pInstT t1 fun x => chk (CurOk c) (∀ (y : Inst) (d : Cur), (CurOk d) → K (tG (y.tc [])) ([curOut d]))⟩
theorem run_spec_l6Spoil (c : Cur) (x : Inst) (hpre : CurOk c) {K : Tree → List Tree → Prop} (hK : ∀ (y : Inst) (d : Cur), (CurOk d) → K (tG (y.tc [])) ([curOut d])) : runK [c_spec_l1Below, c_spec_l1PickInt] (0) [true, false] pf_spec_l6Spoil [.v (.ptr true 0 (c.tc [])), tG (x.tc [])] K := by
  conv => whnf
  repeat' (first | (refine sel_i (fun h => ?_) (fun h => ?_) <;> conv => whnf) | (refine chk_c ?_ ?_ <;> conv => whnf) | (refine And.intro ?_ rfl) | (refine And.intro ?_ ?_ <;> conv => whnf) | (intro x y z d hd; (try have g1 := And.left hd); (try have g2 := And.right hd); (try have g3 := And.left (And.right hd)); (try have g4 := And.right (And.right hd)); conv => whnf) | (intro x y d hd; (try have g1 := And.left hd); (try have g2 := And.right hd); (try have g3 := And.left (And.right hd)); (try have g4 := And.right (And.right hd)); conv => whnf) | (intro x d hd; (try have g1 := And.left hd); (try have g2 := And.right hd); (try have g3 := And.left (And.right hd)); (try have g4 := And.right (And.right hd)); conv => whnf) | (intro d hd; (try have g1 := And.left hd); (try have g2 := And.right hd); (try have g3 := And.left (And.right hd)); (try have g4 := And.right (And.right hd)); conv => whnf))
  all_goals first
    | (refine ⟨?_⟩; exact hd)
    | (refine ⟨?_⟩; exact hd.2)
    | (refine ⟨?_⟩; exact hpre)
    | (refine ⟨?_⟩; exact ⟨hd, by decide⟩)
    | (refine ⟨?_⟩; exact ⟨hd.2, by decide⟩)
    | (refine ⟨?_⟩; exact ⟨hd, by simp⟩)
    | (refine ⟨?_⟩; exact ⟨hd.2, by simp⟩)
    | (refine ⟨?_⟩; exact ⟨hpre, by simp⟩)
    | (refine ⟨?_⟩; decide)
    | (refine ⟨?_⟩; rfl)
    | ((try dsimp only); exact kInst (fun w hw => hK w _ hw) _ _ _ _ _  hd)
    | ((try dsimp only); exact kInst (fun w hw => hK w _ hw) _ _ _ _ _  hd.2)
    | trace_state
theorem ok_spec_l6Spoil : FunOk Try.prog c_spec_l6Spoil := funOkR (E := [c_spec_l1Below, c_spec_l1PickInt]) (envOk_cons ok_spec_l1Below (envOk_cons ok_spec_l1PickInt (envOk_nil))) mixd Try.func166 (pf := pf_spec_l6Spoil) (by kernel_rfl) fun ts K h => by
  obtain ⟨t0, t1, e0, h⟩ := as2_out h
  subst e0
  obtain ⟨c, e1, hq⟩ := arQ_out rd_cur h
  clear h
  subst e1
  have h := hq
  clear hq
  obtain ⟨x, e1, hq⟩ := arG_out rd_inst h
  clear h
  subst e1
  have h := hq
  clear hq
  obtain ⟨hpre, h⟩ := chk_o h
  exact ⟨Nat.le_of_ble_eq_true (show Nat.ble 2 Try.f166.ntmps = true by kernel_rfl), _, run_spec_l6Spoil c x hpre h⟩

def lb_spec_l6DrawCode_0 : PC := .seq (.seq (.reg [.s (.mv 39 (.t 5)), .s (.mv 40 (.t 4)), .s (.bin 41 .lss (.t 39) (.t 40))]) (.cond (.t 41) (.skip) (.exit 1))) (.seq (.blk 2 (.reg [.s (.mv 44 (.t 3)), .s (.mv 45 (.t 0)), .s (.call (some 46) 207 [(.t 45)]), .s (.bs 47 .inst [(.t 46)]), .s (.app 48 .inst (.t 44) (.t 47)), .s (.mv 3 (.t 48))])) (.reg [.s (.mv 42 (.t 5)), .s (.bin 43 .add (.t 42) (.k (.v (.c (.int .i64 1))))), .s (.mv 5 (.t 43))]))
def pf_spec_l6DrawCode : PF := ⟨[.t 2], .seq (.reg [.s (.mv 2 (.k (.v (.c (.nils .inst)))))]) (.seq (.reg [.s (.bs 6 .inst []), .s (.mv 3 (.t 6))]) (.seq (.seq (.reg [.s (.mv 7 (.t 0)), .s (.call (some 8) 83 [(.t 7), (.k (.v (.c (.int .i64 4))))])]) (.blk 0 (.seq (.reg [.s (.bin 10 .eql (.t 8) (.k (.v (.c (.int .i64 0))))), .s (.mv 9 (.t 10))]) (.cond (.t 9) (.reg [.s (.mv 11 (.t 3)), .s (.build 12 [.int .i64 0, .int .i64 0, .int .i64 0, .int .i64 0, .int .i64 0] [(0, 1, (.k (.v (.c (.int .i64 1))))), (1, 1, (.k (.v (.c (.int .i64 1))))), (4, 1, (.k (.v (.c (.int .i64 3)))))]), .s (.build 13 [.int .i64 0, .int .i64 0, .int .i64 0, .int .i64 0, .int .i64 0] [(0, 1, (.k (.v (.c (.int .i64 5))))), (1, 1, (.k (.v (.c (.int .i64 2))))), (2, 1, (.k (.v (.c (.int .i64 0))))), (3, 1, (.k (.v (.c (.int .i64 1)))))]), .s (.build 14 [.int .i64 0, .int .i64 0, .int .i64 0, .int .i64 0, .int .i64 0] [(0, 1, (.k (.v (.c (.int .i64 11))))), (2, 1, (.k (.v (.c (.int .i64 0))))), (3, 1, (.k (.v (.c (.int .i64 2))))), (4, 1, (.k (.v (.c (.int .i64 1)))))]), .s (.build 15 [.int .i64 0, .int .i64 0, .int .i64 0, .int .i64 0, .int .i64 0] [(0, 1, (.k (.v (.c (.int .i64 10))))), (1, 1, (.k (.v (.c (.int .i64 3))))), (2, 1, (.k (.v (.c (.int .i64 0))))), (4, 1, (.k (.v (.c (.int .i64 1)))))]), .s (.bs 16 .inst [(.t 12), (.t 13), (.t 14), (.t 15)]), .s (.app 17 .inst (.t 11) (.t 16)), .s (.mv 3 (.t 17))]) (.seq (.reg [.s (.bin 19 .eql (.t 8) (.k (.v (.c (.int .i64 1))))), .s (.mv 18 (.t 19))]) (.cond (.t 18) (.reg [.s (.mv 20 (.t 3)), .s (.build 21 [.int .i64 0, .int .i64 0, .int .i64 0, .int .i64 0, .int .i64 0] [(0, 1, (.k (.v (.c (.int .i64 1))))), (1, 1, (.k (.v (.c (.int .i64 1))))), (4, 1, (.k (.v (.c (.int .i64 2)))))]), .s (.build 22 [.int .i64 0, .int .i64 0, .int .i64 0, .int .i64 0, .int .i64 0] [(0, 1, (.k (.v (.c (.int .i64 6))))), (1, 1, (.k (.v (.c (.int .i64 4))))), (2, 1, (.k (.v (.c (.int .i64 0))))), (3, 1, (.k (.v (.c (.int .i64 1)))))]), .s (.build 23 [.int .i64 0, .int .i64 0, .int .i64 0, .int .i64 0, .int .i64 0] [(0, 1, (.k (.v (.c (.int .i64 7))))), (1, 1, (.k (.v (.c (.int .i64 2))))), (2, 1, (.k (.v (.c (.int .i64 0))))), (3, 1, (.k (.v (.c (.int .i64 4)))))]), .s (.build 24 [.int .i64 0, .int .i64 0, .int .i64 0, .int .i64 0, .int .i64 0] [(0, 1, (.k (.v (.c (.int .i64 8))))), (1, 1, (.k (.v (.c (.int .i64 3))))), (2, 1, (.k (.v (.c (.int .i64 2))))), (3, 1, (.k (.v (.c (.int .i64 4)))))]), .s (.bs 25 .inst [(.t 21), (.t 22), (.t 23), (.t 24)]), .s (.app 26 .inst (.t 20) (.t 25)), .s (.mv 3 (.t 26))]) (.seq (.reg [.s (.bin 28 .eql (.t 8) (.k (.v (.c (.int .i64 2))))), .s (.mv 27 (.t 28))]) (.cond (.t 27) (.reg [.s (.mv 29 (.t 3)), .s (.build 30 [.int .i64 0, .int .i64 0, .int .i64 0, .int .i64 0, .int .i64 0] [(0, 1, (.k (.v (.c (.int .i64 1))))), (1, 1, (.k (.v (.c (.int .i64 1))))), (4, 1, (.k (.v (.c (.int .i64 5)))))]), .s (.build 31 [.int .i64 0, .int .i64 0, .int .i64 0, .int .i64 0, .int .i64 0] [(0, 1, (.k (.v (.c (.int .i64 1))))), (1, 1, (.k (.v (.c (.int .i64 2))))), (4, 1, (.k (.v (.c (.int .i64 (-1))))))]), .s (.build 32 [.int .i64 0, .int .i64 0, .int .i64 0, .int .i64 0, .int .i64 0] [(0, 1, (.k (.v (.c (.int .i64 2))))), (1, 1, (.k (.v (.c (.int .i64 1))))), (2, 1, (.k (.v (.c (.int .i64 1))))), (3, 1, (.k (.v (.c (.int .i64 2)))))]), .s (.build 33 [.int .i64 0, .int .i64 0, .int .i64 0, .int .i64 0, .int .i64 0] [(0, 1, (.k (.v (.c (.int .i64 13))))), (2, 1, (.k (.v (.c (.int .i64 1))))), (4, 1, (.k (.v (.c (.int .i64 2)))))]), .s (.build 34 [.int .i64 0, .int .i64 0, .int .i64 0, .int .i64 0, .int .i64 0] [(0, 1, (.k (.v (.c (.int .i64 13))))), (2, 1, (.k (.v (.c (.int .i64 5))))), (4, 1, (.k (.v (.c (.int .i64 (-2))))))]), .s (.bs 35 .inst [(.t 30), (.t 31), (.t 32), (.t 33), (.t 34)]), .s (.app 36 .inst (.t 29) (.t 35)), .s (.mv 3 (.t 36))]) (.skip))))))))) (.seq (.reg [.s (.mv 37 (.t 0)), .s (.call (some 38) 83 [(.t 37), (.k (.v (.c (.int .i64 14))))]), .s (.mv 4 (.t 38))]) (.seq (.seq (.reg [.s (.mv 5 (.k (.v (.c (.int .i64 0)))))]) (.blk 1 (.loop [0, 3, 4, 5] lb_spec_l6DrawCode_0))) (.seq (.reg [.s (.mv 49 (.t 3)), .s (.build 50 [.int .i64 0, .int .i64 0, .int .i64 0, .int .i64 0, .int .i64 0] [(0, 1, (.k (.v (.c (.int .i64 15)))))]), .s (.bs 51 .inst [(.t 50)]), .s (.app 52 .inst (.t 49) (.t 51)), .s (.mv 2 (.t 52))]) (.ret))))))⟩
def c_spec_l6DrawCode : Fun := ⟨167, [true], fun ts K => as1 ts fun t0 => arQ pCurT t0 fun c => chk (CurOk c) (∀ (l : List Inst) (d : Cur), (1 ≤ l.length ∧ l.length ≤ 20 ∧ CurOk d) → K (tL true .inst l) ([curOut d]))⟩
theorem run_spec_l6DrawCode (c : Cur) (hpre : CurOk c) {K : Tree → List Tree → Prop} (hK : ∀ (l : List Inst) (d : Cur), (1 ≤ l.length ∧ l.length ≤ 20 ∧ CurOk d) → K (tL true .inst l) ([curOut d])) : runK [c_spec_l1Below, c_spec_l6DrawIns] (20) [true] pf_spec_l6DrawCode [.v (.ptr true 0 (c.tc []))] K := by
  conv => whnf
  repeat' (first | (refine sel_i (fun h => ?_) (fun h => ?_) <;> conv => whnf) | (refine chk_c ?_ ?_ <;> conv => whnf) | (refine And.intro ?_ rfl) | (refine And.intro ?_ ?_ <;> conv => whnf) | (intro x y z d hd; (try have g1 := And.left hd); (try have g2 := And.right hd); (try have g3 := And.left (And.right hd)); (try have g4 := And.right (And.right hd)); conv => whnf) | (intro x y d hd; (try have g1 := And.left hd); (try have g2 := And.right hd); (try have g3 := And.left (And.right hd)); (try have g4 := And.right (And.right hd)); conv => whnf) | (intro x d hd; (try have g1 := And.left hd); (try have g2 := And.right hd); (try have g3 := And.left (And.right hd)); (try have g4 := And.right (And.right hd)); conv => whnf) | (intro d hd; (try have g1 := And.left hd); (try have g2 := And.right hd); (try have g3 := And.left (And.right hd)); (try have g4 := And.right (And.right hd)); conv => whnf))
  all_goals first
    | (refine ⟨?_⟩; exact hd)
    | (refine ⟨?_⟩; exact hd.2)
    | (refine ⟨?_⟩; exact hpre)
    | (refine ⟨?_⟩; exact ⟨hd, by decide⟩)
    | (refine ⟨?_⟩; exact ⟨hd.2, by decide⟩)
    | (refine ⟨?_⟩; exact ⟨hd, by simp⟩)
    | (refine ⟨?_⟩; exact ⟨hd.2, by simp⟩)
    | (refine ⟨?_⟩; exact ⟨hpre, by simp⟩)
    | (refine ⟨?_⟩; decide)
    | (refine ⟨?_⟩; rfl)
    | skip
  all_goals (
    have hx := hd.1
    refine loop (α := Nat × Cur × List Inst) (fun q => ⟨[(0, .v (.c (.ptr 0 0))), (3, .v (.c (.sl true .inst 2))), (4, .v (.c (.int .i64 x))), (5, .v (.c (.int .i64 (q.1 : Int))))],
        [(2, some (.flat true .inst none q.2.2)), (1, some (.flat false (.int .u8) none q.2.1.b)), (0, some (.box true [.sl false (.int .u8) 1, .int .i64 q.2.1.i, .int .i64 q.2.1.h]))], nums.tail.tail.tail, [.v (.c (.ptr 0 0))], false, []⟩)
      (fun q => (q.1 : Int) ≤ x ∧ CurOk q.2.1 ∧ q.2.2.length ≤ 5 + q.1) (fun q => 14 - q.1) (fun q R hI hR => ?_) (0, d, _) _ ⟨by simp; omega, hd.2, by simp⟩ (by simp)
    obtain ⟨i, e, l⟩ := q
    obtain ⟨hi, he, hl⟩ := hI
    dsimp only at hi he hl
    dsimp only
    conv => whnf
    repeat' (first | (refine sel_i (fun h => ?_) (fun h => ?_) <;> conv => whnf) | (refine chk_c ?_ ?_ <;> conv => whnf) | (refine And.intro ?_ rfl) | (refine And.intro ?_ ?_ <;> conv => whnf) | (intro x y z d hd; (try have g1 := And.left hd); (try have g2 := And.right hd); (try have g3 := And.left (And.right hd)); (try have g4 := And.right (And.right hd)); conv => whnf) | (intro x y d hd; (try have g1 := And.left hd); (try have g2 := And.right hd); (try have g3 := And.left (And.right hd)); (try have g4 := And.right (And.right hd)); conv => whnf) | (intro x d hd; (try have g1 := And.left hd); (try have g2 := And.right hd); (try have g3 := And.left (And.right hd)); (try have g4 := And.right (And.right hd)); conv => whnf) | (intro d hd; (try have g1 := And.left hd); (try have g2 := And.right hd); (try have g3 := And.left (And.right hd)); (try have g4 := And.right (And.right hd)); conv => whnf))
    all_goals first
      | (refine ⟨?_⟩; exact he)
      | (refine ⟨?_⟩; simp; omega)
      | (rw [wrap_id (n := (i : Int) + 1) (by omega) (by omega)]; exact hR (i + 1, _, _) ⟨by simp at h ⊢; omega, by exact hd, by simp; omega⟩ (by simp at h ⊢; omega))
      | exact hK _ ⟨_, _, _⟩ ⟨by simp, by simp; omega, he⟩
      | trace_state)
theorem ok_spec_l6DrawCode : FunOk Try.prog c_spec_l6DrawCode := funOkR (E := [c_spec_l1Below, c_spec_l6DrawIns]) (envOk_cons ok_spec_l1Below (envOk_cons ok_spec_l6DrawIns (envOk_nil))) mixd Try.func167 (pf := pf_spec_l6DrawCode) (by kernel_rfl) fun ts K h => by
  obtain ⟨t0, e0, h⟩ := as1_out h
  subst e0
  obtain ⟨c, e1, hq⟩ := arQ_out rd_cur h
  clear h
  subst e1
  have h := hq
  clear hq
  obtain ⟨hpre, h⟩ := chk_o h
  exact ⟨Nat.le_of_ble_eq_true (show Nat.ble 1 Try.f167.ntmps = true by kernel_rfl), _, run_spec_l6DrawCode c hpre h⟩

theorem kMem {K : Tree → List Tree → Prop} {o : List Tree} {P : Mem → Prop} (hK : ∀ w : Mem, P w → K (tG (w.tc true [])) o) (a : List Word) (b : List Bool) (h : P ⟨a, b⟩) : K (.v (.g [.ow .word a, .ow .bool b])) o := hK ⟨a, b⟩ h
def cuC (d : Cur) (k : Nat) : List Cell := [.sl false (.int .u8) k, .int .i64 d.i, .int .i64 d.h]
theorem memoryOk_setW {m : Mem} (h : memoryOk m = true) {i : Nat} {w : Word} (hw : wordOk w = true) : memoryOk ⟨m.words.set i w, m.gone⟩ = true := by
  obtain ⟨h1, h2, h3⟩ := memoryOk_iff.1 h
  refine memoryOk_iff.2 ⟨by simp [h1], h2, fun v hv => ?_⟩
  rcases mem_set hv with q | q
  · exact h3 v q
  · rw [q]; exact hw
theorem memoryOk_setG {m : Mem} (h : memoryOk m = true) {i : Nat} {b : Bool} : memoryOk ⟨m.words, m.gone.set i b⟩ = true := by
  obtain ⟨h1, h2, h3⟩ := memoryOk_iff.1 h
  exact memoryOk_iff.2 ⟨h1, by simp [h2], h3⟩
theorem memNew_ok : memoryOk memNew = true := by decide +kernel
theorem stateNew_ok : stateOk stateNew = true := by decide +kernel
theorem lMem_of {m : Mem} (h : memoryOk m = true) : LMem m 24 := by
  obtain ⟨h1, h2, h3⟩ := memoryOk_iff.1 h
  exact ⟨by omega, by omega⟩

def lb_spec_l8DrawRight_0 : PC := .seq (.seq (.reg [.s (.mv 7 (.t 4)), .s (.mv 8 (.t 0)), .s (.call (some 9) 83 [(.t 8), (.k (.v (.c (.int .i64 12))))]), .s (.bin 10 .lss (.t 7) (.t 9))]) (.cond (.t 10) (.skip) (.exit 0))) (.seq (.blk 1 (.rgd [0] [.s (.fa 13 (.t 3) 0), .s (.load 14 false 1 (.t 13)), .s (.mv 15 (.t 0)), .s (.call (some 16) 83 [(.t 15), (.k (.v (.c (.int .i64 24))))]), .s (.mv 17 (.t 0)), .s (.call (some 18) 104 [(.t 17)]), .s (.ia 19 .word (.t 14) (.t 16)), .s (.store 6 (.t 19) (.t 18))] (.tk 0 (.tk 1 (.tk 2 (.tk 4 (.one 3 false (.one 5 false (.tk 6 (.one 7 true (.done none))))))))))) (.reg [.s (.mv 11 (.t 4)), .s (.bin 12 .add (.t 11) (.k (.v (.c (.int .i64 1))))), .s (.mv 4 (.t 12))]))
def lb_spec_l8DrawRight_1 : PC := .seq (.seq (.reg [.s (.mv 20 (.t 5)), .s (.mv 21 (.t 0)), .s (.call (some 22) 83 [(.t 21), (.k (.v (.c (.int .i64 4))))]), .s (.bin 23 .lss (.t 20) (.t 22))]) (.cond (.t 23) (.skip) (.exit 2))) (.seq (.blk 3 (.rgd [0] [.s (.fa 26 (.t 3) 1), .s (.load 27 false 1 (.t 26)), .s (.mv 28 (.t 0)), .s (.call (some 29) 83 [(.t 28), (.k (.v (.c (.int .i64 24))))]), .s (.ia 30 .bool (.t 27) (.t 29)), .s (.store 1 (.t 30) (.k (.v (.c .tt))))] (.tk 0 (.tk 1 (.tk 2 (.one 3 false (.tk 4 (.one 5 true (.done none))))))))) (.reg [.s (.mv 24 (.t 5)), .s (.bin 25 .add (.t 24) (.k (.v (.c (.int .i64 1))))), .s (.mv 5 (.t 25))]))
def pf_spec_l8DrawRight : PF := ⟨[.c 2 true 2], .seq (.reg [.s (.alloc 2 [.nils .word, .nils .bool])]) (.seq (.reg [.s (.call (some 6) 111 []), .s (.alloc 3 [.nils .word, .nils .bool]), .s (.store 2 (.t 3) (.t 6))]) (.seq (.seq (.reg [.s (.mv 4 (.k (.v (.c (.int .i64 0)))))]) (.blk 0 (.loop [0, 2, 3, 4] lb_spec_l8DrawRight_0))) (.seq (.seq (.reg [.s (.mv 5 (.k (.v (.c (.int .i64 0)))))]) (.blk 2 (.loop [0, 2, 3, 5] lb_spec_l8DrawRight_1))) (.seq (.reg [.s (.load 31 true 2 (.t 3)), .s (.store 2 (.t 2) (.t 31))]) (.ret)))))⟩
def c_spec_l8DrawRight : Fun := ⟨125, [true], fun ts K => as1 ts fun t0 => arQ pCurT t0 fun c => chk (CurOk c) (∀ (m : Mem) (d : Cur), (memoryOk m = true ∧ CurOk d) → K (tG (m.tc true [])) ([curOut d]))⟩
theorem run_spec_l8DrawRight (c : Cur) (hpre : CurOk c) {K : Tree → List Tree → Prop} (hK : ∀ (m : Mem) (d : Cur), (memoryOk m = true ∧ CurOk d) → K (tG (m.tc true [])) ([curOut d])) : runK [c_spec_l1Below, c_spec_l3DrawRight, c_spec_MemoryNew] (20) [true] pf_spec_l8DrawRight [.v (.ptr true 0 (c.tc []))] K := by
  conv => whnf
  refine loop (α := Nat × Cur × Mem) (fun q => ⟨[(0, .v (.c (.ptr 0 0))), (2, .v (.c (.ptr 2 0))), (3, .v (.c (.ptr 3 0))), (4, .v (.c (.int .i64 (q.1 : Int))))],
        [(5, some (.flat true .bool none q.2.2.gone)), (4, some (.flat true .word none q.2.2.words)), (3, some (.box true [.sl false .word 4, .sl false .bool 5])), (2, some (.box true [.nils .word, .nils .bool])), (1, some (.flat false (.int .u8) none q.2.1.b)), (0, some (.box true (cuC q.2.1 1)))], nums.tail.tail.tail.tail.tail.tail, [.v (.c (.ptr 0 0))], false, []⟩)
    (fun q => q.1 ≤ 12 ∧ CurOk q.2.1 ∧ memoryOk q.2.2 = true) (fun q => 12 - q.1) (fun q R hI hR => ?_) (0, c, memNew) _ ⟨by simp, hpre, memNew_ok⟩ (by simp)
  obtain ⟨i, e, m⟩ := q
  obtain ⟨hi, he, hm⟩ := hI
  dsimp only at hi he hm
  dsimp only
  have hl := memoryOk_iff.1 hm
  conv => whnf
  repeat' (first | (refine sel_i (fun h => ?_) (fun h => ?_) <;> conv => whnf) | (refine chk_c ?_ ?_ <;> conv => whnf) | (refine And.intro ?_ rfl) | (refine And.intro ?_ ?_ <;> conv => whnf) | (intro x y z d hd; (try have g1 := And.left hd); (try have g2 := And.right hd); (try have g3 := And.left (And.right hd)); (try have g4 := And.right (And.right hd)); conv => whnf) | (intro x y d hd; (try have g1 := And.left hd); (try have g2 := And.right hd); (try have g3 := And.left (And.right hd)); (try have g4 := And.right (And.right hd)); conv => whnf) | (intro x d hd; (try have g1 := And.left hd); (try have g2 := And.right hd); (try have g3 := And.left (And.right hd)); (try have g4 := And.right (And.right hd)); conv => whnf) | (intro d hd; (try have g1 := And.left hd); (try have g2 := And.right hd); (try have g3 := And.left (And.right hd)); (try have g4 := And.right (And.right hd)); conv => whnf))
  all_goals first
    | (refine ⟨?_⟩; exact he)
    | (refine ⟨?_⟩; exact hd.2)
    | (refine ⟨?_⟩; simp at *; omega)
    | (rw [wrap_id (n := (i : Int) + 1) (by omega) (by omega)]; exact hR (i + 1, _, ⟨_, _⟩) ⟨by simp at h ⊢; omega, by exact hd.2, memoryOk_setW hm hd.1⟩ (by simp at h ⊢; omega))
    | skip
  clear hR he hl hi
  refine loop (α := Nat × Cur × Mem) (fun q => ⟨[(0, .v (.c (.ptr 0 0))), (2, .v (.c (.ptr 2 0))), (3, .v (.c (.ptr 3 0))), (5, .v (.c (.int .i64 (q.1 : Int))))],
        [(5, some (.flat true .bool none q.2.2.gone)), (4, some (.flat true .word none q.2.2.words)), (3, some (.box true [.sl false .word 4, .sl false .bool 5])), (2, some (.box true [.nils .word, .nils .bool])), (1, some (.flat false (.int .u8) none q.2.1.b)), (0, some (.box true (cuC q.2.1 1)))], nums.tail.tail.tail.tail.tail.tail, [.v (.c (.ptr 0 0))], false, []⟩)
    (fun q => q.1 ≤ 12 ∧ CurOk q.2.1 ∧ memoryOk q.2.2 = true) (fun q => 12 - q.1) (fun q R hI hR => ?_) (0, d, m) _ ⟨by simp, hd.2, hm⟩ (by simp)
  obtain ⟨i, e, m⟩ := q
  obtain ⟨hi, he, hm⟩ := hI
  dsimp only at hi he hm
  dsimp only
  have hl := memoryOk_iff.1 hm
  conv => whnf
  repeat' (first | (refine sel_i (fun h => ?_) (fun h => ?_) <;> conv => whnf) | (refine chk_c ?_ ?_ <;> conv => whnf) | (refine And.intro ?_ rfl) | (refine And.intro ?_ ?_ <;> conv => whnf) | (intro x y z d hd; (try have g1 := And.left hd); (try have g2 := And.right hd); (try have g3 := And.left (And.right hd)); (try have g4 := And.right (And.right hd)); conv => whnf) | (intro x y d hd; (try have g1 := And.left hd); (try have g2 := And.right hd); (try have g3 := And.left (And.right hd)); (try have g4 := And.right (And.right hd)); conv => whnf) | (intro x d hd; (try have g1 := And.left hd); (try have g2 := And.right hd); (try have g3 := And.left (And.right hd)); (try have g4 := And.right (And.right hd)); conv => whnf) | (intro d hd; (try have g1 := And.left hd); (try have g2 := And.right hd); (try have g3 := And.left (And.right hd)); (try have g4 := And.right (And.right hd)); conv => whnf))
  all_goals first
    | (refine ⟨?_⟩; exact he)
    | (refine ⟨?_⟩; exact hd.2)
    | (refine ⟨?_⟩; simp at *; omega)
    | (rw [wrap_id (n := (i : Int) + 1) (by omega) (by omega)]; have h := of_decide_eq_true h; exact hR (i + 1, d, ⟨m.words, m.gone.set x.toNat true⟩) ⟨by dsimp only; omega, hd.2, memoryOk_setG hm⟩ (by dsimp only; omega))
    | (exact kMem (fun m hm => hK m _ hm) _ _ ⟨hm, hd.2⟩)
    | trace_state
theorem ok_spec_l8DrawRight : FunOk Try.prog c_spec_l8DrawRight := funOkR (E := [c_spec_l1Below, c_spec_l3DrawRight, c_spec_MemoryNew]) (envOk_cons ok_spec_l1Below (envOk_cons ok_spec_l3DrawRight (envOk_cons ok_spec_MemoryNew (envOk_nil)))) mixd Try.func125 (pf := pf_spec_l8DrawRight) (by kernel_rfl) fun ts K h => by
  obtain ⟨t0, e0, h⟩ := as1_out h
  subst e0
  obtain ⟨c, e1, hq⟩ := arQ_out rd_cur h
  clear h
  subst e1
  have h := hq
  clear hq
  obtain ⟨hpre, h⟩ := chk_o h
  exact ⟨Nat.le_of_ble_eq_true (show Nat.ble 1 Try.f125.ntmps = true by kernel_rfl), _, run_spec_l8DrawRight c hpre h⟩

def pf_spec_l8Draw : PF := ⟨[.c 2 true 2], .seq (.reg [.s (.alloc 2 [.nils .word, .nils .bool])]) (.seq (.reg [.s (.mv 4 (.t 0)), .s (.call (some 5) 125 [(.t 4)]), .s (.alloc 3 [.nils .word, .nils .bool]), .s (.store 2 (.t 3) (.t 5))]) (.seq (.seq (.reg [.s (.mv 6 (.t 0)), .s (.call (some 7) 83 [(.t 6), (.k (.v (.c (.int .i64 15))))])]) (.blk 0 (.seq (.reg [.s (.bin 9 .eql (.t 7) (.k (.v (.c (.int .i64 0))))), .s (.mv 8 (.t 9))]) (.cond (.t 8) (.reg [.s (.fa 10 (.t 3) 0), .s (.load 11 false 1 (.t 10)), .s (.slc 12 .word (.t 11) (some (.k (.v (.c (.int .i64 1))))) none), .s (.fa 13 (.t 3) 0), .s (.store 1 (.t 13) (.t 12))]) (.seq (.reg [.s (.bin 15 .eql (.t 7) (.k (.v (.c (.int .i64 1))))), .s (.mv 14 (.t 15))]) (.cond (.t 14) (.rgd [0] [.s (.fa 16 (.t 3) 0), .s (.load 17 false 1 (.t 16)), .s (.mv 18 (.t 0)), .s (.call (some 19) 83 [(.t 18), (.k (.v (.c (.int .i64 24))))]), .s (.mv 20 (.t 0)), .s (.call (some 21) 84 [(.t 20)]), .s (.ia 22 .word (.t 17) (.t 19)), .s (.store 6 (.t 22) (.t 21))] (.tk 0 (.tk 1 (.tk 2 (.tk 4 (.one 3 false (.one 5 false (.tk 6 (.one 7 true (.done none)))))))))) (.seq (.reg [.s (.bin 24 .eql (.t 7) (.k (.v (.c (.int .i64 2))))), .s (.mv 23 (.t 24))]) (.cond (.t 23) (.reg [.s (.fa 25 (.t 3) 1), .s (.store 1 (.t 25) (.k (.v (.c (.nils .bool)))))]) (.skip))))))))) (.seq (.reg [.s (.load 26 true 2 (.t 3)), .s (.store 2 (.t 2) (.t 26))]) (.ret))))⟩
def c_spec_l8Draw : Fun := ⟨82, [true], fun ts K => as1 ts fun t0 => arQ pCurT t0 fun c => chk (CurOk c) (∀ (m : Mem) (d : Cur), (LMem m 24 ∧ CurOk d) → K (tG (m.tc true [])) ([curOut d]))⟩
theorem run_spec_l8Draw (c : Cur) (hpre : CurOk c) {K : Tree → List Tree → Prop} (hK : ∀ (m : Mem) (d : Cur), (LMem m 24 ∧ CurOk d) → K (tG (m.tc true [])) ([curOut d])) : runK [c_spec_l1Below, c_spec_l3Draw, c_spec_l8DrawRight] (0) [true] pf_spec_l8Draw [.v (.ptr true 0 (c.tc []))] K := by
  conv => whnf
  repeat' (first | (refine sel_i (fun h => ?_) (fun h => ?_) <;> conv => whnf) | (refine chk_c ?_ ?_ <;> conv => whnf) | (refine And.intro ?_ rfl) | (refine And.intro ?_ ?_ <;> conv => whnf) | (intro x y z d hd; (try have g1 := And.left hd); (try have g2 := And.right hd); (try have g3 := And.left (And.right hd)); (try have g4 := And.right (And.right hd)); conv => whnf) | (intro x y d hd; (try have g1 := And.left hd); (try have g2 := And.right hd); (try have g3 := And.left (And.right hd)); (try have g4 := And.right (And.right hd)); conv => whnf) | (intro x d hd; (try have g1 := And.left hd); (try have g2 := And.right hd); (try have g3 := And.left (And.right hd)); (try have g4 := And.right (And.right hd)); conv => whnf) | (intro d hd; (try have g1 := And.left hd); (try have g2 := And.right hd); (try have g3 := And.left (And.right hd)); (try have g4 := And.right (And.right hd)); conv => whnf))
  all_goals first
    | (refine ⟨?_⟩; exact hd)
    | (refine ⟨?_⟩; exact hd.2)
    | (refine ⟨?_⟩; exact hd.2.2)
    | (refine ⟨?_⟩; exact hpre)
    | (refine ⟨?_⟩; exact ⟨hd, by simp⟩)
    | (refine ⟨?_⟩; exact ⟨hd.2, by simp⟩)
    | (refine ⟨?_⟩; decide)
    | (refine ⟨?_⟩; rfl)
    | (refine ⟨?_⟩; have := memoryOk_iff.1 (by assumption); simp at *; omega)
    | (exact kMem (fun m hm => hK m _ hm) _ _ ⟨lMem_of (by assumption), hd.2⟩)
    | (have hl := lMem_of (by assumption); exact kMem (fun m hm => hK m _ hm) _ _ ⟨⟨hl.1, Nat.zero_le _⟩, hd.2⟩)
    | (have hl := memoryOk_iff.1 (by assumption); exact kMem (fun m hm => hK m _ hm) _ _ ⟨⟨by simp [win]; omega, by dsimp only; omega⟩, hd.2⟩)
    | (have hl := memoryOk_iff.1 (by assumption); exact kMem (fun m hm => hK m _ hm) _ _ ⟨⟨by simp; omega, by dsimp only; omega⟩, hd⟩)
    | trace_state
theorem ok_spec_l8Draw : FunOk Try.prog c_spec_l8Draw := funOkR (E := [c_spec_l1Below, c_spec_l3Draw, c_spec_l8DrawRight]) (envOk_cons ok_spec_l1Below (envOk_cons ok_spec_l3Draw (envOk_cons ok_spec_l8DrawRight (envOk_nil)))) mixd Try.func82 (pf := pf_spec_l8Draw) (by kernel_rfl) fun ts K h => by
  obtain ⟨t0, e0, h⟩ := as1_out h
  subst e0
  obtain ⟨c, e1, hq⟩ := arQ_out rd_cur h
  clear h
  subst e1
  have h := hq
  clear hq
  obtain ⟨hpre, h⟩ := chk_o h
  exact ⟨Nat.le_of_ble_eq_true (show Nat.ble 1 Try.f82.ntmps = true by kernel_rfl), _, run_spec_l8Draw c hpre h⟩

theorem stateOk_setR {s : State} (h : stateOk s = true) {i : Nat} {w : Word} (hw : wordOk w = true) {m : Mem} (hm : memoryOk m = true) : stateOk ⟨s.regs.set i w, s.pc, m, s.trap⟩ = true := by
  obtain ⟨r1, r2, r3, r4, r5, r6⟩ := stateOk_iff.1 h
  refine stateOk_iff.2 ⟨by simp [r1], fun v hv => ?_, r3, hm, r5, r6⟩
  rcases mem_set hv with q | q
  · exact r2 v q
  · rw [q]; exact hw
theorem snN : stateNew.regs.length = 8 := rfl

def lb_spec_l9DrawState_0 : PC := .seq (.seq (.reg [.s (.mv 27 (.t 7)), .s (.mv 28 (.t 6)), .s (.bin 29 .lss (.t 27) (.t 28))]) (.cond (.t 29) (.skip) (.exit 0))) (.seq (.blk 1 (.seq (.reg [.s (.mv 32 (.t 4)), .s (.load 33 true 10 (.t 5)), .s (.call (some 34) 169 [(.t 32), (.t 33)]), .s (.alloc 8 [.nils .word, .int .i64 0, .ff, .int .i64 0, .int .i64 0, .int .i64 0, .int .i64 0, .nils .word, .nils .bool, .int .i64 0]), .s (.store 10 (.t 8) (.t 34))]) (.seq (.reg [.s (.fa 35 (.t 8) 9), .s (.load 36 false 1 (.t 35)), .s (.bin 37 .eql (.t 36) (.k (.v (.c (.int .i64 0)))))]) (.cond (.t 37) (.reg [.s (.load 38 true 10 (.t 8)), .s (.store 10 (.t 5) (.t 38))]) (.skip))))) (.reg [.s (.mv 30 (.t 7)), .s (.bin 31 .add (.t 30) (.k (.v (.c (.int .i64 1))))), .s (.mv 7 (.t 31))]))
def pf_spec_l9DrawState : PF := ⟨[.t 2, .c 3 true 10], .seq (.reg [.s (.mv 2 (.k (.v (.c (.nils .inst))))), .s (.alloc 3 [.nils .word, .int .i64 0, .ff, .int .i64 0, .int .i64 0, .int .i64 0, .int .i64 0, .nils .word, .nils .bool, .int .i64 0])]) (.seq (.reg [.s (.mv 9 (.t 0)), .s (.call (some 10) 167 [(.t 9)]), .s (.mv 4 (.t 10))]) (.seq (.reg [.s (.call (some 11) 168 []), .s (.alloc 5 [.nils .word, .int .i64 0, .ff, .int .i64 0, .int .i64 0, .int .i64 0, .int .i64 0, .nils .word, .nils .bool, .int .i64 0]), .s (.store 10 (.t 5) (.t 11))]) (.seq (.seq (.reg [.s (.mv 12 (.t 0)), .s (.call (some 13) 163 [(.t 12), (.k (.v (.c (.int .i64 2))))])]) (.cond (.t 13) (.seq (.reg [.s (.mv 14 (.t 0)), .s (.call (some 15) 125 [(.t 14)]), .s (.fa 16 (.t 5) 7), .s (.store 2 (.t 16) (.t 15))]) (.rgd [0] [.s (.fa 17 (.t 5) 0), .s (.load 18 false 1 (.t 17)), .s (.mv 19 (.t 0)), .s (.call (some 20) 83 [(.t 19), (.k (.v (.c (.int .i64 4))))]), .s (.bin 21 .add (.k (.v (.c (.int .i64 1)))) (.t 20)), .s (.mv 22 (.t 0)), .s (.call (some 23) 104 [(.t 22)]), .s (.ia 24 .word (.t 18) (.t 21)), .s (.store 6 (.t 24) (.t 23))] (.tk 0 (.tk 1 (.tk 2 (.tk 5 (.one 3 false (.tk 4 (.one 6 false (.tk 7 (.one 8 true (.done none)))))))))))) (.skip))) (.seq (.reg [.s (.mv 25 (.t 0)), .s (.call (some 26) 83 [(.t 25), (.k (.v (.c (.int .i64 10))))]), .s (.mv 6 (.t 26))]) (.seq (.seq (.reg [.s (.mv 7 (.k (.v (.c (.int .i64 0)))))]) (.blk 0 (.loop [3, 4, 5, 6, 7] lb_spec_l9DrawState_0))) (.seq (.rgd [] [.s (.mv 39 (.t 4)), .s (.load 40 true 10 (.t 5)), .s (.mv 2 (.t 39)), .s (.store 10 (.t 3) (.t 40))] (.tk 0 (.tk 1 (.tk 2 (.one 3 true (.done none)))))) (.ret)))))))⟩
def c_spec_l9DrawState : Fun := ⟨109, [true], fun ts K => as1 ts fun t0 => arQ pCurT t0 fun c => chk (CurOk c) (∀ (l : List Inst) (s : State) (d : Cur), ((l.length ≤ 20 ∧ 1 ≤ l.length) ∧ stateOk s = true ∧ CurOk d) → K (.tup [.c (tl true .inst l), .g (s.tc true [])]) ([curOut d]))⟩
theorem run_spec_l9DrawState (c : Cur) (hpre : CurOk c) {K : Tree → List Tree → Prop} (hK : ∀ (l : List Inst) (s : State) (d : Cur), ((l.length ≤ 20 ∧ 1 ≤ l.length) ∧ stateOk s = true ∧ CurOk d) → K (.tup [.c (tl true .inst l), .g (s.tc true [])]) ([curOut d])) : runK [c_spec_l1Below, c_spec_l3DrawRight, c_spec_l8DrawRight, c_spec_l1Once, c_spec_l6DrawCode, c_spec_StateNew, c_spec_Step] (12) [true] pf_spec_l9DrawState [.v (.ptr true 0 (c.tc []))] K := by
  conv => whnf
  repeat' (first | (refine sel_i (fun h => ?_) (fun h => ?_) <;> conv => whnf) | (refine chk_c ?_ ?_ <;> conv => whnf) | (refine And.intro ?_ rfl) | (refine And.intro ?_ ?_ <;> conv => whnf) | (intro x y z d hd; (try have g1 := And.left hd); (try have g2 := And.right hd); (try have g3 := And.left (And.right hd)); (try have g4 := And.right (And.right hd)); conv => whnf) | (intro x y d hd; (try have g1 := And.left hd); (try have g2 := And.right hd); (try have g3 := And.left (And.right hd)); (try have g4 := And.right (And.right hd)); conv => whnf) | (intro x d hd; (try have g1 := And.left hd); (try have g2 := And.right hd); (try have g3 := And.left (And.right hd)); (try have g4 := And.right (And.right hd)); conv => whnf) | (intro d hd; (try have g1 := And.left hd); (try have g2 := And.right hd); (try have g3 := And.left (And.right hd)); (try have g4 := And.right (And.right hd)); conv => whnf))
  all_goals first
    | (refine ⟨?_⟩; exact hd)
    | (refine ⟨?_⟩; exact hd.2)
    | (refine ⟨?_⟩; exact hpre)
    | (refine ⟨?_⟩; decide)
    | (refine ⟨?_⟩; rfl)
    | (refine ⟨?_⟩; exact hd.2.2)
    | (refine ⟨?_⟩; rw [snN, wrap_id (by omega) (by omega)]; omega)
    | skip
  all_goals (
    have hx := hd.1
    refine loop (α := Nat × State) (fun q => ⟨[(3, .v (.c (.ptr 2 0))), (4, .v (.c (.sl false .inst 3))), (5, .v (.c (.ptr 4 0))), (6, .v (.c (.int .i64 x))), (7, .v (.c (.int .i64 (q.1 : Int))))],
        [(7, some (.flat true .bool none q.2.mem.gone)), (6, some (.flat true .word none q.2.mem.words)), (5, some (.flat true .word none q.2.regs)), (4, some (.box true (stC q.2 5 6 7 []))), (3, some (.flat true .inst none _)), (2, some (.box true zSC)), (1, some (.flat false (.int .u8) none d.b)), (0, some (.box true (cuC d 1)))], nums.tail.tail.tail.tail.tail.tail.tail.tail, [.v (.c (.ptr 0 0))], false, []⟩)
      (fun q => (q.1 : Int) ≤ x ∧ stateOk q.2 = true) (fun q => 10 - q.1) (fun q R hI hR => ?_) (0, ⟨_, _, ⟨_, _⟩, _⟩) _ ⟨by simp; omega, by first | exact stateNew_ok | exact stateOk_setR stateNew_ok (by assumption) (by assumption)⟩ (by simp)
    obtain ⟨i, v⟩ := q
    obtain ⟨hi, hv⟩ := hI
    dsimp only at hi hv
    dsimp only
    have hlen := (stateOk_len hv).l
    conv => whnf
    repeat' (first | (refine sel_i (fun h => ?_) (fun h => ?_) <;> conv => whnf) | (refine chk_c ?_ ?_ <;> conv => whnf) | (refine And.intro ?_ rfl) | (refine And.intro ?_ ?_ <;> conv => whnf) | (intro x y z d hd; (try have g1 := And.left hd); (try have g2 := And.right hd); (try have g3 := And.left (And.right hd)); (try have g4 := And.right (And.right hd)); conv => whnf) | (intro x y d hd; (try have g1 := And.left hd); (try have g2 := And.right hd); (try have g3 := And.left (And.right hd)); (try have g4 := And.right (And.right hd)); conv => whnf) | (intro x d hd; (try have g1 := And.left hd); (try have g2 := And.right hd); (try have g3 := And.left (And.right hd)); (try have g4 := And.right (And.right hd)); conv => whnf) | (intro d hd; (try have g1 := And.left hd); (try have g2 := And.right hd); (try have g3 := And.left (And.right hd)); (try have g4 := And.right (And.right hd)); conv => whnf))
    all_goals (try simp only [etaKey, etaWord, etaMemory, etaState, decide_eq_true_eq, decide_eq_false_iff_not, beq_iff_eq] at *)
    all_goals first
      | (refine ⟨?_⟩; exact ⟨by omega, hlen⟩)
      | (rw [wrap_id (n := (i : Int) + 1) (by omega) (by omega)]; exact hR (i + 1, stepS _ v) ⟨by dsimp only; omega, stepS_ok hv⟩ (by dsimp only; omega))
      | (rw [wrap_id (n := (i : Int) + 1) (by omega) (by omega)]; exact hR (i + 1, v) ⟨by dsimp only; omega, hv⟩ (by dsimp only; omega))
      | (exact hK _ v d ⟨⟨by omega, by omega⟩, hv, hd.2⟩)
      | trace_state)
theorem ok_spec_l9DrawState : FunOk Try.prog c_spec_l9DrawState := funOkR (E := [c_spec_l1Below, c_spec_l3DrawRight, c_spec_l8DrawRight, c_spec_l1Once, c_spec_l6DrawCode, c_spec_StateNew, c_spec_Step]) (envOk_cons ok_spec_l1Below (envOk_cons ok_spec_l3DrawRight (envOk_cons ok_spec_l8DrawRight (envOk_cons ok_spec_l1Once (envOk_cons ok_spec_l6DrawCode (envOk_cons ok_spec_StateNew (envOk_cons ok_spec_Step (envOk_nil)))))))) mixd Try.func109 (pf := pf_spec_l9DrawState) (by kernel_rfl) fun ts K h => by
  obtain ⟨t0, e0, h⟩ := as1_out h
  subst e0
  obtain ⟨c, e1, hq⟩ := arQ_out rd_cur h
  clear h
  subst e1
  have h := hq
  clear hq
  obtain ⟨hpre, h⟩ := chk_o h
  exact ⟨Nat.le_of_ble_eq_true (show Nat.ble 1 Try.f109.ntmps = true by kernel_rfl), _, run_spec_l9DrawState c hpre h⟩

theorem U8s.app {a b : List Int} (ha : U8s a) (hb : U8s b) : U8s (a ++ b) := fun x hx => by
  rcases List.mem_append.1 hx with q | q
  · exact ha x q
  · exact hb x q
theorem U8s.put {a : List Int} (ha : U8s a) {i : Nat} {v : Int} (hv : 0 ≤ v ∧ v ≤ 255) : U8s (a.set i v) := fun x hx => by
  rcases mem_set hx with q | q
  · exact ha x q
  · rw [q]; exact hv
theorem wrap8 (n : Int) : 0 ≤ IntKind.u8.wrap n ∧ IntKind.u8.wrap n ≤ 255 := by
  show 0 ≤ n % 256 ∧ n % 256 ≤ 255
  omega
theorem kState {K : Tree → List Tree → Prop} {o : List Tree} {P : State → Prop} {l : List Inst} (hK : ∀ s : State, P s → K (.tup [.c (tl true .inst l), .g (s.tc true [])]) o) (a : List Word) (n : Int) (is : Bool) (e f g h : Int) (b : List Word) (c : List Bool) (t : Int) (hp : P ⟨a, ⟨n, is, ⟨e, f, g, h⟩⟩, ⟨b, c⟩, t⟩) :
    K (.tup [.c (.ow .inst l), .g [.ow .word a, .int .i64 n, .bool is, .int .i64 e, .int .i64 f, .int .i64 g, .int .i64 h, .ow .word b, .ow .bool c, .int .i64 t]]) o := hK ⟨a, ⟨n, is, ⟨e, f, g, h⟩⟩, ⟨b, c⟩, t⟩ hp

def pf_spec_l9Draw : PF := ⟨[.t 2, .c 3 true 10], .seq (.reg [.s (.mv 2 (.k (.v (.c (.nils .inst))))), .s (.alloc 3 [.nils .word, .int .i64 0, .ff, .int .i64 0, .int .i64 0, .int .i64 0, .int .i64 0, .nils .word, .nils .bool, .int .i64 0])]) (.seq (.reg [.s (.mv 7 (.t 0)), .s (.call (some 8) 109 [(.t 7)]), .s (.mv 6 (.t 8)), .s (.ext 9 (.t 6) 0), .s (.ext 10 (.t 6) 1), .s (.alloc 5 [.nils .word, .int .i64 0, .ff, .int .i64 0, .int .i64 0, .int .i64 0, .int .i64 0, .nils .word, .nils .bool, .int .i64 0]), .s (.mv 4 (.t 9)), .s (.store 10 (.t 5) (.t 10))]) (.seq (.seq (.reg [.s (.mv 11 (.t 0)), .s (.call (some 12) 83 [(.t 11), (.k (.v (.c (.int .i64 15))))])]) (.blk 0 (.seq (.reg [.s (.bin 14 .eql (.t 12) (.k (.v (.c (.int .i64 0))))), .s (.mv 13 (.t 14))]) (.cond (.t 13) (.rgd [0] [.s (.fa 15 (.t 5) 0), .s (.load 16 false 1 (.t 15)), .s (.mv 17 (.t 0)), .s (.call (some 18) 83 [(.t 17), (.k (.v (.c (.int .i64 8))))]), .s (.mv 19 (.t 0)), .s (.call (some 20) 84 [(.t 19)]), .s (.ia 21 .word (.t 16) (.t 18)), .s (.store 6 (.t 21) (.t 20))] (.tk 0 (.tk 1 (.tk 2 (.tk 4 (.one 3 false (.one 5 false (.tk 6 (.one 7 true (.done none)))))))))) (.seq (.reg [.s (.bin 23 .eql (.t 12) (.k (.v (.c (.int .i64 1))))), .s (.mv 22 (.t 23))]) (.cond (.t 22) (.reg [.s (.mv 24 (.t 0)), .s (.call (some 25) 84 [(.t 24)]), .s (.fa 26 (.t 5) 1), .s (.store 6 (.t 26) (.t 25))]) (.seq (.reg [.s (.bin 28 .eql (.t 12) (.k (.v (.c (.int .i64 2))))), .s (.mv 27 (.t 28))]) (.cond (.t 27) (.reg [.s (.mv 29 (.t 0)), .s (.call (some 30) 82 [(.t 29)]), .s (.fa 31 (.t 5) 7), .s (.store 2 (.t 31) (.t 30))]) (.seq (.reg [.s (.bin 33 .eql (.t 12) (.k (.v (.c (.int .i64 3))))), .s (.mv 32 (.t 33))]) (.cond (.t 32) (.reg [.s (.mv 34 (.t 0)), .s (.call (some 35) 83 [(.t 34), (.k (.v (.c (.int .i64 8))))]), .s (.bin 36 .sub (.t 35) (.k (.v (.c (.int .i64 1))))), .s (.fa 37 (.t 5) 9), .s (.store 1 (.t 37) (.t 36))]) (.seq (.reg [.s (.bin 39 .eql (.t 12) (.k (.v (.c (.int .i64 4))))), .s (.mv 38 (.t 39))]) (.cond (.t 38) (.reg [.s (.fa 40 (.t 5) 0), .s (.load 41 false 1 (.t 40)), .s (.slc 42 .word (.t 41) (some (.k (.v (.c (.int .i64 1))))) none), .s (.fa 43 (.t 5) 0), .s (.store 1 (.t 43) (.t 42))]) (.seq (.reg [.s (.bin 45 .eql (.t 12) (.k (.v (.c (.int .i64 5))))), .s (.mv 44 (.t 45))]) (.cond (.t 44) (.rgd [0] [.s (.mv 46 (.t 4)), .s (.mv 47 (.t 0)), .s (.mv 48 (.t 4)), .s (.len 49 false (.t 48)), .s (.call (some 50) 83 [(.t 47), (.t 49)]), .s (.mv 51 (.t 0)), .s (.mv 52 (.t 4)), .s (.ia 53 .inst (.t 52) (.k (.v (.c (.int .i64 0))))), .s (.load 54 true 5 (.t 53)), .s (.call (some 55) 166 [(.t 51), (.t 54)]), .s (.ia 56 .inst (.t 46) (.t 50)), .s (.store 5 (.t 56) (.t 55))] (.tk 0 (.tk 1 (.tk 2 (.tk 3 (.tk 5 (.tk 6 (.tk 7 (.tk 8 (.one 4 false (.one 9 true (.tk 10 (.one 11 true (.done none)))))))))))))) (.skip))))))))))))))) (.seq (.rgd [] [.s (.mv 57 (.t 4)), .s (.load 58 true 10 (.t 5)), .s (.mv 2 (.t 57)), .s (.store 10 (.t 3) (.t 58))] (.tk 0 (.tk 1 (.tk 2 (.one 3 true (.done none)))))) (.ret))))⟩
def c_spec_l9Draw : Fun := ⟨108, [true], fun ts K => as1 ts fun t0 => arQ pCurT t0 fun c => chk (CurOk c) (∀ (l : List Inst) (s : State) (d : Cur), ((l.length ≤ 20 ∧ LState s 24) ∧ CurOk d) → K (.tup [.c (tl true .inst l), .g (s.tc true [])]) ([curOut d]))⟩
theorem run_spec_l9Draw (c : Cur) (hpre : CurOk c) {K : Tree → List Tree → Prop} (hK : ∀ (l : List Inst) (s : State) (d : Cur), ((l.length ≤ 20 ∧ LState s 24) ∧ CurOk d) → K (.tup [.c (tl true .inst l), .g (s.tc true [])]) ([curOut d])) : runK [c_spec_l8Draw, c_spec_l1Below, c_spec_l3Draw, c_spec_l9DrawState, c_spec_l6Spoil] (0) [true] pf_spec_l9Draw [.v (.ptr true 0 (c.tc []))] K := by
  conv => whnf
  repeat' (first | (refine sel_i (fun h => ?_) (fun h => ?_) <;> conv => whnf) | (refine chk_c ?_ ?_ <;> conv => whnf) | (refine And.intro ?_ rfl) | (refine And.intro ?_ ?_ <;> conv => whnf) | (intro x y z d hd; (try have g1 := And.left hd); (try have g2 := And.right hd); (try have g3 := And.left (And.right hd)); (try have g4 := And.right (And.right hd)); conv => whnf) | (intro x y d hd; (try have g1 := And.left hd); (try have g2 := And.right hd); (try have g3 := And.left (And.right hd)); (try have g4 := And.right (And.right hd)); conv => whnf) | (intro x d hd; (try have g1 := And.left hd); (try have g2 := And.right hd); (try have g3 := And.left (And.right hd)); (try have g4 := And.right (And.right hd)); conv => whnf) | (intro d hd; (try have g1 := And.left hd); (try have g2 := And.right hd); (try have g3 := And.left (And.right hd)); (try have g4 := And.right (And.right hd)); conv => whnf))
  all_goals first
    | (refine ⟨?_⟩; exact hd)
    | (refine ⟨?_⟩; exact hd.2)
    | (refine ⟨?_⟩; exact hd.2.2)
    | (refine ⟨?_⟩; exact hpre)
    | (refine ⟨?_⟩; exact ⟨hd, by simp⟩)
    | (refine ⟨?_⟩; exact ⟨hd.2, by simp⟩)
    | (refine ⟨?_⟩; exact ⟨hd.2.2, by simp⟩)
    | (refine ⟨?_⟩; decide)
    | (refine ⟨?_⟩; rfl)
    | (refine ⟨?_⟩; obtain ⟨hl1, hl2, hl3⟩ := stateOk_len (s := y) (by assumption); omega)
    | (have hm : LMem x 24 := (by assumption); obtain ⟨hl1, hl2, hl3⟩ := stateOk_len (s := y) (by assumption); refine kState (fun s hs => hK _ s _ hs) _ _ _ _ _ _ _ _ _ _ ⟨⟨?_, ?_, ?_, ?_⟩, ?_⟩ <;> first | exact hm.1 | exact hm.2 | exact hd | exact hd.2 | exact hd.2.2 | omega | (simp; omega))
    | (obtain ⟨hl1, hl2, hl3⟩ := stateOk_len (s := y) (by assumption); exact kState (fun s hs => hK _ s _ hs) _ _ _ _ _ _ _ _ _ _ ⟨⟨by first | omega | (simp; omega), by refine ⟨?_, ?_, ?_⟩ <;> first | omega | (simp; omega) | (simp [win]; omega)⟩, by first | exact hd | exact hd.2 | exact hd.2.2⟩)
    | trace_state
theorem ok_spec_l9Draw : FunOk Try.prog c_spec_l9Draw := funOkR (E := [c_spec_l8Draw, c_spec_l1Below, c_spec_l3Draw, c_spec_l9DrawState, c_spec_l6Spoil]) (envOk_cons ok_spec_l8Draw (envOk_cons ok_spec_l1Below (envOk_cons ok_spec_l3Draw (envOk_cons ok_spec_l9DrawState (envOk_cons ok_spec_l6Spoil (envOk_nil)))))) mixd Try.func108 (pf := pf_spec_l9Draw) (by kernel_rfl) fun ts K h => by
  obtain ⟨t0, e0, h⟩ := as1_out h
  subst e0
  obtain ⟨c, e1, hq⟩ := arQ_out rd_cur h
  clear h
  subst e1
  have h := hq
  clear hq
  obtain ⟨hpre, h⟩ := chk_o h
  exact ⟨Nat.le_of_ble_eq_true (show Nat.ble 1 Try.f108.ntmps = true by kernel_rfl), _, run_spec_l9Draw c hpre h⟩

def pf_spec_l24Dent : PF := ⟨[.t 4], .seq (.reg [.s (.mv 4 (.k (.v (.c (.nils (.int .u8))))))]) (.seq (.seq (.reg [.s (.mv 5 (.t 0)), .s (.call (some 6) 83 [(.t 5), (.k (.v (.c (.int .i64 6))))])]) (.blk 0 (.seq (.reg [.s (.bin 8 .eql (.t 6) (.k (.v (.c (.int .i64 0))))), .s (.mv 7 (.t 8))]) (.cond (.t 7) (.seq (.reg [.s (.mv 9 (.t 1)), .s (.mv 10 (.t 0)), .s (.mv 11 (.t 1)), .s (.len 12 false (.t 11)), .s (.bin 13 .add (.t 12) (.k (.v (.c (.int .i64 1))))), .s (.call (some 14) 83 [(.t 10), (.t 13)]), .s (.slc 15 (.int .u8) (.t 9) none (some (.t 14))), .s (.mv 4 (.t 15))]) (.ret)) (.seq (.reg [.s (.bin 17 .eql (.t 6) (.k (.v (.c (.int .i64 1))))), .s (.mv 16 (.t 17))]) (.cond (.t 16) (.seq (.reg [.s (.mv 18 (.t 1)), .s (.bs 19 (.int .u8) [(.k (.v (.c (.int .u8 0))))]), .s (.app 20 (.int .u8) (.t 18) (.t 19)), .s (.mv 4 (.t 20))]) (.ret)) (.seq (.reg [.s (.bin 22 .eql (.t 6) (.k (.v (.c (.int .i64 2))))), .s (.mv 21 (.t 22))]) (.cond (.t 21) (.seq (.reg [.s (.mv 23 (.t 1)), .s (.len 24 false (.t 23)), .s (.bin 25 .gtr (.t 24) (.k (.v (.c (.int .i64 0)))))]) (.cond (.t 25) (.reg [.s (.mv 26 (.t 1)), .s (.mv 27 (.t 0)), .s (.mv 28 (.t 1)), .s (.len 29 false (.t 28)), .s (.call (some 30) 83 [(.t 27), (.t 29)]), .s (.mv 31 (.t 0)), .s (.bs 32 (.int .i64) [(.k (.v (.c (.int .i64 0)))), (.k (.v (.c (.int .i64 1)))), (.k (.v (.c (.int .i64 2)))), (.k (.v (.c (.int .i64 64)))), (.k (.v (.c (.int .i64 255))))]), .s (.call (some 33) 106 [(.t 31), (.t 32)]), .s (.conv 34 .u8 (.t 33)), .s (.ia 35 (.int .u8) (.t 26) (.t 30)), .s (.store 1 (.t 35) (.t 34))]) (.skip))) (.skip))))))))) (.seq (.reg [.s (.mv 36 (.t 1)), .s (.mv 4 (.t 36))]) (.ret)))⟩
def c_spec_l24Dent : Fun := ⟨105, [true, true], fun ts K => as2 ts fun t0 t1 => arQ pCurT t0 fun c => arC (pO (.int .u8)) t1 fun b => chk (CurOk c ∧ b.length ≤ 1000 ∧ U8s b) (∀ (e : List Int) (d : Cur), ((e.length ≤ b.length + 1 ∧ U8s e) ∧ CurOk d) → K (tL true (.int .u8) e) ([curOut d, .v (.c .unk)]))⟩
theorem run_spec_l24Dent (c : Cur) (b : List (FT.Ty (.int .u8))) (hpre : CurOk c ∧ b.length ≤ 1000 ∧ U8s b) {K : Tree → List Tree → Prop} (hK : ∀ (e : List Int) (d : Cur), ((e.length ≤ b.length + 1 ∧ U8s e) ∧ CurOk d) → K (tL true (.int .u8) e) ([curOut d, .v (.c .unk)])) : runK [c_spec_l1Below, c_spec_l1PickInt] (0) [true, true] pf_spec_l24Dent [.v (.ptr true 0 (c.tc [])), tL true (.int .u8) b] K := by
  obtain ⟨hpre, hb1, hb2⟩ := hpre
  conv => whnf
  repeat' (first | (refine sel_i (fun h => ?_) (fun h => ?_) <;> conv => whnf) | (refine chk_c ?_ ?_ <;> conv => whnf) | (refine And.intro ?_ rfl) | (refine And.intro ?_ ?_ <;> conv => whnf) | (intro x y z d hd; (try have g1 := And.left hd); (try have g2 := And.right hd); (try have g3 := And.left (And.right hd)); (try have g4 := And.right (And.right hd)); conv => whnf) | (intro x y d hd; (try have g1 := And.left hd); (try have g2 := And.right hd); (try have g3 := And.left (And.right hd)); (try have g4 := And.right (And.right hd)); conv => whnf) | (intro x d hd; (try have g1 := And.left hd); (try have g2 := And.right hd); (try have g3 := And.left (And.right hd)); (try have g4 := And.right (And.right hd)); conv => whnf) | (intro d hd; (try have g1 := And.left hd); (try have g2 := And.right hd); (try have g3 := And.left (And.right hd)); (try have g4 := And.right (And.right hd)); conv => whnf))
  all_goals first
    | (refine ⟨?_⟩; exact hd)
    | (refine ⟨?_⟩; exact hd.2)
    | (refine ⟨?_⟩; exact hd.2.2)
    | (refine ⟨?_⟩; exact hpre)
    | (refine ⟨?_⟩; exact ⟨hd, by simp⟩)
    | (refine ⟨?_⟩; exact ⟨hd.2, by simp⟩)
    | (refine ⟨?_⟩; exact ⟨hd.2.2, by simp⟩)
    | (refine ⟨?_⟩; decide)
    | (refine ⟨?_⟩; rfl)
    | (refine ⟨?_⟩; rw [wrap_id (n := (b.length : Int) + 1) (by omega) (by omega)] at hd; omega)
    | (refine ⟨?_⟩; simp; omega)
    | (refine ⟨?_⟩; simp at h; omega)
    | (refine ⟨?_⟩; omega)
    | (exact hK _ d ⟨⟨by simp [win]; omega, hb2.win _ _⟩, by first | exact hd | exact hd.2⟩)
    | (exact hK _ d ⟨⟨by simp, hb2.app (fun v hv => by rw [List.mem_singleton.1 hv]; decide)⟩, by first | exact hd | exact hd.2⟩)
    | (exact hK _ d ⟨⟨by simp, hb2.put (wrap8 x)⟩, by first | exact hd | exact hd.2⟩)
    | (exact hK _ d ⟨⟨by omega, hb2⟩, by first | exact hd | exact hd.2⟩)
    | trace_state
theorem ok_spec_l24Dent : FunOk Try.prog c_spec_l24Dent := funOkR (E := [c_spec_l1Below, c_spec_l1PickInt]) (envOk_cons ok_spec_l1Below (envOk_cons ok_spec_l1PickInt (envOk_nil))) mixd Try.func105 (pf := pf_spec_l24Dent) (by kernel_rfl) fun ts K h => by
  obtain ⟨t0, t1, e0, h⟩ := as2_out h
  subst e0
  obtain ⟨c, e1, hq⟩ := arQ_out rd_cur h
  clear h
  subst e1
  have h := hq
  clear hq
  obtain ⟨b, e1, hq⟩ := arC_out (rd_o (.int .u8)) h
  clear h
  subst e1
  have h := hq
  clear hq
  obtain ⟨hpre, h⟩ := chk_o h
  exact ⟨Nat.le_of_ble_eq_true (show Nat.ble 2 Try.f105.ntmps = true by kernel_rfl), _, run_spec_l24Dent c b hpre h⟩

theorem eq_end {α : Type} [DecidableEq α] {xs ys : List α} {i : Nat} (hl : xs.length = ys.length) (h : xs.length ≤ i) (he : xs.take i = ys.take i) : decide (xs = ys) = true := by
  rw [List.take_of_length_le h, List.take_of_length_le (by omega)] at he
  exact decide_eq_true he
theorem eq_no {α : Type} [DecidableEq α] {xs ys : List α} {i : Nat} {z : α} (hne : ¬ xs.getD i z = ys.getD i z) : decide (xs = ys) = false :=
  decide_eq_false fun e => hne (by rw [e])
theorem eq_yes {α : Type} {xs ys : List α} {i : Nat} {z : α} (hl : xs.length = ys.length) (h : i < xs.length) (hq : xs.getD i z = ys.getD i z) (he : xs.take i = ys.take i) : xs.take (i + 1) = ys.take (i + 1) := by
  have h2 : i < ys.length := by omega
  rw [List.take_add_one, List.take_add_one, he, List.getElem?_eq_getElem h, List.getElem?_eq_getElem h2]
  rw [List.getD_eq_getElem?_getD, List.getD_eq_getElem?_getD, List.getElem?_eq_getElem h, List.getElem?_eq_getElem h2] at hq
  simp only [Option.getD_some] at hq
  rw [hq]
theorem len_ne {α : Type} [DecidableEq α] {xs ys : List α} (h : ((xs.length : Int) != (ys.length : Int)) = true) : decide (xs = ys) = false :=
  decide_eq_false fun e => by rw [e] at h; simp at h
theorem len_eq {α : Type} {xs ys : List α} (h : ((xs.length : Int) != (ys.length : Int)) = false) : xs.length = ys.length := by
  simp at h; omega
theorem eqWd {a b : Word} : (a.n == b.n && (a.is == b.is && (a.key.base == b.key.base && (a.key.top == b.key.top && (a.key.perms == b.key.perms && a.key.sealed == b.key.sealed))))) = decide (a = b) := by
  obtain ⟨a1, a2, a3, a4, a5, a6⟩ := a
  obtain ⟨b1, b2, b3, b4, b5, b6⟩ := b
  rw [Bool.eq_iff_iff]
  simp
theorem eqStE {s t : State} (h1 : s.regs = t.regs) (h2 : s.pc = t.pc) (h3 : s.mem = t.mem) : (s.trap == t.trap) = decide (s = t) := by
  obtain ⟨a1, a2, a3, a4⟩ := s
  obtain ⟨b1, b2, b3, b4⟩ := t
  dsimp only at h1 h2 h3
  rw [Bool.eq_iff_iff]; simp [h1, h2, h3]
theorem eqMm {s t : Mem} (h1 : s.words = t.words) (h2 : s.gone = t.gone) : s = t := by
  obtain ⟨a1, a2⟩ := s
  obtain ⟨b1, b2⟩ := t
  dsimp only at h1 h2
  rw [h1, h2]

def lb_slices_Equal_Word_0 : PC := .seq (.reg [.s (.bin 14 .lss (.t 13) (.t 12))]) (.seq (.cond (.t 14) (.skip) (.exit 0)) (.seq (.blk 1 (.seq (.reg [.s (.mv 15 (.t 13)), .s (.mv 5 (.t 15))]) (.seq (.rgd [] [.s (.mv 16 (.t 0)), .s (.mv 17 (.t 5)), .s (.ia 18 .word (.t 16) (.t 17)), .s (.load 19 true 6 (.t 18)), .s (.mv 20 (.t 1)), .s (.mv 21 (.t 5)), .s (.ia 22 .word (.t 20) (.t 21)), .s (.load 23 true 6 (.t 22)), .s (.eqs 24 true [.i, .b, .i, .i, .i, .i] true (.t 19) (.t 23))] (.tk 0 (.tk 1 (.tk 2 (.tk 3 (.tk 4 (.tk 5 (.tk 6 (.tk 7 (.tk 8 (.done none))))))))))) (.cond (.t 24) (.seq (.reg [.s (.mv 4 (.k (.v (.c .ff))))]) (.ret)) (.skip))))) (.reg [.s (.bin 25 .add (.t 13) (.k (.v (.c (.int .i64 1))))), .s (.mv 13 (.t 25))])))
def pf_slices_Equal_Word : PF := ⟨[.t 4], .seq (.reg [.s (.mv 4 (.k (.v (.c .ff))))]) (.seq (.seq (.reg [.s (.mv 6 (.t 0)), .s (.len 7 false (.t 6)), .s (.mv 8 (.t 1)), .s (.len 9 false (.t 8)), .s (.bin 10 .neq (.t 7) (.t 9))]) (.cond (.t 10) (.seq (.reg [.s (.mv 4 (.k (.v (.c .ff))))]) (.ret)) (.skip))) (.seq (.seq (.reg [.s (.mv 11 (.t 0)), .s (.len 12 false (.t 11)), .s (.mv 13 (.k (.v (.c (.int .i64 0)))))]) (.blk 0 (.loop [0, 1, 12, 13] lb_slices_Equal_Word_0))) (.seq (.reg [.s (.mv 4 (.k (.v (.c .tt))))]) (.ret))))⟩
def c_slices_Equal_Word : Fun := ⟨115, [], fun ts K => as2 ts fun t0 t1 => arC (pL .word) t0 fun a => arC (pL .word) t1 fun b => chk (a.length ≤ 2147483647 ∧ b.length ≤ 2147483647) (K (tB (decide (a = b))) [])⟩
theorem run_slices_Equal_Word (a : List (FT.Ty .word)) (b : List (FT.Ty .word)) (hpre : a.length ≤ 2147483647 ∧ b.length ≤ 2147483647) : runK [] (a.length + 1) [] pf_slices_Equal_Word [tL false .word a, tL false .word b] fun r o => r = tB (decide (a = b)) ∧ o = [] := by
  obtain ⟨l1, l2⟩ := hpre
  conv => whnf
  refine sel_i (fun h => ?_) (fun h => ?_) <;> conv => whnf
  · rw [len_ne h]; exact ⟨rfl, rfl⟩
  have hl := len_eq h
  clear h
  refine loop (α := Nat) (fun i => ⟨[(0, .v (.c (.sl false .word 0))), (1, .v (.c (.sl false .word 1))), (12, .v (.c (.int .i64 (a.length : Int)))), (13, .v (.c (.int .i64 (i : Int))))], [(1, some (.flat false .word none b)), (0, some (.flat false .word none a))], nums.tail.tail, [], false, []⟩)
      (fun i => i ≤ a.length ∧ a.take i = b.take i) (fun i => a.length - i) (fun i R hI hR => ?_) 0 _ ⟨by simp, by simp⟩ (by omega)
  obtain ⟨hi, hx⟩ := hI
  conv => whnf
  repeat' (first | (refine sel_i (fun h => ?_) (fun h => ?_) <;> conv => whnf) | (refine chk_c ?_ ?_ <;> conv => whnf) | (refine And.intro ?_ rfl) | (refine And.intro ?_ ?_ <;> conv => whnf))
  all_goals (try simp only [eqWd, etaKey, etaWord, Int.toNat_natCast, Bool.not_eq_true', Bool.not_eq_false', decide_eq_true_eq, decide_eq_false_iff_not] at *)
  all_goals first
    | (refine ⟨?_⟩; omega)
    | (rw [eq_no (z := FT.zero .word) (by assumption)]; done)
    | (rw [eq_end hl (by omega) hx]; done)
    | (rw [wrap_id (n := (i : Int) + 1) (by omega) (by omega)]; exact hR (i + 1) ⟨by omega, eq_yes (z := FT.zero .word) hl (by omega) (by assumption) hx⟩ (by omega))
    | trace_state
theorem ok_slices_Equal_Word : FunOk Try.prog c_slices_Equal_Word := funOk (E := []) (envOk_nil) mixd Try.func115 (pf := pf_slices_Equal_Word) (by kernel_rfl) fun ts K h => by
  obtain ⟨t0, t1, e0, h⟩ := as2_out h
  subst e0
  obtain ⟨a, e1, hq⟩ := arC_out (rd_l .word) h
  clear h
  subst e1
  have h := hq
  clear hq
  obtain ⟨b, e1, hq⟩ := arC_out (rd_l .word) h
  clear h
  subst e1
  have h := hq
  clear hq
  obtain ⟨hpre, h⟩ := chk_o h
  exact ⟨_, _, h, Nat.le_of_ble_eq_true (show Nat.ble 2 Try.f115.ntmps = true by kernel_rfl), _, run_slices_Equal_Word a b hpre⟩

def lb_slices_Equal_bool_0 : PC := .seq (.reg [.s (.bin 14 .lss (.t 13) (.t 12))]) (.seq (.cond (.t 14) (.skip) (.exit 0)) (.seq (.blk 1 (.seq (.reg [.s (.mv 15 (.t 13)), .s (.mv 5 (.t 15))]) (.seq (.rgd [] [.s (.mv 16 (.t 0)), .s (.mv 17 (.t 5)), .s (.ia 18 .bool (.t 16) (.t 17)), .s (.load 19 false 1 (.t 18)), .s (.mv 20 (.t 1)), .s (.mv 21 (.t 5)), .s (.ia 22 .bool (.t 20) (.t 21)), .s (.load 23 false 1 (.t 22)), .s (.eqs 24 false [.b] true (.t 19) (.t 23))] (.tk 0 (.tk 1 (.tk 2 (.tk 3 (.tk 4 (.tk 5 (.tk 6 (.tk 7 (.tk 8 (.done none))))))))))) (.cond (.t 24) (.seq (.reg [.s (.mv 4 (.k (.v (.c .ff))))]) (.ret)) (.skip))))) (.reg [.s (.bin 25 .add (.t 13) (.k (.v (.c (.int .i64 1))))), .s (.mv 13 (.t 25))])))
def pf_slices_Equal_bool : PF := ⟨[.t 4], .seq (.reg [.s (.mv 4 (.k (.v (.c .ff))))]) (.seq (.seq (.reg [.s (.mv 6 (.t 0)), .s (.len 7 false (.t 6)), .s (.mv 8 (.t 1)), .s (.len 9 false (.t 8)), .s (.bin 10 .neq (.t 7) (.t 9))]) (.cond (.t 10) (.seq (.reg [.s (.mv 4 (.k (.v (.c .ff))))]) (.ret)) (.skip))) (.seq (.seq (.reg [.s (.mv 11 (.t 0)), .s (.len 12 false (.t 11)), .s (.mv 13 (.k (.v (.c (.int .i64 0)))))]) (.blk 0 (.loop [0, 1, 12, 13] lb_slices_Equal_bool_0))) (.seq (.reg [.s (.mv 4 (.k (.v (.c .tt))))]) (.ret))))⟩
def c_slices_Equal_bool : Fun := ⟨116, [], fun ts K => as2 ts fun t0 t1 => arC (pL .bool) t0 fun a => arC (pL .bool) t1 fun b => chk (a.length ≤ 2147483647 ∧ b.length ≤ 2147483647) (K (tB (decide (a = b))) [])⟩
theorem run_slices_Equal_bool (a : List (FT.Ty .bool)) (b : List (FT.Ty .bool)) (hpre : a.length ≤ 2147483647 ∧ b.length ≤ 2147483647) : runK [] (a.length + 1) [] pf_slices_Equal_bool [tL false .bool a, tL false .bool b] fun r o => r = tB (decide (a = b)) ∧ o = [] := by
  obtain ⟨l1, l2⟩ := hpre
  conv => whnf
  refine sel_i (fun h => ?_) (fun h => ?_) <;> conv => whnf
  · rw [len_ne h]; exact ⟨rfl, rfl⟩
  have hl := len_eq h
  clear h
  refine loop (α := Nat) (fun i => ⟨[(0, .v (.c (.sl false .bool 0))), (1, .v (.c (.sl false .bool 1))), (12, .v (.c (.int .i64 (a.length : Int)))), (13, .v (.c (.int .i64 (i : Int))))], [(1, some (.flat false .bool none b)), (0, some (.flat false .bool none a))], nums.tail.tail, [], false, []⟩)
      (fun i => i ≤ a.length ∧ a.take i = b.take i) (fun i => a.length - i) (fun i R hI hR => ?_) 0 _ ⟨by simp, by simp⟩ (by omega)
  obtain ⟨hi, hx⟩ := hI
  conv => whnf
  repeat' (first | (refine sel_i (fun h => ?_) (fun h => ?_) <;> conv => whnf) | (refine chk_c ?_ ?_ <;> conv => whnf) | (refine And.intro ?_ rfl) | (refine And.intro ?_ ?_ <;> conv => whnf))
  all_goals (try simp only [Int.toNat_natCast, Bool.not_eq_true', Bool.not_eq_false', decide_eq_true_eq, decide_eq_false_iff_not] at *)
  all_goals first
    | (refine ⟨?_⟩; omega)
    | (rw [eq_no (z := FT.zero .bool) (i := i) (by simpa using h)]; done)
    | (rw [eq_end hl (by omega) hx]; done)
    | (rw [wrap_id (n := (i : Int) + 1) (by omega) (by omega)]; exact hR (i + 1) ⟨by omega, eq_yes (z := FT.zero .bool) hl (by omega) (by simpa using h) hx⟩ (by omega))
    | trace_state
theorem ok_slices_Equal_bool : FunOk Try.prog c_slices_Equal_bool := funOk (E := []) (envOk_nil) mixd Try.func116 (pf := pf_slices_Equal_bool) (by kernel_rfl) fun ts K h => by
  obtain ⟨t0, t1, e0, h⟩ := as2_out h
  subst e0
  obtain ⟨a, e1, hq⟩ := arC_out (rd_l .bool) h
  clear h
  subst e1
  have h := hq
  clear hq
  obtain ⟨b, e1, hq⟩ := arC_out (rd_l .bool) h
  clear h
  subst e1
  have h := hq
  clear hq
  obtain ⟨hpre, h⟩ := chk_o h
  exact ⟨_, _, h, Nat.le_of_ble_eq_true (show Nat.ble 2 Try.f116.ntmps = true by kernel_rfl), _, run_slices_Equal_bool a b hpre⟩

def pf_impl_Alike : PF := ⟨[.t 4], .seq (.reg [.s (.box 2 (.t 0)), .s (.box 3 (.t 1)), .s (.mv 4 (.k (.v (.c .ff))))]) (.seq (.reg [.s (.fa 5 (.t 2) 0), .s (.load 6 false 1 (.t 5)), .s (.fa 7 (.t 3) 0), .s (.load 8 false 1 (.t 7)), .s (.call (some 9) 115 [(.t 6), (.t 8)]), .s (.mv 10 (.t 9)), .g 10 true (some 11) (.fa 11 (.t 2) 1), .g 10 true (some 12) (.load 12 true 6 (.t 11)), .g 10 true (some 13) (.fa 13 (.t 3) 1), .g 10 true (some 14) (.load 14 true 6 (.t 13)), .g 10 true (some 15) (.eqs 15 true [.i, .b, .i, .i, .i, .i] false (.t 12) (.t 14)), .s (.pick 16 (.t 10) (.t 15) (.k (.v (.c .ff)))), .s (.mv 17 (.t 16)), .g 17 true (some 18) (.fa 18 (.t 2) 7), .g 17 true (some 19) (.fa 19 (.t 18) 0), .g 17 true (some 20) (.load 20 false 1 (.t 19)), .g 17 true (some 21) (.fa 21 (.t 3) 7), .g 17 true (some 22) (.fa 22 (.t 21) 0), .g 17 true (some 23) (.load 23 false 1 (.t 22)), .g 17 true (some 24) (.call (some 24) 115 [(.t 20), (.t 23)]), .s (.pick 25 (.t 17) (.t 24) (.k (.v (.c .ff)))), .s (.mv 26 (.t 25)), .g 26 true (some 27) (.fa 27 (.t 2) 7), .g 26 true (some 28) (.fa 28 (.t 27) 1), .g 26 true (some 29) (.load 29 false 1 (.t 28)), .g 26 true (some 30) (.fa 30 (.t 3) 7), .g 26 true (some 31) (.fa 31 (.t 30) 1), .g 26 true (some 32) (.load 32 false 1 (.t 31)), .g 26 true (some 33) (.call (some 33) 116 [(.t 29), (.t 32)]), .s (.pick 34 (.t 26) (.t 33) (.k (.v (.c .ff)))), .s (.mv 35 (.t 34)), .g 35 true (some 36) (.fa 36 (.t 2) 9), .g 35 true (some 37) (.load 37 false 1 (.t 36)), .g 35 true (some 38) (.fa 38 (.t 3) 9), .g 35 true (some 39) (.load 39 false 1 (.t 38)), .g 35 true (some 40) (.bin 40 .eql (.t 37) (.t 39)), .s (.pick 41 (.t 35) (.t 40) (.k (.v (.c .ff)))), .s (.mv 4 (.t 41))]) (.ret))⟩
def c_impl_Alike : Fun := ⟨44, [], fun ts K => as2 ts fun t0 t1 => arG pStateT t0 fun s => arG pStateT t1 fun t => chk (LState s 2147483647 ∧ LState t 2147483647) (K (tB (decide (s = t))) [])⟩
theorem run_impl_Alike (s : State) (t : State) (hpre : LState s 2147483647 ∧ LState t 2147483647) : runK [c_slices_Equal_Word, c_slices_Equal_bool] (0) [] pf_impl_Alike [tG (s.tc false []), tG (t.tc false [])] fun r o => r = tB (decide (s = t)) ∧ o = [] := by
  obtain ⟨⟨l1, l2, l3⟩, l4, l5, l6⟩ := hpre
  conv => whnf
  repeat' (first | (refine sel_i (fun h => ?_) (fun h => ?_) <;> conv => whnf) | (refine chk_c ?_ ?_ <;> conv => whnf) | (refine And.intro ?_ rfl) | (refine And.intro ?_ ?_ <;> conv => whnf))
  all_goals (try simp only [eqWd, etaKey, etaWord, etaMemory, etaState, decide_eq_true_eq, decide_eq_false_iff_not] at *)
  all_goals first
    | (refine ⟨?_⟩; exact ⟨by assumption, by assumption⟩)
    | (rw [eqStE (by assumption) (by assumption) (eqMm (by assumption) (by assumption))]; done)
    | (obtain ⟨s1, ⟨s2, s3, ⟨s4, s5, s6, s7⟩⟩, ⟨s8, s9⟩, s10⟩ := s; obtain ⟨t1, ⟨t2, t3, ⟨t4, t5, t6, t7⟩⟩, ⟨t8, t9⟩, t10⟩ := t; simp_all; done)
    | trace_state
theorem ok_impl_Alike : FunOk Try.prog c_impl_Alike := funOk (E := [c_slices_Equal_Word, c_slices_Equal_bool]) (envOk_cons ok_slices_Equal_Word (envOk_cons ok_slices_Equal_bool (envOk_nil))) mixd Try.func44 (pf := pf_impl_Alike) (by kernel_rfl) fun ts K h => by
  obtain ⟨t0, t1, e0, h⟩ := as2_out h
  subst e0
  obtain ⟨s, e1, hq⟩ := arG_out rd_state h
  clear h
  subst e1
  have h := hq
  clear hq
  obtain ⟨t, e1, hq⟩ := arG_out rd_state h
  clear h
  subst e1
  have h := hq
  clear hq
  obtain ⟨hpre, h⟩ := chk_o h
  exact ⟨_, _, h, Nat.le_of_ble_eq_true (show Nat.ble 2 Try.f44.ntmps = true by kernel_rfl), _, run_impl_Alike s t hpre⟩

def lb_laws_sameWords_0 : PC := .seq (.seq (.reg [.s (.mv 11 (.t 5)), .s (.mv 12 (.t 0)), .s (.len 13 false (.t 12)), .s (.bin 14 .lss (.t 11) (.t 13))]) (.cond (.t 14) (.skip) (.exit 0))) (.seq (.blk 1 (.seq (.rgd [] [.s (.mv 17 (.t 0)), .s (.mv 18 (.t 5)), .s (.ia 19 .word (.t 17) (.t 18)), .s (.load 20 true 6 (.t 19)), .s (.mv 21 (.t 1)), .s (.mv 22 (.t 5)), .s (.ia 23 .word (.t 21) (.t 22)), .s (.load 24 true 6 (.t 23)), .s (.eqs 25 true [.i, .b, .i, .i, .i, .i] true (.t 20) (.t 24))] (.tk 0 (.tk 1 (.tk 2 (.tk 3 (.tk 4 (.tk 5 (.tk 6 (.tk 7 (.tk 8 (.done none))))))))))) (.cond (.t 25) (.seq (.reg [.s (.mv 4 (.k (.v (.c .ff))))]) (.ret)) (.skip)))) (.reg [.s (.mv 15 (.t 5)), .s (.bin 16 .add (.t 15) (.k (.v (.c (.int .i64 1))))), .s (.mv 5 (.t 16))]))
def pf_laws_sameWords : PF := ⟨[.t 4], .seq (.reg [.s (.mv 4 (.k (.v (.c .ff))))]) (.seq (.seq (.reg [.s (.mv 6 (.t 0)), .s (.len 7 false (.t 6)), .s (.mv 8 (.t 1)), .s (.len 9 false (.t 8)), .s (.bin 10 .neq (.t 7) (.t 9))]) (.cond (.t 10) (.seq (.reg [.s (.mv 4 (.k (.v (.c .ff))))]) (.ret)) (.skip))) (.seq (.seq (.reg [.s (.mv 5 (.k (.v (.c (.int .i64 0)))))]) (.blk 0 (.loop [0, 1, 5] lb_laws_sameWords_0))) (.seq (.reg [.s (.mv 4 (.k (.v (.c .tt))))]) (.ret))))⟩
def c_laws_sameWords : Fun := ⟨18, [], fun ts K => as2 ts fun t0 t1 => arC (pL .word) t0 fun a => arC (pL .word) t1 fun b => chk (a.length ≤ 2147483647 ∧ b.length ≤ 2147483647) (K (tB (decide (a = b))) [])⟩
theorem run_laws_sameWords (a : List (FT.Ty .word)) (b : List (FT.Ty .word)) (hpre : a.length ≤ 2147483647 ∧ b.length ≤ 2147483647) : runK [] (a.length + 1) [] pf_laws_sameWords [tL false .word a, tL false .word b] fun r o => r = tB (decide (a = b)) ∧ o = [] := by
  obtain ⟨l1, l2⟩ := hpre
  conv => whnf
  refine sel_i (fun h => ?_) (fun h => ?_) <;> conv => whnf
  · rw [len_ne h]; exact ⟨rfl, rfl⟩
  have hl := len_eq h
  clear h
  refine loop (α := Nat) (fun i => ⟨[(0, .v (.c (.sl false .word 0))), (1, .v (.c (.sl false .word 1))), (5, .v (.c (.int .i64 (i : Int))))], [(1, some (.flat false .word none b)), (0, some (.flat false .word none a))], nums.tail.tail, [], false, []⟩)
      (fun i => i ≤ a.length ∧ a.take i = b.take i) (fun i => a.length - i) (fun i R hI hR => ?_) 0 _ ⟨by simp, by simp⟩ (by omega)
  obtain ⟨hi, hx⟩ := hI
  conv => whnf
  repeat' (first | (refine sel_i (fun h => ?_) (fun h => ?_) <;> conv => whnf) | (refine chk_c ?_ ?_ <;> conv => whnf) | (refine And.intro ?_ rfl) | (refine And.intro ?_ ?_ <;> conv => whnf))
  all_goals (try simp only [eqWd, etaKey, etaWord, Int.toNat_natCast, Bool.not_eq_true', Bool.not_eq_false', decide_eq_true_eq, decide_eq_false_iff_not] at *)
  all_goals first
    | (refine ⟨?_⟩; omega)
    | (rw [eq_no (z := FT.zero .word) (by assumption)]; done)
    | (rw [eq_end hl (by omega) hx]; done)
    | (rw [wrap_id (n := (i : Int) + 1) (by omega) (by omega)]; exact hR (i + 1) ⟨by omega, eq_yes (z := FT.zero .word) hl (by omega) (by assumption) hx⟩ (by omega))
    | trace_state
theorem ok_laws_sameWords : FunOk Try.prog c_laws_sameWords := funOk (E := []) (envOk_nil) mixd Try.func18 (pf := pf_laws_sameWords) (by kernel_rfl) fun ts K h => by
  obtain ⟨t0, t1, e0, h⟩ := as2_out h
  subst e0
  obtain ⟨a, e1, hq⟩ := arC_out (rd_l .word) h
  clear h
  subst e1
  have h := hq
  clear hq
  obtain ⟨b, e1, hq⟩ := arC_out (rd_l .word) h
  clear h
  subst e1
  have h := hq
  clear hq
  obtain ⟨hpre, h⟩ := chk_o h
  exact ⟨_, _, h, Nat.le_of_ble_eq_true (show Nat.ble 2 Try.f18.ntmps = true by kernel_rfl), _, run_laws_sameWords a b hpre⟩

def lb_laws_sameMem_0 : PC := .seq (.seq (.reg [.s (.mv 21 (.t 5)), .s (.fa 22 (.t 2) 1), .s (.load 23 false 1 (.t 22)), .s (.len 24 false (.t 23)), .s (.bin 25 .lss (.t 21) (.t 24))]) (.cond (.t 25) (.skip) (.exit 0))) (.seq (.blk 1 (.seq (.rgd [] [.s (.fa 28 (.t 2) 1), .s (.load 29 false 1 (.t 28)), .s (.mv 30 (.t 5)), .s (.ia 31 .bool (.t 29) (.t 30)), .s (.load 32 false 1 (.t 31)), .s (.fa 33 (.t 3) 1), .s (.load 34 false 1 (.t 33)), .s (.mv 35 (.t 5)), .s (.ia 36 .bool (.t 34) (.t 35)), .s (.load 37 false 1 (.t 36)), .s (.eqs 38 false [.b] true (.t 32) (.t 37))] (.tk 0 (.tk 1 (.tk 2 (.tk 3 (.tk 4 (.tk 5 (.tk 6 (.tk 7 (.tk 8 (.tk 9 (.tk 10 (.done none))))))))))))) (.cond (.t 38) (.seq (.reg [.s (.mv 4 (.k (.v (.c .ff))))]) (.ret)) (.skip)))) (.reg [.s (.mv 26 (.t 5)), .s (.bin 27 .add (.t 26) (.k (.v (.c (.int .i64 1))))), .s (.mv 5 (.t 27))]))
def pf_laws_sameMem : PF := ⟨[.t 4], .seq (.reg [.s (.box 2 (.t 0)), .s (.box 3 (.t 1)), .s (.mv 4 (.k (.v (.c .ff))))]) (.seq (.seq (.reg [.s (.fa 6 (.t 2) 0), .s (.load 7 false 1 (.t 6)), .s (.fa 8 (.t 3) 0), .s (.load 9 false 1 (.t 8)), .s (.call (some 10) 18 [(.t 7), (.t 9)]), .s (.bnot 11 (.t 10)), .s (.mv 12 (.t 11)), .g 12 false (some 13) (.fa 13 (.t 2) 1), .g 12 false (some 14) (.load 14 false 1 (.t 13)), .g 12 false (some 15) (.len 15 false (.t 14)), .g 12 false (some 16) (.fa 16 (.t 3) 1), .g 12 false (some 17) (.load 17 false 1 (.t 16)), .g 12 false (some 18) (.len 18 false (.t 17)), .g 12 false (some 19) (.bin 19 .neq (.t 15) (.t 18)), .s (.pick 20 (.t 12) (.k (.v (.c .tt))) (.t 19))]) (.cond (.t 20) (.seq (.reg [.s (.mv 4 (.k (.v (.c .ff))))]) (.ret)) (.skip))) (.seq (.seq (.reg [.s (.mv 5 (.k (.v (.c (.int .i64 0)))))]) (.blk 0 (.loop [2, 3, 5] lb_laws_sameMem_0))) (.seq (.reg [.s (.mv 4 (.k (.v (.c .tt))))]) (.ret))))⟩
def c_laws_sameMem : Fun := ⟨113, [], fun ts K => as2 ts fun t0 t1 => arG pMemT t0 fun a => arG pMemT t1 fun b => chk (LMem a 2147483647 ∧ LMem b 2147483647) (K (tB (decide (a = b))) [])⟩
theorem run_laws_sameMem (a : Mem) (b : Mem) (hpre : LMem a 2147483647 ∧ LMem b 2147483647) : runK [c_laws_sameWords] (a.gone.length + 1) [] pf_laws_sameMem [tG (a.tc false []), tG (b.tc false [])] fun r o => r = tB (decide (a = b)) ∧ o = [] := by
  obtain ⟨⟨l1, l2⟩, l3, l4⟩ := hpre
  obtain ⟨a1, a2⟩ := a
  obtain ⟨b1, b2⟩ := b
  dsimp only at l1 l2 l3 l4
  conv => whnf
  refine chk_i ⟨l1, l3⟩ ?_
  conv => whnf
  refine sel_i (fun h => ?_) (fun h => ?_) <;> conv => whnf
  · refine ⟨?_, rfl⟩; simp at h; simp [h]
  refine sel_i (fun h2 => ?_) (fun h2 => ?_) <;> conv => whnf
  · refine ⟨?_, rfl⟩; have := of_decide_eq_false (len_ne h2); simp [this]
  have hl := len_eq h2
  have hw : a1 = b1 := by simpa using h
  subst hw
  clear h h2
  refine loop (α := Nat) (fun i => ⟨[(2, .v (.c (.ptr 0 0))), (3, .v (.c (.ptr 3 0))), (5, .v (.c (.int .i64 (i : Int))))],
        [(5, some (.flat false .bool none b2)), (4, some (.flat false .word none a1)), (3, some (.box true [.sl false .word 4, .sl false .bool 5])),
          (2, some (.flat false .bool none a2)), (1, some (.flat false .word none a1)), (0, some (.box true [.sl false .word 1, .sl false .bool 2]))], nums.tail.tail.tail.tail.tail.tail, [], false, []⟩)
      (fun i => i ≤ a2.length ∧ a2.take i = b2.take i) (fun i => a2.length - i) (fun i R hI hR => ?_) 0 _ ⟨by simp, by simp⟩ (by show a2.length - 0 < a2.length + 1; omega)
  obtain ⟨hi, hx⟩ := hI
  conv => whnf
  repeat' (first | (refine sel_i (fun h => ?_) (fun h => ?_) <;> conv => whnf) | (refine chk_c ?_ ?_ <;> conv => whnf) | (refine And.intro ?_ rfl) | (refine And.intro ?_ ?_ <;> conv => whnf))
  all_goals (try simp only [Int.toNat_natCast, Bool.not_eq_true', Bool.not_eq_false', decide_eq_true_eq, decide_eq_false_iff_not] at *)
  all_goals first
    | (refine ⟨?_⟩; omega)
    | (have e := of_decide_eq_false (eq_no (xs := a2) (ys := b2) (z := FT.zero .bool) (i := i) (by simpa using h)); simp [e]; done)
    | (have e := of_decide_eq_true (eq_end hl (by omega) hx); simp [e]; done)
    | (rw [wrap_id (n := (i : Int) + 1) (by omega) (by omega)]; exact hR (i + 1) ⟨by omega, eq_yes (z := FT.zero .bool) hl (by omega) (by simpa using h) hx⟩ (by omega))
    | trace_state
theorem ok_laws_sameMem : FunOk Try.prog c_laws_sameMem := funOk (E := [c_laws_sameWords]) (envOk_cons ok_laws_sameWords (envOk_nil)) mixd Try.func113 (pf := pf_laws_sameMem) (by kernel_rfl) fun ts K h => by
  obtain ⟨t0, t1, e0, h⟩ := as2_out h
  subst e0
  obtain ⟨a, e1, hq⟩ := arG_out rd_mem h
  clear h
  subst e1
  have h := hq
  clear hq
  obtain ⟨b, e1, hq⟩ := arG_out rd_mem h
  clear h
  subst e1
  have h := hq
  clear hq
  obtain ⟨hpre, h⟩ := chk_o h
  exact ⟨_, _, h, Nat.le_of_ble_eq_true (show Nat.ble 2 Try.f113.ntmps = true by kernel_rfl), _, run_laws_sameMem a b hpre⟩

def pf_laws_sameState : PF := ⟨[.t 4], .seq (.reg [.s (.box 2 (.t 0)), .s (.box 3 (.t 1)), .s (.mv 4 (.k (.v (.c .ff))))]) (.seq (.reg [.s (.fa 5 (.t 2) 0), .s (.load 6 false 1 (.t 5)), .s (.fa 7 (.t 3) 0), .s (.load 8 false 1 (.t 7)), .s (.call (some 9) 18 [(.t 6), (.t 8)]), .s (.mv 10 (.t 9)), .g 10 true (some 11) (.fa 11 (.t 2) 1), .g 10 true (some 12) (.load 12 true 6 (.t 11)), .g 10 true (some 13) (.fa 13 (.t 3) 1), .g 10 true (some 14) (.load 14 true 6 (.t 13)), .g 10 true (some 15) (.eqs 15 true [.i, .b, .i, .i, .i, .i] false (.t 12) (.t 14)), .s (.pick 16 (.t 10) (.t 15) (.k (.v (.c .ff)))), .s (.mv 17 (.t 16)), .g 17 true (some 18) (.fa 18 (.t 2) 7), .g 17 true (some 19) (.load 19 true 2 (.t 18)), .g 17 true (some 20) (.fa 20 (.t 3) 7), .g 17 true (some 21) (.load 21 true 2 (.t 20)), .g 17 true (some 22) (.call (some 22) 113 [(.t 19), (.t 21)]), .s (.pick 23 (.t 17) (.t 22) (.k (.v (.c .ff)))), .s (.mv 24 (.t 23)), .g 24 true (some 25) (.fa 25 (.t 2) 9), .g 24 true (some 26) (.load 26 false 1 (.t 25)), .g 24 true (some 27) (.fa 27 (.t 3) 9), .g 24 true (some 28) (.load 28 false 1 (.t 27)), .g 24 true (some 29) (.bin 29 .eql (.t 26) (.t 28)), .s (.pick 30 (.t 24) (.t 29) (.k (.v (.c .ff)))), .s (.mv 4 (.t 30))]) (.ret))⟩
def c_laws_sameState : Fun := ⟨42, [], fun ts K => as2 ts fun t0 t1 => arG pStateT t0 fun a => arG pStateT t1 fun b => chk (LState a 2147483647 ∧ LState b 2147483647) (K (tB (decide (a = b))) [])⟩
theorem run_laws_sameState (a : State) (b : State) (hpre : LState a 2147483647 ∧ LState b 2147483647) : runK [c_laws_sameWords, c_laws_sameMem] (0) [] pf_laws_sameState [tG (a.tc false []), tG (b.tc false [])] fun r o => r = tB (decide (a = b)) ∧ o = [] := by
  obtain ⟨⟨l1, l2, l3⟩, l4, l5, l6⟩ := hpre
  conv => whnf
  repeat' (first | (refine sel_i (fun h => ?_) (fun h => ?_) <;> conv => whnf) | (refine chk_c ?_ ?_ <;> conv => whnf) | (refine And.intro ?_ rfl) | (refine And.intro ?_ ?_ <;> conv => whnf))
  all_goals (try simp only [eqWd, etaKey, etaWord, etaMemory, etaState, decide_eq_true_eq, decide_eq_false_iff_not] at *)
  all_goals first
    | (refine ⟨?_⟩; exact ⟨by assumption, by assumption⟩)
    | (refine ⟨?_⟩; exact ⟨⟨by assumption, by assumption⟩, by assumption, by assumption⟩)
    | (rw [eqStE (by assumption) (by assumption) (by assumption)]; done)
    | (obtain ⟨s1, ⟨s2, s3, ⟨s4, s5, s6, s7⟩⟩, ⟨s8, s9⟩, s10⟩ := a; obtain ⟨t1, ⟨t2, t3, ⟨t4, t5, t6, t7⟩⟩, ⟨t8, t9⟩, t10⟩ := b; simp_all; done)
    | trace_state
theorem ok_laws_sameState : FunOk Try.prog c_laws_sameState := funOk (E := [c_laws_sameWords, c_laws_sameMem]) (envOk_cons ok_laws_sameWords (envOk_cons ok_laws_sameMem (envOk_nil))) mixd Try.func42 (pf := pf_laws_sameState) (by kernel_rfl) fun ts K h => by
  obtain ⟨t0, t1, e0, h⟩ := as2_out h
  subst e0
  obtain ⟨a, e1, hq⟩ := arG_out rd_state h
  clear h
  subst e1
  have h := hq
  clear hq
  obtain ⟨b, e1, hq⟩ := arG_out rd_state h
  clear h
  subst e1
  have h := hq
  clear hq
  obtain ⟨hpre, h⟩ := chk_o h
  exact ⟨_, _, h, Nat.le_of_ble_eq_true (show Nat.ble 2 Try.f42.ntmps = true by kernel_rfl), _, run_laws_sameState a b hpre⟩







end Go.Pi
