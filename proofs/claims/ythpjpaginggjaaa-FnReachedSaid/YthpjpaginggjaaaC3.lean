/- Contracts of functions, each out of its run by PI. No conditions. -/
import Derived.Test.YthpjpaginggjaaaC2
namespace Go.Pi
open Go.Proofs
set_option linter.unusedVariables false
set_option linter.unusedSimpArgs false
set_option maxRecDepth 100000
attribute [local irreducible] iterN
structure Cur where
  b : List Int
  i : Int
  h : Int
def Cur.tc (c : Cur) (r : List TC) : List TC := tl false (.int .u8) c.b :: .int .i64 c.i :: .int .i64 c.h :: r
def pCurT : Prs Cur := fun l f => pL (.int .u8) l fun a l => pN l fun b l => pN l fun c l => f ⟨a, b, c⟩ l
theorem rd_cur : Rd pCurT Cur.tc := fun l f h0 => by
  obtain ⟨a, _, rfl, h1⟩ := rd_l (.int .u8) _ _ h0
  obtain ⟨b, _, rfl, h2⟩ := rd_int .i64 _ _ h1
  obtain ⟨c, _, rfl, h3⟩ := rd_int .i64 _ _ h2
  exact ⟨⟨a, b, c⟩, _, rfl, h3⟩
def CurOk (c : Cur) : Prop := 0 ≤ c.i ∧ c.b.length ≤ 1048576
abbrev curOut (d : Cur) : Tree := .v (.ptr true 0 (d.tc []))
theorem and255 (n : Int) : 0 ≤ andI n 255 ∧ andI n 255 ≤ 255 := andI_le n (by decide) (by decide)

def pf_laws_big : PF := ⟨[.t 2], .seq (.reg [.s (.mv 2 (.k (.v (.c .ff))))]) (.seq (.reg [.s (.mv 3 (.t 0)), .s (.len 4 false (.t 3)), .s (.bin 5 .gtr (.t 4) (.k (.v (.c (.int .i64 1048576))))), .s (.mv 2 (.t 5))]) (.ret))⟩
def c_laws_big : Fun := ⟨12, [], fun ts K => as1 ts fun t0 => arC (pL (.int .u8)) t0 fun c => K (tB (decide (1048576 < c.length))) []⟩
theorem run_laws_big (c : List (FT.Ty (.int .u8))) : runK [] (0) [] pf_laws_big [tL false (.int .u8) c] fun r o => r = tB (decide (1048576 < c.length)) ∧ o = [] := by
  conv => whnf
  repeat' (first | (refine sel_i (fun h => ?_) (fun h => ?_) <;> conv => whnf) | (refine chk_c ?_ ?_ <;> conv => whnf) | (refine And.intro ?_ rfl) | (refine And.intro ?_ ?_ <;> conv => whnf))
  have e : decide ((c.length : Int) > 1048576) = decide (1048576 < c.length) := decide_eq_decide.2 (by omega)
  rw [e]
theorem ok_laws_big : FunOk Try.prog c_laws_big := funOk (E := []) (envOk_nil) mixd Try.func12 (pf := pf_laws_big) (by kernel_rfl) fun ts K h => by
  obtain ⟨t0, e0, h⟩ := as1_out h
  subst e0
  obtain ⟨c, e1, hq⟩ := arC_out (rd_l (.int .u8)) h
  clear h
  subst e1
  have h := hq
  clear hq
  exact ⟨_, _, h, Nat.le_of_ble_eq_true (show Nat.ble 1 Try.f12.ntmps = true by kernel_rfl), _, run_laws_big c⟩

def lb_spec_l1New_0 : PC := .seq (.seq (.reg [.s (.mv 8 (.t 4)), .s (.mv 9 (.t 0)), .s (.len 10 false (.t 9)), .s (.bin 11 .lss (.t 8) (.t 10)), .s (.mv 12 (.t 11)), .g 12 true (some 13) (.mv 13 (.t 4)), .g 12 true (some 14) (.bin 14 .lss (.t 13) (.k (.v (.c (.int .i64 4000))))), .s (.pick 15 (.t 12) (.t 14) (.k (.v (.c .ff))))]) (.cond (.t 15) (.skip) (.exit 0))) (.seq (.blk 1 (.reg [.s (.mv 18 (.t 3)), .s (.bin 19 .mul (.t 18) (.k (.v (.c (.int .i64 131))))), .s (.mv 20 (.t 0)), .s (.mv 21 (.t 4)), .s (.ia 22 (.int .u8) (.t 20) (.t 21)), .s (.load 23 false 1 (.t 22)), .s (.conv 24 .i64 (.t 23)), .s (.bin 25 .add (.t 19) (.t 24)), .s (.bin 26 .add (.t 25) (.k (.v (.c (.int .i64 7))))), .s (.bin 27 .and (.t 26) (.k (.v (.c (.int .i64 1073741823))))), .s (.mv 3 (.t 27))])) (.reg [.s (.mv 16 (.t 4)), .s (.bin 17 .add (.t 16) (.k (.v (.c (.int .i64 1))))), .s (.mv 4 (.t 17))]))
def pf_spec_l1New : PF := ⟨[.t 2], .seq (.reg [.s (.mv 2 (.k (.v (.c .nilp))))]) (.seq (.reg [.s (.mv 5 (.t 0)), .s (.len 6 false (.t 5)), .s (.bin 7 .add (.k (.v (.c (.int .i64 19220)))) (.t 6)), .s (.mv 3 (.t 7))]) (.seq (.seq (.reg [.s (.mv 4 (.k (.v (.c (.int .i64 0)))))]) (.blk 0 (.loop [0, 3, 4] lb_spec_l1New_0))) (.seq (.reg [.s (.mv 28 (.t 0)), .s (.mv 29 (.t 3)), .s (.build 30 [.nils (.int .u8), .int .i64 0, .int .i64 0] [(0, 1, (.t 28)), (2, 1, (.t 29))]), .s (.box 31 (.t 30)), .s (.mv 2 (.t 31))]) (.ret))))⟩
def c_spec_l1New : Fun := ⟨81, [], fun ts K => as1 ts fun t0 => arC (pL (.int .u8)) t0 fun c => chk (c.length ≤ 1048576) (∀ (d : Cur), (CurOk d) → K (.v (.ptr true 0 (d.tc []))) [])⟩
theorem run_spec_l1New (c : List (FT.Ty (.int .u8))) (hpre : c.length ≤ 1048576) {K : Tree → List Tree → Prop} (hK : ∀ (d : Cur), (CurOk d) → K (.v (.ptr true 0 (d.tc []))) []) : runK [] (c.length + 1) [] pf_spec_l1New [tL false (.int .u8) c] K := by
  conv => whnf
  refine loop (α := Nat × Int) (fun q => ⟨[(0, .v (.c (.sl false (.int .u8) 0))), (3, .v (.c (.int .i64 q.2))), (4, .v (.c (.int .i64 (q.1 : Int))))], [(0, some (.flat false (.int .u8) none c))], nums.tail, [], false, []⟩)
    (fun q => q.1 ≤ c.length) (fun q => c.length - q.1) (fun q R hI hR => ?_) (0, IntKind.i64.wrap (19220 + (c.length : Int))) _ (Nat.zero_le _) (by simp)
  obtain ⟨i, n⟩ := q
  dsimp only at hI
  dsimp only
  conv => whnf
  repeat' (first | (refine sel_i (fun h => ?_) (fun h => ?_) <;> conv => whnf) | (refine chk_c ?_ ?_ <;> conv => whnf) | (refine And.intro ?_ rfl) | (refine And.intro ?_ ?_ <;> conv => whnf))
  all_goals first
    | (refine ⟨?_⟩; simp at *; omega)
    | (rw [wrap_id (n := (i : Int) + 1) (by omega) (by omega)]; refine hR (i + 1, _) (by simp at *; omega) (by simp at *; omega))
    | exact hK ⟨_, _, _⟩ ⟨Int.le_refl _, hpre⟩
    | trace_state
theorem ok_spec_l1New : FunOk Try.prog c_spec_l1New := funOkR (E := []) (envOk_nil) mixd Try.func81 (pf := pf_spec_l1New) (by kernel_rfl) fun ts K h => by
  obtain ⟨t0, e0, h⟩ := as1_out h
  subst e0
  obtain ⟨c, e1, hq⟩ := arC_out (rd_l (.int .u8)) h
  clear h
  subst e1
  have h := hq
  clear hq
  obtain ⟨hpre, h⟩ := chk_o h
  exact ⟨Nat.le_of_ble_eq_true (show Nat.ble 1 Try.f81.ntmps = true by kernel_rfl), _, run_spec_l1New c hpre h⟩

def pf_spec_l1Byte : PF := ⟨[.t 2], .seq (.reg [.s (.mv 2 (.k (.v (.c (.int .i64 0)))))]) (.seq (.reg [.s (.mv 4 (.t 0)), .s (.mv 5 (.t 0)), .s (.nchk 6 (.t 5)), .s (.fa 7 (.t 6) 2), .s (.load 8 false 1 (.t 7)), .s (.bin 9 .mul (.t 8) (.k (.v (.c (.int .i64 6364136223846793005))))), .s (.bin 10 .add (.t 9) (.k (.v (.c (.int .i64 1442695040888963407))))), .s (.nchk 11 (.t 4)), .s (.fa 12 (.t 11) 2), .s (.store 1 (.t 12) (.t 10))]) (.seq (.rgd [] [.s (.mv 13 (.t 0)), .s (.nchk 14 (.t 13)), .s (.fa 15 (.t 14) 2), .s (.load 16 false 1 (.t 15)), .s (.bin 17 .shr (.t 16) (.k (.v (.c (.int .u64 33))))), .s (.mv 18 (.t 0)), .s (.nchk 19 (.t 18)), .s (.fa 20 (.t 19) 2), .s (.load 21 false 1 (.t 20)), .s (.bin 22 .shr (.t 21) (.k (.v (.c (.int .u64 45))))), .s (.bin 23 .xor (.t 17) (.t 22)), .s (.bin 24 .and (.t 23) (.k (.v (.c (.int .i64 255))))), .s (.mv 3 (.t 24))] (.tk 0 (.tk 1 (.tk 2 (.tk 3 (.tk 4 (.tk 5 (.tk 6 (.tk 7 (.tk 8 (.tk 9 (.tk 10 (.tk 11 (.tk 12 (.done none))))))))))))))) (.seq (.seq (.rgd [] [.s (.mv 25 (.t 0)), .s (.nchk 26 (.t 25)), .s (.fa 27 (.t 26) 1), .s (.load 28 false 1 (.t 27)), .s (.mv 29 (.t 0)), .s (.nchk 30 (.t 29)), .s (.fa 31 (.t 30) 0), .s (.load 32 false 1 (.t 31)), .s (.len 33 false (.t 32)), .s (.bin 34 .lss (.t 28) (.t 33))] (.tk 0 (.tk 1 (.tk 2 (.tk 3 (.tk 4 (.tk 5 (.tk 6 (.tk 7 (.tk 8 (.tk 9 (.done none)))))))))))) (.cond (.t 34) (.seq (.rgd [] [.s (.mv 35 (.t 3)), .s (.mv 36 (.t 0)), .s (.nchk 37 (.t 36)), .s (.fa 38 (.t 37) 0), .s (.load 39 false 1 (.t 38)), .s (.mv 40 (.t 0)), .s (.nchk 41 (.t 40)), .s (.fa 42 (.t 41) 1), .s (.load 43 false 1 (.t 42)), .s (.ia 44 (.int .u8) (.t 39) (.t 43)), .s (.load 45 false 1 (.t 44)), .s (.conv 46 .i64 (.t 45)), .s (.bin 47 .add (.t 35) (.t 46)), .s (.bin 48 .and (.t 47) (.k (.v (.c (.int .i64 255))))), .s (.mv 3 (.t 48))] (.tk 0 (.tk 1 (.tk 2 (.tk 3 (.tk 4 (.tk 5 (.tk 6 (.tk 7 (.tk 8 (.tk 9 (.tk 10 (.tk 11 (.tk 12 (.tk 13 (.tk 14 (.done none))))))))))))))))) (.reg [.s (.mv 49 (.t 0)), .s (.mv 50 (.t 0)), .s (.nchk 51 (.t 50)), .s (.fa 52 (.t 51) 1), .s (.load 53 false 1 (.t 52)), .s (.bin 54 .add (.t 53) (.k (.v (.c (.int .i64 1))))), .s (.nchk 55 (.t 49)), .s (.fa 56 (.t 55) 1), .s (.store 1 (.t 56) (.t 54))])) (.skip))) (.seq (.reg [.s (.mv 57 (.t 3)), .s (.mv 2 (.t 57))]) (.ret)))))⟩
def c_spec_l1Byte : Fun := ⟨157, [true], fun ts K => as1 ts fun t0 => arQ pCurT t0 fun c => chk (CurOk c) (∀ (x : Int) (d : Cur), ((0 ≤ x ∧ x ≤ 255) ∧ CurOk d) → K (tN x) ([curOut d]))⟩
theorem run_spec_l1Byte (c : Cur) (hpre : CurOk c) {K : Tree → List Tree → Prop} (hK : ∀ (x : Int) (d : Cur), ((0 ≤ x ∧ x ≤ 255) ∧ CurOk d) → K (tN x) ([curOut d])) : runK [] (0) [true] pf_spec_l1Byte [.v (.ptr true 0 (c.tc []))] K := by
  obtain ⟨c1, c2⟩ := hpre
  conv => whnf
  repeat' (first | (refine sel_i (fun h => ?_) (fun h => ?_) <;> conv => whnf) | (refine chk_c ?_ ?_ <;> conv => whnf) | (refine And.intro ?_ rfl) | (refine And.intro ?_ ?_ <;> conv => whnf))
  all_goals (try simp only [andI_eq])
  all_goals first
    | (refine ⟨?_⟩; decide)
    | (refine ⟨?_⟩; simp at h; omega)
    | (have hc : c.i < c.b.length := by simpa using h
       rw [wrap_id (n := c.i + 1) (by omega) (by omega)]
       generalize hy : andI _ 255 = y
       exact hK y ⟨c.b, c.i + 1, _⟩ ⟨hy ▸ and255 _, by dsimp only; omega, c2⟩)
    | (generalize hy : andI _ 255 = y; generalize IntKind.i64.wrap (IntKind.i64.wrap (c.h * 6364136223846793005) + 1442695040888963407) = z; exact hK y ⟨c.b, c.i, z⟩ ⟨hy ▸ and255 _, c1, c2⟩)
    | trace_state
theorem ok_spec_l1Byte : FunOk Try.prog c_spec_l1Byte := funOkR (E := []) (envOk_nil) mixd Try.func157 (pf := pf_spec_l1Byte) (by kernel_rfl) fun ts K h => by
  obtain ⟨t0, e0, h⟩ := as1_out h
  subst e0
  obtain ⟨c, e1, hq⟩ := arQ_out rd_cur h
  clear h
  subst e1
  have h := hq
  clear hq
  obtain ⟨hpre, h⟩ := chk_o h
  exact ⟨Nat.le_of_ble_eq_true (show Nat.ble 1 Try.f157.ntmps = true by kernel_rfl), _, run_spec_l1Byte c hpre h⟩

theorem tmod_in {x n : Int} (hx : 0 ≤ x) (hn : 0 < n) : 0 ≤ x.tmod n ∧ x.tmod n < n := by
  rw [Int.tmod_eq_emod_of_nonneg hx]; exact ⟨Int.emod_nonneg _ (by omega), Int.emod_lt_of_pos _ hn⟩

def pf_spec_l1Below : PF := ⟨[.t 4], .seq (.reg [.s (.mv 4 (.k (.v (.c (.int .i64 0)))))]) (.seq (.seq (.reg [.s (.mv 9 (.t 1)), .s (.bin 10 .leq (.t 9) (.k (.v (.c (.int .i64 0)))))]) (.cond (.t 10) (.seq (.reg [.s (.mv 4 (.k (.v (.c (.int .i64 0)))))]) (.ret)) (.skip))) (.seq (.seq (.reg [.s (.mv 11 (.t 1)), .s (.bin 12 .leq (.t 11) (.k (.v (.c (.int .i64 256)))))]) (.cond (.t 12) (.seq (.reg [.s (.mv 13 (.t 0)), .s (.call (some 14) 157 [(.t 13)]), .s (.mv 15 (.t 1)), .s (.bin 16 .rem (.t 14) (.t 15)), .s (.mv 4 (.t 16))]) (.ret)) (.skip))) (.seq (.reg [.s (.mv 17 (.t 0)), .s (.call (some 18) 157 [(.t 17)]), .s (.mv 5 (.t 18))]) (.seq (.reg [.s (.mv 19 (.t 0)), .s (.call (some 20) 157 [(.t 19)]), .s (.mv 6 (.t 20))]) (.seq (.reg [.s (.mv 21 (.t 0)), .s (.call (some 22) 157 [(.t 21)]), .s (.mv 7 (.t 22))]) (.seq (.reg [.s (.mv 23 (.t 0)), .s (.call (some 24) 157 [(.t 23)]), .s (.mv 8 (.t 24))]) (.seq (.reg [.s (.mv 25 (.t 5)), .s (.bin 26 .mul (.t 25) (.k (.v (.c (.int .i64 16777216))))), .s (.mv 27 (.t 6)), .s (.bin 28 .mul (.t 27) (.k (.v (.c (.int .i64 65536))))), .s (.bin 29 .add (.t 26) (.t 28)), .s (.mv 30 (.t 7)), .s (.bin 31 .mul (.t 30) (.k (.v (.c (.int .i64 256))))), .s (.bin 32 .add (.t 29) (.t 31)), .s (.mv 33 (.t 8)), .s (.bin 34 .add (.t 32) (.t 33)), .s (.mv 35 (.t 1)), .s (.bin 36 .rem (.t 34) (.t 35)), .s (.mv 4 (.t 36))]) (.ret))))))))⟩
def c_spec_l1Below : Fun := ⟨83, [true, false], fun ts K => as2 ts fun t0 t1 => arQ pCurT t0 fun c => arC (pI .i64) t1 fun n => chk (CurOk c) (∀ (x : Int) (d : Cur), ((0 ≤ x ∧ (n ≤ 0 → x = 0) ∧ (0 < n → x < n)) ∧ CurOk d) → K (tN x) ([curOut d]))⟩
theorem run_spec_l1Below (c : Cur) (n : Int) (hpre : CurOk c) {K : Tree → List Tree → Prop} (hK : ∀ (x : Int) (d : Cur), ((0 ≤ x ∧ (n ≤ 0 → x = 0) ∧ (0 < n → x < n)) ∧ CurOk d) → K (tN x) ([curOut d])) : runK [c_spec_l1Byte] (0) [true, false] pf_spec_l1Below [.v (.ptr true 0 (c.tc [])), tI .i64 n] K := by
  conv => whnf
  repeat' (first | (refine sel_i (fun h => ?_) (fun h => ?_) <;> conv => whnf) | (refine chk_c ?_ ?_ <;> conv => whnf) | (refine And.intro ?_ rfl) | (refine And.intro ?_ ?_ <;> conv => whnf) | (intro x y z d hd; (try have g1 := And.left hd); (try have g2 := And.right hd); (try have g3 := And.left (And.right hd)); (try have g4 := And.right (And.right hd)); conv => whnf) | (intro x y d hd; (try have g1 := And.left hd); (try have g2 := And.right hd); (try have g3 := And.left (And.right hd)); (try have g4 := And.right (And.right hd)); conv => whnf) | (intro x d hd; (try have g1 := And.left hd); (try have g2 := And.right hd); (try have g3 := And.left (And.right hd)); (try have g4 := And.right (And.right hd)); conv => whnf) | (intro d hd; (try have g1 := And.left hd); (try have g2 := And.right hd); (try have g3 := And.left (And.right hd)); (try have g4 := And.right (And.right hd)); conv => whnf))
  all_goals first
    | (refine ⟨?_⟩; exact hd.2)
    | (refine ⟨?_⟩; exact hpre)
    | (refine ⟨?_⟩; simp at *; omega)
    | exact hK _ ⟨_, _, _⟩ ⟨⟨Int.le_refl _, fun _ => rfl, fun _ => by simp at h; omega⟩, hpre⟩
    | (have hn : 0 < n := by simp at *; omega
       have ht := tmod_in (n := n) hd.1.1 hn
       exact hK _ ⟨_, _, _⟩ ⟨⟨ht.1, fun _ => by omega, fun _ => ht.2⟩, hd.2⟩)
    | (have hn : 0 < n := by simp at *; omega
       rename_i x1 d1 hd1 _ _ _ _ x2 d2 hd2 _ _ _ _ x3 d3 hd3 _ _ _ _
       have q1 := hd1.1; have q2 := hd2.1; have q3 := hd3.1; have q4 := hd.1
       rw [wrap_id (n := x1 * 16777216) (by omega) (by omega), wrap_id (n := x2 * 65536) (by omega) (by omega), wrap_id (n := x1 * 16777216 + x2 * 65536) (by omega) (by omega), wrap_id (n := x3 * 256) (by omega) (by omega), wrap_id (n := x1 * 16777216 + x2 * 65536 + x3 * 256) (by omega) (by omega), wrap_id (n := x1 * 16777216 + x2 * 65536 + x3 * 256 + x) (by omega) (by omega)]
       have ht := tmod_in (x := x1 * 16777216 + x2 * 65536 + x3 * 256 + x) (n := n) (by omega) hn
       exact hK _ ⟨_, _, _⟩ ⟨⟨ht.1, fun _ => by omega, fun _ => ht.2⟩, hd.2⟩)
    | trace_state
theorem ok_spec_l1Below : FunOk Try.prog c_spec_l1Below := funOkR (E := [c_spec_l1Byte]) (envOk_cons ok_spec_l1Byte (envOk_nil)) mixd Try.func83 (pf := pf_spec_l1Below) (by kernel_rfl) fun ts K h => by
  obtain ⟨t0, t1, e0, h⟩ := as2_out h
  subst e0
  obtain ⟨c, e1, hq⟩ := arQ_out rd_cur h
  clear h
  subst e1
  have h := hq
  clear hq
  obtain ⟨n, e1, hq⟩ := arC_out (rd_int .i64) h
  clear h
  subst e1
  have h := hq
  clear hq
  obtain ⟨hpre, h⟩ := chk_o h
  exact ⟨Nat.le_of_ble_eq_true (show Nat.ble 2 Try.f83.ntmps = true by kernel_rfl), _, run_spec_l1Below c n hpre h⟩

def pf_spec_l1Once : PF := ⟨[.t 4], .seq (.reg [.s (.mv 4 (.k (.v (.c .ff))))]) (.seq (.reg [.s (.mv 5 (.t 0)), .s (.mv 6 (.t 1)), .s (.call (some 7) 83 [(.t 5), (.t 6)]), .s (.bin 8 .eql (.t 7) (.k (.v (.c (.int .i64 0))))), .s (.mv 4 (.t 8))]) (.ret))⟩
def c_spec_l1Once : Fun := ⟨163, [true, false], fun ts K => as2 ts fun t0 t1 => arQ pCurT t0 fun c => arC (pI .i64) t1 fun n => chk (CurOk c) (∀ (x : Bool) (d : Cur), (CurOk d) → K (tB x) ([curOut d]))⟩
theorem run_spec_l1Once (c : Cur) (n : Int) (hpre : CurOk c) {K : Tree → List Tree → Prop} (hK : ∀ (x : Bool) (d : Cur), (CurOk d) → K (tB x) ([curOut d])) : runK [c_spec_l1Below] (0) [true, false] pf_spec_l1Once [.v (.ptr true 0 (c.tc [])), tI .i64 n] K := by
  conv => whnf
  repeat' (first | (refine sel_i (fun h => ?_) (fun h => ?_) <;> conv => whnf) | (refine chk_c ?_ ?_ <;> conv => whnf) | (refine And.intro ?_ rfl) | (refine And.intro ?_ ?_ <;> conv => whnf) | (intro x y z d hd; (try have g1 := And.left hd); (try have g2 := And.right hd); (try have g3 := And.left (And.right hd)); (try have g4 := And.right (And.right hd)); conv => whnf) | (intro x y d hd; (try have g1 := And.left hd); (try have g2 := And.right hd); (try have g3 := And.left (And.right hd)); (try have g4 := And.right (And.right hd)); conv => whnf) | (intro x d hd; (try have g1 := And.left hd); (try have g2 := And.right hd); (try have g3 := And.left (And.right hd)); (try have g4 := And.right (And.right hd)); conv => whnf) | (intro d hd; (try have g1 := And.left hd); (try have g2 := And.right hd); (try have g3 := And.left (And.right hd)); (try have g4 := And.right (And.right hd)); conv => whnf))
  all_goals first
    | (refine ⟨?_⟩; exact hpre)
    | exact hK _ ⟨_, _, _⟩ hd.2
    | trace_state
theorem ok_spec_l1Once : FunOk Try.prog c_spec_l1Once := funOkR (E := [c_spec_l1Below]) (envOk_cons ok_spec_l1Below (envOk_nil)) mixd Try.func163 (pf := pf_spec_l1Once) (by kernel_rfl) fun ts K h => by
  obtain ⟨t0, t1, e0, h⟩ := as2_out h
  subst e0
  obtain ⟨c, e1, hq⟩ := arQ_out rd_cur h
  clear h
  subst e1
  have h := hq
  clear hq
  obtain ⟨n, e1, hq⟩ := arC_out (rd_int .i64) h
  clear h
  subst e1
  have h := hq
  clear hq
  obtain ⟨hpre, h⟩ := chk_o h
  exact ⟨Nat.le_of_ble_eq_true (show Nat.ble 2 Try.f163.ntmps = true by kernel_rfl), _, run_spec_l1Once c n hpre h⟩

theorem getD_memI {l : List Int} {i : Nat} (h : i < l.length) : l.getD i 0 ∈ l := by
  rw [List.getD_eq_getElem?_getD, List.getElem?_eq_getElem h]; exact List.getElem_mem h

def pf_spec_l1PickInt : PF := ⟨[.t 4], .seq (.reg [.s (.mv 4 (.k (.v (.c (.int .i64 0)))))]) (.seq (.reg [.s (.mv 5 (.t 1)), .s (.mv 6 (.t 0)), .s (.mv 7 (.t 1)), .s (.len 8 false (.t 7)), .s (.call (some 9) 83 [(.t 6), (.t 8)]), .s (.ia 10 (.int .i64) (.t 5) (.t 9)), .s (.load 11 false 1 (.t 10)), .s (.mv 4 (.t 11))]) (.ret))⟩
def c_spec_l1PickInt : Fun := ⟨106, [true, true], fun ts K => as2 ts fun t0 t1 => arQ pCurT t0 fun c => arC (pO (.int .i64)) t1 fun l => chk (CurOk c ∧ 0 < l.length ∧ l.length ≤ 1048576) (∀ (x : Int) (d : Cur), (x ∈ l ∧ CurOk d) → K (tN x) ([curOut d, tL true (.int .i64) l]))⟩
theorem run_spec_l1PickInt (c : Cur) (l : List (FT.Ty (.int .i64))) (hpre : CurOk c ∧ 0 < l.length ∧ l.length ≤ 1048576) {K : Tree → List Tree → Prop} (hK : ∀ (x : Int) (d : Cur), (x ∈ l ∧ CurOk d) → K (tN x) ([curOut d, tL true (.int .i64) l])) : runK [c_spec_l1Below] (0) [true, true] pf_spec_l1PickInt [.v (.ptr true 0 (c.tc [])), tL true (.int .i64) l] K := by
  obtain ⟨c1, c2⟩ := hpre
  conv => whnf
  repeat' (first | (refine sel_i (fun h => ?_) (fun h => ?_) <;> conv => whnf) | (refine chk_c ?_ ?_ <;> conv => whnf) | (refine And.intro ?_ rfl) | (refine And.intro ?_ ?_ <;> conv => whnf) | (intro x y z d hd; (try have g1 := And.left hd); (try have g2 := And.right hd); (try have g3 := And.left (And.right hd)); (try have g4 := And.right (And.right hd)); conv => whnf) | (intro x y d hd; (try have g1 := And.left hd); (try have g2 := And.right hd); (try have g3 := And.left (And.right hd)); (try have g4 := And.right (And.right hd)); conv => whnf) | (intro x d hd; (try have g1 := And.left hd); (try have g2 := And.right hd); (try have g3 := And.left (And.right hd)); (try have g4 := And.right (And.right hd)); conv => whnf) | (intro d hd; (try have g1 := And.left hd); (try have g2 := And.right hd); (try have g3 := And.left (And.right hd)); (try have g4 := And.right (And.right hd)); conv => whnf))
  all_goals first
    | (refine ⟨?_⟩; exact c1)
    | (refine ⟨?_⟩; have := hd.1; omega)
    | (exact hK _ ⟨_, _, _⟩ ⟨getD_memI (by have := hd.1; omega), hd.2⟩)
    | trace_state
theorem ok_spec_l1PickInt : FunOk Try.prog c_spec_l1PickInt := funOkR (E := [c_spec_l1Below]) (envOk_cons ok_spec_l1Below (envOk_nil)) mixd Try.func106 (pf := pf_spec_l1PickInt) (by kernel_rfl) fun ts K h => by
  obtain ⟨t0, t1, e0, h⟩ := as2_out h
  subst e0
  obtain ⟨c, e1, hq⟩ := arQ_out rd_cur h
  clear h
  subst e1
  have h := hq
  clear hq
  obtain ⟨l, e1, hq⟩ := arC_out (rd_o (.int .i64)) h
  clear h
  subst e1
  have h := hq
  clear hq
  obtain ⟨hpre, h⟩ := chk_o h
  exact ⟨Nat.le_of_ble_eq_true (show Nat.ble 2 Try.f106.ntmps = true by kernel_rfl), _, run_spec_l1PickInt c l hpre h⟩

theorem kKey {K : Tree → List Tree → Prop} {o : List Tree} {P : Prop} (hK : ∀ w : Key, P → K (tG (w.tc [])) o) (a b c d : Int) (h : P) : K (.v (.g [.int .i64 a, .int .i64 b, .int .i64 c, .int .i64 d])) o := hK ⟨a, b, c, d⟩ h
theorem kWord {K : Tree → List Tree → Prop} {o : List Tree} {P : Prop} (hK : ∀ w : Word, P → K (tG (w.tc [])) o) (n : Int) (is : Bool) (a b c d : Int) (h : P) : K (.v (.g [.int .i64 n, .bool is, .int .i64 a, .int .i64 b, .int .i64 c, .int .i64 d])) o := hK ⟨n, is, ⟨a, b, c, d⟩⟩ h
def pf_spec_Root : PF := ⟨[.c 0 true 4], .seq (.reg [.s (.alloc 0 [.int .i64 0, .int .i64 0, .int .i64 0, .int .i64 0])]) (.seq (.reg [.s (.build 1 [.int .i64 0, .int .i64 0, .int .i64 0, .int .i64 0] [(1, 1, (.k (.v (.c (.int .i64 4096))))), (2, 1, (.k (.v (.c (.int .i64 63)))))]), .s (.store 4 (.t 0) (.t 1))]) (.ret))⟩
def c_spec_Root : Fun := ⟨206, [], fun ts K => as0 ts (K (tG ((⟨0, 4096, 63, 0⟩ : Key).tc [])) [])⟩
theorem run_spec_Root  : runK [] (0) [] pf_spec_Root [] fun r o => r = tG ((⟨0, 4096, 63, 0⟩ : Key).tc []) ∧ o = [] := by
  conv => whnf
  repeat' (first | (refine sel_i (fun h => ?_) (fun h => ?_) <;> conv => whnf) | (refine chk_c ?_ ?_ <;> conv => whnf) | (refine And.intro ?_ rfl) | (refine And.intro ?_ ?_ <;> conv => whnf))
  rfl
theorem ok_spec_Root : FunOk Try.prog c_spec_Root := funOk (E := []) (envOk_nil) mixd Try.func206 (pf := pf_spec_Root) (by kernel_rfl) fun ts K h => by
  obtain ⟨e0, h⟩ := as0_out h
  subst e0
  exact ⟨_, _, h, Nat.le_of_ble_eq_true (show Nat.ble 0 Try.f206.ntmps = true by kernel_rfl), _, run_spec_Root ⟩

def pf_spec_l2DrawRight : PF := ⟨[.c 2 true 4], .seq (.reg [.s (.alloc 2 [.int .i64 0, .int .i64 0, .int .i64 0, .int .i64 0])]) (.seq (.reg [.s (.call (some 4) 206 []), .s (.alloc 3 [.int .i64 0, .int .i64 0, .int .i64 0, .int .i64 0]), .s (.store 4 (.t 3) (.t 4))]) (.seq (.seq (.reg [.s (.mv 5 (.t 0)), .s (.call (some 6) 83 [(.t 5), (.k (.v (.c (.int .i64 4))))])]) (.blk 0 (.seq (.reg [.s (.bin 8 .eql (.t 6) (.k (.v (.c (.int .i64 0))))), .s (.mv 7 (.t 8))]) (.cond (.t 7) (.seq (.reg [.s (.mv 9 (.t 0)), .s (.call (some 10) 83 [(.t 9), (.k (.v (.c (.int .i64 30))))]), .s (.fa 11 (.t 3) 0), .s (.store 1 (.t 11) (.t 10))]) (.rgd [0] [.s (.fa 12 (.t 3) 0), .s (.load 13 false 1 (.t 12)), .s (.mv 14 (.t 0)), .s (.call (some 15) 83 [(.t 14), (.k (.v (.c (.int .i64 33))))]), .s (.bin 16 .add (.t 13) (.t 15)), .s (.fa 17 (.t 3) 1), .s (.store 1 (.t 17) (.t 16))] (.tk 0 (.tk 1 (.tk 2 (.one 3 false (.tk 4 (.tk 5 (.one 6 true (.done none)))))))))) (.seq (.reg [.s (.bin 19 .eql (.t 6) (.k (.v (.c (.int .i64 1))))), .s (.mv 18 (.t 19))]) (.cond (.t 18) (.seq (.reg [.s (.mv 20 (.t 0)), .s (.call (some 21) 83 [(.t 20), (.k (.v (.c (.int .i64 20))))]), .s (.bin 22 .mul (.k (.v (.c (.int .i64 64)))) (.t 21)), .s (.fa 23 (.t 3) 0), .s (.store 1 (.t 23) (.t 22))]) (.rgd [0] [.s (.fa 24 (.t 3) 0), .s (.load 25 false 1 (.t 24)), .s (.mv 26 (.t 0)), .s (.call (some 27) 83 [(.t 26), (.k (.v (.c (.int .i64 9))))]), .s (.bin 28 .mul (.k (.v (.c (.int .i64 64)))) (.t 27)), .s (.bin 29 .add (.t 25) (.t 28)), .s (.fa 30 (.t 3) 1), .s (.store 1 (.t 30) (.t 29))] (.tk 0 (.tk 1 (.tk 2 (.one 3 false (.tk 4 (.tk 5 (.tk 6 (.one 7 true (.done none))))))))))) (.seq (.reg [.s (.bin 32 .eql (.t 6) (.k (.v (.c (.int .i64 2))))), .s (.mv 31 (.t 32))]) (.cond (.t 31) (.reg [.s (.fa 33 (.t 3) 1), .s (.store 1 (.t 33) (.k (.v (.c (.int .i64 32)))))]) (.skip))))))))) (.seq (.seq (.reg [.s (.mv 34 (.t 0)), .s (.call (some 35) 163 [(.t 34), (.k (.v (.c (.int .i64 2))))])]) (.cond (.t 35) (.reg [.s (.mv 36 (.t 0)), .s (.call (some 37) 83 [(.t 36), (.k (.v (.c (.int .i64 64))))]), .s (.fa 38 (.t 3) 2), .s (.store 1 (.t 38) (.t 37))]) (.skip))) (.seq (.seq (.reg [.s (.mv 39 (.t 0)), .s (.call (some 40) 163 [(.t 39), (.k (.v (.c (.int .i64 5))))])]) (.cond (.t 40) (.reg [.s (.mv 41 (.t 0)), .s (.call (some 42) 83 [(.t 41), (.k (.v (.c (.int .i64 7))))]), .s (.bin 43 .add (.k (.v (.c (.int .i64 1)))) (.t 42)), .s (.fa 44 (.t 3) 3), .s (.store 1 (.t 44) (.t 43))]) (.skip))) (.seq (.reg [.s (.load 45 true 4 (.t 3)), .s (.store 4 (.t 2) (.t 45))]) (.ret))))))⟩
def c_spec_l2DrawRight : Fun := ⟨165, [true], fun ts K => as1 ts fun t0 => arQ pCurT t0 fun c => chk (CurOk c) (∀ (k : Key) (d : Cur), (CurOk d) → K (tG (k.tc [])) ([curOut d]))⟩
theorem run_spec_l2DrawRight (c : Cur) (hpre : CurOk c) {K : Tree → List Tree → Prop} (hK : ∀ (k : Key) (d : Cur), (CurOk d) → K (tG (k.tc [])) ([curOut d])) : runK [c_spec_l1Below, c_spec_l1Once, c_spec_Root] (0) [true] pf_spec_l2DrawRight [.v (.ptr true 0 (c.tc []))] K := by
  conv => whnf
  repeat' (first | (refine sel_i (fun h => ?_) (fun h => ?_) <;> conv => whnf) | (refine chk_c ?_ ?_ <;> conv => whnf) | (refine And.intro ?_ rfl) | (refine And.intro ?_ ?_ <;> conv => whnf) | (intro x y z d hd; (try have g1 := And.left hd); (try have g2 := And.right hd); (try have g3 := And.left (And.right hd)); (try have g4 := And.right (And.right hd)); conv => whnf) | (intro x y d hd; (try have g1 := And.left hd); (try have g2 := And.right hd); (try have g3 := And.left (And.right hd)); (try have g4 := And.right (And.right hd)); conv => whnf) | (intro x d hd; (try have g1 := And.left hd); (try have g2 := And.right hd); (try have g3 := And.left (And.right hd)); (try have g4 := And.right (And.right hd)); conv => whnf) | (intro d hd; (try have g1 := And.left hd); (try have g2 := And.right hd); (try have g3 := And.left (And.right hd)); (try have g4 := And.right (And.right hd)); conv => whnf))
  all_goals first
    | (refine ⟨?_⟩; exact hd)
    | (refine ⟨?_⟩; exact hd.2)
    | (refine ⟨?_⟩; exact hpre)
    | (refine ⟨?_⟩; exact ⟨hd, by decide⟩)
    | (refine ⟨?_⟩; exact ⟨hd.2, by decide⟩)
    | (refine ⟨?_⟩; exact ⟨hd, by simp⟩)
    | (refine ⟨?_⟩; exact ⟨hd.2, by simp⟩)
    | (refine ⟨?_⟩; exact ⟨hpre, by simp⟩)
    | (refine ⟨?_⟩; decide)
    | (refine ⟨?_⟩; rfl)
    | ((try dsimp only); exact kKey (fun w hw => hK w _ hw) _ _ _ _  hd)
    | ((try dsimp only); exact kKey (fun w hw => hK w _ hw) _ _ _ _  hd.2)
    | trace_state
theorem ok_spec_l2DrawRight : FunOk Try.prog c_spec_l2DrawRight := funOkR (E := [c_spec_l1Below, c_spec_l1Once, c_spec_Root]) (envOk_cons ok_spec_l1Below (envOk_cons ok_spec_l1Once (envOk_cons ok_spec_Root (envOk_nil)))) mixd Try.func165 (pf := pf_spec_l2DrawRight) (by kernel_rfl) fun ts K h => by
  obtain ⟨t0, e0, h⟩ := as1_out h
  subst e0
  obtain ⟨c, e1, hq⟩ := arQ_out rd_cur h
  clear h
  subst e1
  have h := hq
  clear hq
  obtain ⟨hpre, h⟩ := chk_o h
  exact ⟨Nat.le_of_ble_eq_true (show Nat.ble 1 Try.f165.ntmps = true by kernel_rfl), _, run_spec_l2DrawRight c hpre h⟩

def pf_spec_l2Draw : PF := ⟨[.c 2 true 4], .seq (.reg [.s (.alloc 2 [.int .i64 0, .int .i64 0, .int .i64 0, .int .i64 0])]) (.seq (.reg [.s (.mv 4 (.t 0)), .s (.call (some 5) 165 [(.t 4)]), .s (.alloc 3 [.int .i64 0, .int .i64 0, .int .i64 0, .int .i64 0]), .s (.store 4 (.t 3) (.t 5))]) (.seq (.seq (.reg [.s (.mv 6 (.t 0)), .s (.call (some 7) 83 [(.t 6), (.k (.v (.c (.int .i64 12))))])]) (.blk 0 (.seq (.reg [.s (.bin 9 .eql (.t 7) (.k (.v (.c (.int .i64 0))))), .s (.mv 8 (.t 9))]) (.cond (.t 8) (.rgd [0] [.s (.fa 10 (.t 3) 0), .s (.load 11 false 1 (.t 10)), .s (.mv 12 (.t 0)), .s (.bs 13 (.int .i64) [(.k (.v (.c (.int .i64 (-1))))), (.k (.v (.c (.int .i64 65)))), (.k (.v (.c (.int .i64 97)))), (.k (.v (.c (.int .i64 5000))))]), .s (.call (some 14) 106 [(.t 12), (.t 13)]), .s (.bin 15 .add (.t 11) (.t 14)), .s (.fa 16 (.t 3) 1), .s (.store 1 (.t 16) (.t 15))] (.tk 0 (.tk 1 (.tk 2 (.one 3 false (.one 4 false (.tk 5 (.tk 6 (.one 7 true (.done none)))))))))) (.seq (.reg [.s (.bin 18 .eql (.t 7) (.k (.v (.c (.int .i64 1))))), .s (.mv 17 (.t 18))]) (.cond (.t 17) (.reg [.s (.mv 19 (.t 0)), .s (.bs 20 (.int .i64) [(.k (.v (.c (.int .i64 (-1))))), (.k (.v (.c (.int .i64 64))))]), .s (.call (some 21) 106 [(.t 19), (.t 20)]), .s (.fa 22 (.t 3) 2), .s (.store 1 (.t 22) (.t 21))]) (.seq (.reg [.s (.bin 24 .eql (.t 7) (.k (.v (.c (.int .i64 2))))), .s (.mv 23 (.t 24))]) (.cond (.t 23) (.reg [.s (.mv 25 (.t 0)), .s (.bs 26 (.int .i64) [(.k (.v (.c (.int .i64 (-1))))), (.k (.v (.c (.int .i64 8))))]), .s (.call (some 27) 106 [(.t 25), (.t 26)]), .s (.fa 28 (.t 3) 3), .s (.store 1 (.t 28) (.t 27))]) (.skip))))))))) (.seq (.reg [.s (.load 29 true 4 (.t 3)), .s (.store 4 (.t 2) (.t 29))]) (.ret))))⟩
def c_spec_l2Draw : Fun := ⟨158, [true], fun ts K => as1 ts fun t0 => arQ pCurT t0 fun c => chk (CurOk c) (∀ (k : Key) (d : Cur), (CurOk d) → K (tG (k.tc [])) ([curOut d]))⟩
theorem run_spec_l2Draw (c : Cur) (hpre : CurOk c) {K : Tree → List Tree → Prop} (hK : ∀ (k : Key) (d : Cur), (CurOk d) → K (tG (k.tc [])) ([curOut d])) : runK [c_spec_l1Below, c_spec_l1PickInt, c_spec_l2DrawRight] (0) [true] pf_spec_l2Draw [.v (.ptr true 0 (c.tc []))] K := by
  conv => whnf
  repeat' (first | (refine sel_i (fun h => ?_) (fun h => ?_) <;> conv => whnf) | (refine chk_c ?_ ?_ <;> conv => whnf) | (refine And.intro ?_ rfl) | (refine And.intro ?_ ?_ <;> conv => whnf) | (intro x y z d hd; (try have g1 := And.left hd); (try have g2 := And.right hd); (try have g3 := And.left (And.right hd)); (try have g4 := And.right (And.right hd)); conv => whnf) | (intro x y d hd; (try have g1 := And.left hd); (try have g2 := And.right hd); (try have g3 := And.left (And.right hd)); (try have g4 := And.right (And.right hd)); conv => whnf) | (intro x d hd; (try have g1 := And.left hd); (try have g2 := And.right hd); (try have g3 := And.left (And.right hd)); (try have g4 := And.right (And.right hd)); conv => whnf) | (intro d hd; (try have g1 := And.left hd); (try have g2 := And.right hd); (try have g3 := And.left (And.right hd)); (try have g4 := And.right (And.right hd)); conv => whnf))
  all_goals first
    | (refine ⟨?_⟩; exact hd)
    | (refine ⟨?_⟩; exact hd.2)
    | (refine ⟨?_⟩; exact hpre)
    | (refine ⟨?_⟩; exact ⟨hd, by decide⟩)
    | (refine ⟨?_⟩; exact ⟨hd.2, by decide⟩)
    | (refine ⟨?_⟩; exact ⟨hd, by simp⟩)
    | (refine ⟨?_⟩; exact ⟨hd.2, by simp⟩)
    | (refine ⟨?_⟩; exact ⟨hpre, by simp⟩)
    | (refine ⟨?_⟩; decide)
    | (refine ⟨?_⟩; rfl)
    | ((try dsimp only); exact kKey (fun w hw => hK w _ hw) _ _ _ _  hd)
    | ((try dsimp only); exact kKey (fun w hw => hK w _ hw) _ _ _ _  hd.2)
    | trace_state
theorem ok_spec_l2Draw : FunOk Try.prog c_spec_l2Draw := funOkR (E := [c_spec_l1Below, c_spec_l1PickInt, c_spec_l2DrawRight]) (envOk_cons ok_spec_l1Below (envOk_cons ok_spec_l1PickInt (envOk_cons ok_spec_l2DrawRight (envOk_nil)))) mixd Try.func158 (pf := pf_spec_l2Draw) (by kernel_rfl) fun ts K h => by
  obtain ⟨t0, e0, h⟩ := as1_out h
  subst e0
  obtain ⟨c, e1, hq⟩ := arQ_out rd_cur h
  clear h
  subst e1
  have h := hq
  clear hq
  obtain ⟨hpre, h⟩ := chk_o h
  exact ⟨Nat.le_of_ble_eq_true (show Nat.ble 1 Try.f158.ntmps = true by kernel_rfl), _, run_spec_l2Draw c hpre h⟩

def pf_spec_l3DrawRight : PF := ⟨[.c 2 true 6], .seq (.reg [.s (.alloc 2 [.int .i64 0, .ff, .int .i64 0, .int .i64 0, .int .i64 0, .int .i64 0])]) (.seq (.seq (.reg [.s (.mv 4 (.t 0)), .s (.call (some 5) 163 [(.t 4), (.k (.v (.c (.int .i64 3))))])]) (.cond (.t 5) (.seq (.reg [.s (.mv 6 (.t 0)), .s (.bs 7 (.int .i64) [(.k (.v (.c (.int .i64 0)))), (.k (.v (.c (.int .i64 1)))), (.k (.v (.c (.int .i64 2)))), (.k (.v (.c (.int .i64 5)))), (.k (.v (.c (.int .i64 31)))), (.k (.v (.c (.int .i64 65535))))]), .s (.call (some 8) 106 [(.t 6), (.t 7)]), .s (.call (some 9) 164 [(.t 8)]), .s (.store 6 (.t 2) (.t 9))]) (.ret)) (.skip))) (.seq (.reg [.s (.mv 10 (.t 0)), .s (.call (some 11) 165 [(.t 10)]), .s (.alloc 3 [.int .i64 0, .int .i64 0, .int .i64 0, .int .i64 0]), .s (.store 4 (.t 3) (.t 11))]) (.seq (.rgd [0] [.s (.load 12 true 4 (.t 3)), .s (.mv 13 (.t 0)), .s (.fa 14 (.t 3) 0), .s (.load 15 false 1 (.t 14)), .s (.fa 16 (.t 3) 0), .s (.load 17 false 1 (.t 16)), .s (.fa 18 (.t 3) 0), .s (.load 19 false 1 (.t 18)), .s (.bin 20 .add (.t 19) (.k (.v (.c (.int .i64 1))))), .s (.fa 21 (.t 3) 1), .s (.load 22 false 1 (.t 21)), .s (.bs 23 (.int .i64) [(.t 15), (.t 17), (.t 20), (.t 22), (.k (.v (.c (.int .i64 3)))), (.k (.v (.c (.int .i64 1))))]), .s (.call (some 24) 106 [(.t 13), (.t 23)]), .s (.call (some 25) 150 [(.t 12), (.t 24)]), .s (.store 6 (.t 2) (.t 25))] (.tk 0 (.tk 1 (.tk 2 (.tk 3 (.tk 4 (.tk 5 (.tk 6 (.tk 7 (.tk 8 (.tk 9 (.tk 10 (.one 11 false (.one 12 false (.one 13 true (.one 14 true (.done none))))))))))))))))) (.ret))))⟩
def c_spec_l3DrawRight : Fun := ⟨104, [true], fun ts K => as1 ts fun t0 => arQ pCurT t0 fun c => chk (CurOk c) (∀ (w : Word) (d : Cur), (wordOk w = true ∧ CurOk d) → K (tG (w.tc [])) ([curOut d]))⟩
theorem run_spec_l3DrawRight (c : Cur) (hpre : CurOk c) {K : Tree → List Tree → Prop} (hK : ∀ (w : Word) (d : Cur), (wordOk w = true ∧ CurOk d) → K (tG (w.tc [])) ([curOut d])) : runK [c_spec_l1PickInt, c_spec_KeyWord, c_spec_l1Once, c_spec_Plain, c_spec_l2DrawRight] (0) [true] pf_spec_l3DrawRight [.v (.ptr true 0 (c.tc []))] K := by
  conv => whnf
  repeat' (first | (refine sel_i (fun h => ?_) (fun h => ?_) <;> conv => whnf) | (refine chk_c ?_ ?_ <;> conv => whnf) | (refine And.intro ?_ rfl) | (refine And.intro ?_ ?_ <;> conv => whnf) | (intro x y z d hd; (try have g1 := And.left hd); (try have g2 := And.right hd); (try have g3 := And.left (And.right hd)); (try have g4 := And.right (And.right hd)); conv => whnf) | (intro x y d hd; (try have g1 := And.left hd); (try have g2 := And.right hd); (try have g3 := And.left (And.right hd)); (try have g4 := And.right (And.right hd)); conv => whnf) | (intro x d hd; (try have g1 := And.left hd); (try have g2 := And.right hd); (try have g3 := And.left (And.right hd)); (try have g4 := And.right (And.right hd)); conv => whnf) | (intro d hd; (try have g1 := And.left hd); (try have g2 := And.right hd); (try have g3 := And.left (And.right hd)); (try have g4 := And.right (And.right hd)); conv => whnf))
  all_goals first
    | (refine ⟨?_⟩; exact hd)
    | (refine ⟨?_⟩; exact hd.2)
    | (refine ⟨?_⟩; exact hpre)
    | (refine ⟨?_⟩; exact ⟨hd, by decide⟩)
    | (refine ⟨?_⟩; exact ⟨hd.2, by decide⟩)
    | (refine ⟨?_⟩; exact ⟨hd, by simp⟩)
    | (refine ⟨?_⟩; exact ⟨hd.2, by simp⟩)
    | (refine ⟨?_⟩; exact ⟨hpre, by simp⟩)
    | (refine ⟨?_⟩; decide)
    | (refine ⟨?_⟩; rfl)
    | exact hK (plainW _) _ ⟨plainW_ok _, hd.2⟩
    | exact hK (keyWord _ _) _ ⟨keyWord_ok _ _, hd.2⟩
    | trace_state
theorem ok_spec_l3DrawRight : FunOk Try.prog c_spec_l3DrawRight := funOkR (E := [c_spec_l1PickInt, c_spec_KeyWord, c_spec_l1Once, c_spec_Plain, c_spec_l2DrawRight]) (envOk_cons ok_spec_l1PickInt (envOk_cons ok_spec_KeyWord (envOk_cons ok_spec_l1Once (envOk_cons ok_spec_Plain (envOk_cons ok_spec_l2DrawRight (envOk_nil)))))) mixd Try.func104 (pf := pf_spec_l3DrawRight) (by kernel_rfl) fun ts K h => by
  obtain ⟨t0, e0, h⟩ := as1_out h
  subst e0
  obtain ⟨c, e1, hq⟩ := arQ_out rd_cur h
  clear h
  subst e1
  have h := hq
  clear hq
  obtain ⟨hpre, h⟩ := chk_o h
  exact ⟨Nat.le_of_ble_eq_true (show Nat.ble 1 Try.f104.ntmps = true by kernel_rfl), _, run_spec_l3DrawRight c hpre h⟩

def pf_spec_l3Draw : PF := ⟨[.c 2 true 6], .seq (.reg [.s (.alloc 2 [.int .i64 0, .ff, .int .i64 0, .int .i64 0, .int .i64 0, .int .i64 0])]) (.seq (.reg [.s (.mv 4 (.t 0)), .s (.call (some 5) 104 [(.t 4)]), .s (.alloc 3 [.int .i64 0, .ff, .int .i64 0, .int .i64 0, .int .i64 0, .int .i64 0]), .s (.store 6 (.t 3) (.t 5))]) (.seq (.seq (.reg [.s (.mv 6 (.t 0)), .s (.call (some 7) 83 [(.t 6), (.k (.v (.c (.int .i64 12))))])]) (.blk 0 (.seq (.reg [.s (.bin 9 .eql (.t 7) (.k (.v (.c (.int .i64 0))))), .s (.mv 8 (.t 9))]) (.cond (.t 8) (.reg [.s (.mv 10 (.t 0)), .s (.bs 11 (.int .i64) [(.k (.v (.c (.int .i64 (-1))))), (.k (.v (.c (.int .i64 65536)))), (.k (.v (.c (.int .i64 9223372036854775807))))]), .s (.call (some 12) 106 [(.t 10), (.t 11)]), .s (.fa 13 (.t 3) 0), .s (.store 1 (.t 13) (.t 12))]) (.seq (.reg [.s (.bin 15 .eql (.t 7) (.k (.v (.c (.int .i64 1))))), .s (.mv 14 (.t 15))]) (.cond (.t 14) (.reg [.s (.fa 16 (.t 3) 1), .s (.load 17 false 1 (.t 16)), .s (.bnot 18 (.t 17)), .s (.fa 19 (.t 3) 1), .s (.store 1 (.t 19) (.t 18))]) (.seq (.reg [.s (.bin 21 .eql (.t 7) (.k (.v (.c (.int .i64 2))))), .s (.mv 20 (.t 21))]) (.cond (.t 20) (.reg [.s (.mv 22 (.t 0)), .s (.call (some 23) 158 [(.t 22)]), .s (.fa 24 (.t 3) 2), .s (.store 4 (.t 24) (.t 23))]) (.skip))))))))) (.seq (.reg [.s (.load 25 true 6 (.t 3)), .s (.store 6 (.t 2) (.t 25))]) (.ret))))⟩
def c_spec_l3Draw : Fun := ⟨84, [true], fun ts K => as1 ts fun t0 => arQ pCurT t0 fun c => chk (CurOk c) (∀ (w : Word) (d : Cur), (CurOk d) → K (tG (w.tc [])) ([curOut d]))⟩
theorem run_spec_l3Draw (c : Cur) (hpre : CurOk c) {K : Tree → List Tree → Prop} (hK : ∀ (w : Word) (d : Cur), (CurOk d) → K (tG (w.tc [])) ([curOut d])) : runK [c_spec_l1Below, c_spec_l3DrawRight, c_spec_l1PickInt, c_spec_l2Draw] (0) [true] pf_spec_l3Draw [.v (.ptr true 0 (c.tc []))] K := by
  conv => whnf
  repeat' (first | (refine sel_i (fun h => ?_) (fun h => ?_) <;> conv => whnf) | (refine chk_c ?_ ?_ <;> conv => whnf) | (refine And.intro ?_ rfl) | (refine And.intro ?_ ?_ <;> conv => whnf) | (intro x y z d hd; (try have g1 := And.left hd); (try have g2 := And.right hd); (try have g3 := And.left (And.right hd)); (try have g4 := And.right (And.right hd)); conv => whnf) | (intro x y d hd; (try have g1 := And.left hd); (try have g2 := And.right hd); (try have g3 := And.left (And.right hd)); (try have g4 := And.right (And.right hd)); conv => whnf) | (intro x d hd; (try have g1 := And.left hd); (try have g2 := And.right hd); (try have g3 := And.left (And.right hd)); (try have g4 := And.right (And.right hd)); conv => whnf) | (intro d hd; (try have g1 := And.left hd); (try have g2 := And.right hd); (try have g3 := And.left (And.right hd)); (try have g4 := And.right (And.right hd)); conv => whnf))
  all_goals first
    | (refine ⟨?_⟩; exact hd)
    | (refine ⟨?_⟩; exact hd.2)
    | (refine ⟨?_⟩; exact hpre)
    | (refine ⟨?_⟩; exact ⟨hd, by decide⟩)
    | (refine ⟨?_⟩; exact ⟨hd.2, by decide⟩)
    | (refine ⟨?_⟩; exact ⟨hd, by simp⟩)
    | (refine ⟨?_⟩; exact ⟨hd.2, by simp⟩)
    | (refine ⟨?_⟩; exact ⟨hpre, by simp⟩)
    | (refine ⟨?_⟩; decide)
    | (refine ⟨?_⟩; rfl)
    | ((try dsimp only); exact kWord (fun w hw => hK w _ hw) _ _ _ _ _ _  hd)
    | ((try dsimp only); exact kWord (fun w hw => hK w _ hw) _ _ _ _ _ _  hd.2)
    | trace_state
theorem ok_spec_l3Draw : FunOk Try.prog c_spec_l3Draw := funOkR (E := [c_spec_l1Below, c_spec_l3DrawRight, c_spec_l1PickInt, c_spec_l2Draw]) (envOk_cons ok_spec_l1Below (envOk_cons ok_spec_l3DrawRight (envOk_cons ok_spec_l1PickInt (envOk_cons ok_spec_l2Draw (envOk_nil))))) mixd Try.func84 (pf := pf_spec_l3Draw) (by kernel_rfl) fun ts K h => by
  obtain ⟨t0, e0, h⟩ := as1_out h
  subst e0
  obtain ⟨c, e1, hq⟩ := arQ_out rd_cur h
  clear h
  subst e1
  have h := hq
  clear hq
  obtain ⟨hpre, h⟩ := chk_o h
  exact ⟨Nat.le_of_ble_eq_true (show Nat.ble 1 Try.f84.ntmps = true by kernel_rfl), _, run_spec_l3Draw c hpre h⟩

theorem kMem {K : Tree → List Tree → Prop} {o : List Tree} {P : Mem → Prop} (hK : ∀ w : Mem, P w → K (tG (w.tc true [])) o) (a : List Word) (b : List Bool) (h : P ⟨a, b⟩) : K (.v (.g [.ow .word a, .ow .bool b])) o := hK ⟨a, b⟩ h
def cuC (d : Cur) (k : Nat) : List Cell := [.sl false (.int .u8) k, .int .i64 d.i, .int .i64 d.h]
theorem memoryOk_setW {m : Mem} (h : memoryOk m = true) {i : Nat} {w : Word} (hw : wordOk w = true) : memoryOk ⟨m.words.set i w, m.gone⟩ = true := by
  obtain ⟨h1, h2, h3⟩ := memoryOk_iff.1 h
  refine memoryOk_iff.2 ⟨by simp [h1], h2, fun v hv => ?_⟩
  rcases mem_set hv with q | q
  · exact h3 v q
  · rw [q]; exact hw
theorem memoryOk_setG {m : Mem} (h : memoryOk m = true) {i : Nat} {b : Bool} : memoryOk ⟨m.words, m.gone.set i b⟩ = true := by
  obtain ⟨h1, h2, h3⟩ := memoryOk_iff.1 h
  exact memoryOk_iff.2 ⟨h1, by simp [h2], h3⟩
theorem memNew_ok : memoryOk memNew = true := by decide +kernel
theorem lMem_of {m : Mem} (h : memoryOk m = true) : LMem m 24 := by
  obtain ⟨h1, h2, h3⟩ := memoryOk_iff.1 h
  exact ⟨by omega, by omega⟩

def lb_spec_l8DrawRight_0 : PC := .seq (.seq (.reg [.s (.mv 7 (.t 4)), .s (.mv 8 (.t 0)), .s (.call (some 9) 83 [(.t 8), (.k (.v (.c (.int .i64 12))))]), .s (.bin 10 .lss (.t 7) (.t 9))]) (.cond (.t 10) (.skip) (.exit 0))) (.seq (.blk 1 (.rgd [0] [.s (.fa 13 (.t 3) 0), .s (.load 14 false 1 (.t 13)), .s (.mv 15 (.t 0)), .s (.call (some 16) 83 [(.t 15), (.k (.v (.c (.int .i64 24))))]), .s (.mv 17 (.t 0)), .s (.call (some 18) 104 [(.t 17)]), .s (.ia 19 .word (.t 14) (.t 16)), .s (.store 6 (.t 19) (.t 18))] (.tk 0 (.tk 1 (.tk 2 (.tk 4 (.one 3 false (.one 5 false (.tk 6 (.one 7 true (.done none))))))))))) (.reg [.s (.mv 11 (.t 4)), .s (.bin 12 .add (.t 11) (.k (.v (.c (.int .i64 1))))), .s (.mv 4 (.t 12))]))
def lb_spec_l8DrawRight_1 : PC := .seq (.seq (.reg [.s (.mv 20 (.t 5)), .s (.mv 21 (.t 0)), .s (.call (some 22) 83 [(.t 21), (.k (.v (.c (.int .i64 4))))]), .s (.bin 23 .lss (.t 20) (.t 22))]) (.cond (.t 23) (.skip) (.exit 2))) (.seq (.blk 3 (.rgd [0] [.s (.fa 26 (.t 3) 1), .s (.load 27 false 1 (.t 26)), .s (.mv 28 (.t 0)), .s (.call (some 29) 83 [(.t 28), (.k (.v (.c (.int .i64 24))))]), .s (.ia 30 .bool (.t 27) (.t 29)), .s (.store 1 (.t 30) (.k (.v (.c .tt))))] (.tk 0 (.tk 1 (.tk 2 (.one 3 false (.tk 4 (.one 5 true (.done none))))))))) (.reg [.s (.mv 24 (.t 5)), .s (.bin 25 .add (.t 24) (.k (.v (.c (.int .i64 1))))), .s (.mv 5 (.t 25))]))
def pf_spec_l8DrawRight : PF := ⟨[.c 2 true 2], .seq (.reg [.s (.alloc 2 [.nils .word, .nils .bool])]) (.seq (.reg [.s (.call (some 6) 111 []), .s (.alloc 3 [.nils .word, .nils .bool]), .s (.store 2 (.t 3) (.t 6))]) (.seq (.seq (.reg [.s (.mv 4 (.k (.v (.c (.int .i64 0)))))]) (.blk 0 (.loop [0, 2, 3, 4] lb_spec_l8DrawRight_0))) (.seq (.seq (.reg [.s (.mv 5 (.k (.v (.c (.int .i64 0)))))]) (.blk 2 (.loop [0, 2, 3, 5] lb_spec_l8DrawRight_1))) (.seq (.reg [.s (.load 31 true 2 (.t 3)), .s (.store 2 (.t 2) (.t 31))]) (.ret)))))⟩
def c_spec_l8DrawRight : Fun := ⟨125, [true], fun ts K => as1 ts fun t0 => arQ pCurT t0 fun c => chk (CurOk c) (∀ (m : Mem) (d : Cur), (memoryOk m = true ∧ CurOk d) → K (tG (m.tc true [])) ([curOut d]))⟩
theorem run_spec_l8DrawRight (c : Cur) (hpre : CurOk c) {K : Tree → List Tree → Prop} (hK : ∀ (m : Mem) (d : Cur), (memoryOk m = true ∧ CurOk d) → K (tG (m.tc true [])) ([curOut d])) : runK [c_spec_l1Below, c_spec_l3DrawRight, c_spec_MemoryNew] (20) [true] pf_spec_l8DrawRight [.v (.ptr true 0 (c.tc []))] K := by
  conv => whnf
  refine loop (α := Nat × Cur × Mem) (fun q => ⟨[(0, .v (.c (.ptr 0 0))), (2, .v (.c (.ptr 2 0))), (3, .v (.c (.ptr 3 0))), (4, .v (.c (.int .i64 (q.1 : Int))))],
        [(5, some (.flat true .bool none q.2.2.gone)), (4, some (.flat true .word none q.2.2.words)), (3, some (.box true [.sl false .word 4, .sl false .bool 5])), (2, some (.box true [.nils .word, .nils .bool])), (1, some (.flat false (.int .u8) none q.2.1.b)), (0, some (.box true (cuC q.2.1 1)))], nums.tail.tail.tail.tail.tail.tail, [.v (.c (.ptr 0 0))], false, []⟩)
    (fun q => q.1 ≤ 12 ∧ CurOk q.2.1 ∧ memoryOk q.2.2 = true) (fun q => 12 - q.1) (fun q R hI hR => ?_) (0, c, memNew) _ ⟨by simp, hpre, memNew_ok⟩ (by simp)
  obtain ⟨i, e, m⟩ := q
  obtain ⟨hi, he, hm⟩ := hI
  dsimp only at hi he hm
  dsimp only
  have hl := memoryOk_iff.1 hm
  conv => whnf
  repeat' (first | (refine sel_i (fun h => ?_) (fun h => ?_) <;> conv => whnf) | (refine chk_c ?_ ?_ <;> conv => whnf) | (refine And.intro ?_ rfl) | (refine And.intro ?_ ?_ <;> conv => whnf) | (intro x y z d hd; (try have g1 := And.left hd); (try have g2 := And.right hd); (try have g3 := And.left (And.right hd)); (try have g4 := And.right (And.right hd)); conv => whnf) | (intro x y d hd; (try have g1 := And.left hd); (try have g2 := And.right hd); (try have g3 := And.left (And.right hd)); (try have g4 := And.right (And.right hd)); conv => whnf) | (intro x d hd; (try have g1 := And.left hd); (try have g2 := And.right hd); (try have g3 := And.left (And.right hd)); (try have g4 := And.right (And.right hd)); conv => whnf) | (intro d hd; (try have g1 := And.left hd); (try have g2 := And.right hd); (try have g3 := And.left (And.right hd)); (try have g4 := And.right (And.right hd)); conv => whnf))
  all_goals first
    | (refine ⟨?_⟩; exact he)
    | (refine ⟨?_⟩; exact hd.2)
    | (refine ⟨?_⟩; simp at *; omega)
    | (rw [wrap_id (n := (i : Int) + 1) (by omega) (by omega)]; exact hR (i + 1, _, ⟨_, _⟩) ⟨by simp at h ⊢; omega, by exact hd.2, memoryOk_setW hm hd.1⟩ (by simp at h ⊢; omega))
    | skip
  clear hR he hl hi
  refine loop (α := Nat × Cur × Mem) (fun q => ⟨[(0, .v (.c (.ptr 0 0))), (2, .v (.c (.ptr 2 0))), (3, .v (.c (.ptr 3 0))), (5, .v (.c (.int .i64 (q.1 : Int))))],
        [(5, some (.flat true .bool none q.2.2.gone)), (4, some (.flat true .word none q.2.2.words)), (3, some (.box true [.sl false .word 4, .sl false .bool 5])), (2, some (.box true [.nils .word, .nils .bool])), (1, some (.flat false (.int .u8) none q.2.1.b)), (0, some (.box true (cuC q.2.1 1)))], nums.tail.tail.tail.tail.tail.tail, [.v (.c (.ptr 0 0))], false, []⟩)
    (fun q => q.1 ≤ 12 ∧ CurOk q.2.1 ∧ memoryOk q.2.2 = true) (fun q => 12 - q.1) (fun q R hI hR => ?_) (0, d, m) _ ⟨by simp, hd.2, hm⟩ (by simp)
  obtain ⟨i, e, m⟩ := q
  obtain ⟨hi, he, hm⟩ := hI
  dsimp only at hi he hm
  dsimp only
  have hl := memoryOk_iff.1 hm
  conv => whnf
  repeat' (first | (refine sel_i (fun h => ?_) (fun h => ?_) <;> conv => whnf) | (refine chk_c ?_ ?_ <;> conv => whnf) | (refine And.intro ?_ rfl) | (refine And.intro ?_ ?_ <;> conv => whnf) | (intro x y z d hd; (try have g1 := And.left hd); (try have g2 := And.right hd); (try have g3 := And.left (And.right hd)); (try have g4 := And.right (And.right hd)); conv => whnf) | (intro x y d hd; (try have g1 := And.left hd); (try have g2 := And.right hd); (try have g3 := And.left (And.right hd)); (try have g4 := And.right (And.right hd)); conv => whnf) | (intro x d hd; (try have g1 := And.left hd); (try have g2 := And.right hd); (try have g3 := And.left (And.right hd)); (try have g4 := And.right (And.right hd)); conv => whnf) | (intro d hd; (try have g1 := And.left hd); (try have g2 := And.right hd); (try have g3 := And.left (And.right hd)); (try have g4 := And.right (And.right hd)); conv => whnf))
  all_goals first
    | (refine ⟨?_⟩; exact he)
    | (refine ⟨?_⟩; exact hd.2)
    | (refine ⟨?_⟩; simp at *; omega)
    | (rw [wrap_id (n := (i : Int) + 1) (by omega) (by omega)]; have h := of_decide_eq_true h; exact hR (i + 1, d, ⟨m.words, m.gone.set x.toNat true⟩) ⟨by dsimp only; omega, hd.2, memoryOk_setG hm⟩ (by dsimp only; omega))
    | (exact kMem (fun m hm => hK m _ hm) _ _ ⟨hm, hd.2⟩)
    | trace_state
theorem ok_spec_l8DrawRight : FunOk Try.prog c_spec_l8DrawRight := funOkR (E := [c_spec_l1Below, c_spec_l3DrawRight, c_spec_MemoryNew]) (envOk_cons ok_spec_l1Below (envOk_cons ok_spec_l3DrawRight (envOk_cons ok_spec_MemoryNew (envOk_nil)))) mixd Try.func125 (pf := pf_spec_l8DrawRight) (by kernel_rfl) fun ts K h => by
  obtain ⟨t0, e0, h⟩ := as1_out h
  subst e0
  obtain ⟨c, e1, hq⟩ := arQ_out rd_cur h
  clear h
  subst e1
  have h := hq
  clear hq
  obtain ⟨hpre, h⟩ := chk_o h
  exact ⟨Nat.le_of_ble_eq_true (show Nat.ble 1 Try.f125.ntmps = true by kernel_rfl), _, run_spec_l8DrawRight c hpre h⟩

def pf_spec_l8Draw : PF := ⟨[.c 2 true 2], .seq (.reg [.s (.alloc 2 [.nils .word, .nils .bool])]) (.seq (.reg [.s (.mv 4 (.t 0)), .s (.call (some 5) 125 [(.t 4)]), .s (.alloc 3 [.nils .word, .nils .bool]), .s (.store 2 (.t 3) (.t 5))]) (.seq (.seq (.reg [.s (.mv 6 (.t 0)), .s (.call (some 7) 83 [(.t 6), (.k (.v (.c (.int .i64 15))))])]) (.blk 0 (.seq (.reg [.s (.bin 9 .eql (.t 7) (.k (.v (.c (.int .i64 0))))), .s (.mv 8 (.t 9))]) (.cond (.t 8) (.reg [.s (.fa 10 (.t 3) 0), .s (.load 11 false 1 (.t 10)), .s (.slc 12 .word (.t 11) (some (.k (.v (.c (.int .i64 1))))) none), .s (.fa 13 (.t 3) 0), .s (.store 1 (.t 13) (.t 12))]) (.seq (.reg [.s (.bin 15 .eql (.t 7) (.k (.v (.c (.int .i64 1))))), .s (.mv 14 (.t 15))]) (.cond (.t 14) (.rgd [0] [.s (.fa 16 (.t 3) 0), .s (.load 17 false 1 (.t 16)), .s (.mv 18 (.t 0)), .s (.call (some 19) 83 [(.t 18), (.k (.v (.c (.int .i64 24))))]), .s (.mv 20 (.t 0)), .s (.call (some 21) 84 [(.t 20)]), .s (.ia 22 .word (.t 17) (.t 19)), .s (.store 6 (.t 22) (.t 21))] (.tk 0 (.tk 1 (.tk 2 (.tk 4 (.one 3 false (.one 5 false (.tk 6 (.one 7 true (.done none)))))))))) (.seq (.reg [.s (.bin 24 .eql (.t 7) (.k (.v (.c (.int .i64 2))))), .s (.mv 23 (.t 24))]) (.cond (.t 23) (.reg [.s (.fa 25 (.t 3) 1), .s (.store 1 (.t 25) (.k (.v (.c (.nils .bool)))))]) (.skip))))))))) (.seq (.reg [.s (.load 26 true 2 (.t 3)), .s (.store 2 (.t 2) (.t 26))]) (.ret))))⟩
def c_spec_l8Draw : Fun := ⟨82, [true], fun ts K => as1 ts fun t0 => arQ pCurT t0 fun c => chk (CurOk c) (∀ (m : Mem) (d : Cur), (LMem m 24 ∧ CurOk d) → K (tG (m.tc true [])) ([curOut d]))⟩
theorem run_spec_l8Draw (c : Cur) (hpre : CurOk c) {K : Tree → List Tree → Prop} (hK : ∀ (m : Mem) (d : Cur), (LMem m 24 ∧ CurOk d) → K (tG (m.tc true [])) ([curOut d])) : runK [c_spec_l1Below, c_spec_l3Draw, c_spec_l8DrawRight] (0) [true] pf_spec_l8Draw [.v (.ptr true 0 (c.tc []))] K := by
  conv => whnf
  repeat' (first | (refine sel_i (fun h => ?_) (fun h => ?_) <;> conv => whnf) | (refine chk_c ?_ ?_ <;> conv => whnf) | (refine And.intro ?_ rfl) | (refine And.intro ?_ ?_ <;> conv => whnf) | (intro x y z d hd; (try have g1 := And.left hd); (try have g2 := And.right hd); (try have g3 := And.left (And.right hd)); (try have g4 := And.right (And.right hd)); conv => whnf) | (intro x y d hd; (try have g1 := And.left hd); (try have g2 := And.right hd); (try have g3 := And.left (And.right hd)); (try have g4 := And.right (And.right hd)); conv => whnf) | (intro x d hd; (try have g1 := And.left hd); (try have g2 := And.right hd); (try have g3 := And.left (And.right hd)); (try have g4 := And.right (And.right hd)); conv => whnf) | (intro d hd; (try have g1 := And.left hd); (try have g2 := And.right hd); (try have g3 := And.left (And.right hd)); (try have g4 := And.right (And.right hd)); conv => whnf))
  all_goals first
    | (refine ⟨?_⟩; exact hd)
    | (refine ⟨?_⟩; exact hd.2)
    | (refine ⟨?_⟩; exact hd.2.2)
    | (refine ⟨?_⟩; exact hpre)
    | (refine ⟨?_⟩; exact ⟨hd, by simp⟩)
    | (refine ⟨?_⟩; exact ⟨hd.2, by simp⟩)
    | (refine ⟨?_⟩; decide)
    | (refine ⟨?_⟩; rfl)
    | (refine ⟨?_⟩; have := memoryOk_iff.1 (by assumption); simp at *; omega)
    | (exact kMem (fun m hm => hK m _ hm) _ _ ⟨lMem_of (by assumption), hd.2⟩)
    | (have hl := lMem_of (by assumption); exact kMem (fun m hm => hK m _ hm) _ _ ⟨⟨hl.1, Nat.zero_le _⟩, hd.2⟩)
    | (have hl := memoryOk_iff.1 (by assumption); exact kMem (fun m hm => hK m _ hm) _ _ ⟨⟨by simp [win]; omega, by dsimp only; omega⟩, hd.2⟩)
    | (have hl := memoryOk_iff.1 (by assumption); exact kMem (fun m hm => hK m _ hm) _ _ ⟨⟨by simp; omega, by dsimp only; omega⟩, hd⟩)
    | trace_state
theorem ok_spec_l8Draw : FunOk Try.prog c_spec_l8Draw := funOkR (E := [c_spec_l1Below, c_spec_l3Draw, c_spec_l8DrawRight]) (envOk_cons ok_spec_l1Below (envOk_cons ok_spec_l3Draw (envOk_cons ok_spec_l8DrawRight (envOk_nil)))) mixd Try.func82 (pf := pf_spec_l8Draw) (by kernel_rfl) fun ts K h => by
  obtain ⟨t0, e0, h⟩ := as1_out h
  subst e0
  obtain ⟨c, e1, hq⟩ := arQ_out rd_cur h
  clear h
  subst e1
  have h := hq
  clear hq
  obtain ⟨hpre, h⟩ := chk_o h
  exact ⟨Nat.le_of_ble_eq_true (show Nat.ble 1 Try.f82.ntmps = true by kernel_rfl), _, run_spec_l8Draw c hpre h⟩


theorem U8s.app {a b : List Int} (ha : U8s a) (hb : U8s b) : U8s (a ++ b) := fun x hx => by
  rcases List.mem_append.1 hx with q | q
  · exact ha x q
  · exact hb x q
theorem U8s.put {a : List Int} (ha : U8s a) {i : Nat} {v : Int} (hv : 0 ≤ v ∧ v ≤ 255) : U8s (a.set i v) := fun x hx => by
  rcases mem_set hx with q | q
  · exact ha x q
  · rw [q]; exact hv

theorem eq_end {α : Type} [DecidableEq α] {xs ys : List α} {i : Nat} (hl : xs.length = ys.length) (h : xs.length ≤ i) (he : xs.take i = ys.take i) : decide (xs = ys) = true := by
  rw [List.take_of_length_le h, List.take_of_length_le (by omega)] at he
  exact decide_eq_true he
theorem eq_no {α : Type} [DecidableEq α] {xs ys : List α} {i : Nat} {z : α} (hne : ¬ xs.getD i z = ys.getD i z) : decide (xs = ys) = false :=
  decide_eq_false fun e => hne (by rw [e])
theorem eq_yes {α : Type} {xs ys : List α} {i : Nat} {z : α} (hl : xs.length = ys.length) (h : i < xs.length) (hq : xs.getD i z = ys.getD i z) (he : xs.take i = ys.take i) : xs.take (i + 1) = ys.take (i + 1) := by
  have h2 : i < ys.length := by omega
  rw [List.take_add_one, List.take_add_one, he, List.getElem?_eq_getElem h, List.getElem?_eq_getElem h2]
  rw [List.getD_eq_getElem?_getD, List.getD_eq_getElem?_getD, List.getElem?_eq_getElem h, List.getElem?_eq_getElem h2] at hq
  simp only [Option.getD_some] at hq
  rw [hq]
theorem len_ne {α : Type} [DecidableEq α] {xs ys : List α} (h : ((xs.length : Int) != (ys.length : Int)) = true) : decide (xs = ys) = false :=
  decide_eq_false fun e => by rw [e] at h; simp at h
theorem len_eq {α : Type} {xs ys : List α} (h : ((xs.length : Int) != (ys.length : Int)) = false) : xs.length = ys.length := by
  simp at h; omega
theorem eqWd {a b : Word} : (a.n == b.n && (a.is == b.is && (a.key.base == b.key.base && (a.key.top == b.key.top && (a.key.perms == b.key.perms && a.key.sealed == b.key.sealed))))) = decide (a = b) := by
  obtain ⟨a1, a2, a3, a4, a5, a6⟩ := a
  obtain ⟨b1, b2, b3, b4, b5, b6⟩ := b
  rw [Bool.eq_iff_iff]
  simp
def lb_laws_sameWords_0 : PC := .seq (.seq (.reg [.s (.mv 11 (.t 5)), .s (.mv 12 (.t 0)), .s (.len 13 false (.t 12)), .s (.bin 14 .lss (.t 11) (.t 13))]) (.cond (.t 14) (.skip) (.exit 0))) (.seq (.blk 1 (.seq (.rgd [] [.s (.mv 17 (.t 0)), .s (.mv 18 (.t 5)), .s (.ia 19 .word (.t 17) (.t 18)), .s (.load 20 true 6 (.t 19)), .s (.mv 21 (.t 1)), .s (.mv 22 (.t 5)), .s (.ia 23 .word (.t 21) (.t 22)), .s (.load 24 true 6 (.t 23)), .s (.eqs 25 true [.i, .b, .i, .i, .i, .i] true (.t 20) (.t 24))] (.tk 0 (.tk 1 (.tk 2 (.tk 3 (.tk 4 (.tk 5 (.tk 6 (.tk 7 (.tk 8 (.done none))))))))))) (.cond (.t 25) (.seq (.reg [.s (.mv 4 (.k (.v (.c .ff))))]) (.ret)) (.skip)))) (.reg [.s (.mv 15 (.t 5)), .s (.bin 16 .add (.t 15) (.k (.v (.c (.int .i64 1))))), .s (.mv 5 (.t 16))]))
def pf_laws_sameWords : PF := ⟨[.t 4], .seq (.reg [.s (.mv 4 (.k (.v (.c .ff))))]) (.seq (.seq (.reg [.s (.mv 6 (.t 0)), .s (.len 7 false (.t 6)), .s (.mv 8 (.t 1)), .s (.len 9 false (.t 8)), .s (.bin 10 .neq (.t 7) (.t 9))]) (.cond (.t 10) (.seq (.reg [.s (.mv 4 (.k (.v (.c .ff))))]) (.ret)) (.skip))) (.seq (.seq (.reg [.s (.mv 5 (.k (.v (.c (.int .i64 0)))))]) (.blk 0 (.loop [0, 1, 5] lb_laws_sameWords_0))) (.seq (.reg [.s (.mv 4 (.k (.v (.c .tt))))]) (.ret))))⟩
def c_laws_sameWords : Fun := ⟨18, [], fun ts K => as2 ts fun t0 t1 => arC (pL .word) t0 fun a => arC (pL .word) t1 fun b => chk (a.length ≤ 2147483647 ∧ b.length ≤ 2147483647) (K (tB (decide (a = b))) [])⟩
theorem run_laws_sameWords (a : List (FT.Ty .word)) (b : List (FT.Ty .word)) (hpre : a.length ≤ 2147483647 ∧ b.length ≤ 2147483647) : runK [] (a.length + 1) [] pf_laws_sameWords [tL false .word a, tL false .word b] fun r o => r = tB (decide (a = b)) ∧ o = [] := by
  obtain ⟨l1, l2⟩ := hpre
  conv => whnf
  refine sel_i (fun h => ?_) (fun h => ?_) <;> conv => whnf
  · rw [len_ne h]; exact ⟨rfl, rfl⟩
  have hl := len_eq h
  clear h
  refine loop (α := Nat) (fun i => ⟨[(0, .v (.c (.sl false .word 0))), (1, .v (.c (.sl false .word 1))), (5, .v (.c (.int .i64 (i : Int))))], [(1, some (.flat false .word none b)), (0, some (.flat false .word none a))], nums.tail.tail, [], false, []⟩)
      (fun i => i ≤ a.length ∧ a.take i = b.take i) (fun i => a.length - i) (fun i R hI hR => ?_) 0 _ ⟨by simp, by simp⟩ (by omega)
  obtain ⟨hi, hx⟩ := hI
  conv => whnf
  repeat' (first | (refine sel_i (fun h => ?_) (fun h => ?_) <;> conv => whnf) | (refine chk_c ?_ ?_ <;> conv => whnf) | (refine And.intro ?_ rfl) | (refine And.intro ?_ ?_ <;> conv => whnf))
  all_goals (try simp only [eqWd, etaKey, etaWord, Int.toNat_natCast, Bool.not_eq_true', Bool.not_eq_false', decide_eq_true_eq, decide_eq_false_iff_not] at *)
  all_goals first
    | (refine ⟨?_⟩; omega)
    | (rw [eq_no (z := FT.zero .word) (by assumption)]; done)
    | (rw [eq_end hl (by omega) hx]; done)
    | (rw [wrap_id (n := (i : Int) + 1) (by omega) (by omega)]; exact hR (i + 1) ⟨by omega, eq_yes (z := FT.zero .word) hl (by omega) (by assumption) hx⟩ (by omega))
    | trace_state
theorem ok_laws_sameWords : FunOk Try.prog c_laws_sameWords := funOk (E := []) (envOk_nil) mixd Try.func18 (pf := pf_laws_sameWords) (by kernel_rfl) fun ts K h => by
  obtain ⟨t0, t1, e0, h⟩ := as2_out h
  subst e0
  obtain ⟨a, e1, hq⟩ := arC_out (rd_l .word) h
  clear h
  subst e1
  have h := hq
  clear hq
  obtain ⟨b, e1, hq⟩ := arC_out (rd_l .word) h
  clear h
  subst e1
  have h := hq
  clear hq
  obtain ⟨hpre, h⟩ := chk_o h
  exact ⟨_, _, h, Nat.le_of_ble_eq_true (show Nat.ble 2 Try.f18.ntmps = true by kernel_rfl), _, run_laws_sameWords a b hpre⟩









theorem eqId {a b : Inst} : (a.op == b.op && (a.r == b.r && (a.a == b.a && (a.b == b.b && a.n == b.n)))) = decide (a = b) := by
  obtain ⟨a1, a2, a3, a4, a5⟩ := a
  obtain ⟨b1, b2, b3, b4, b5⟩ := b
  rw [Bool.eq_iff_iff]
  simp

def lb_laws_sameInts_0 : PC := .seq (.seq (.reg [.s (.mv 11 (.t 5)), .s (.mv 12 (.t 0)), .s (.len 13 false (.t 12)), .s (.bin 14 .lss (.t 11) (.t 13))]) (.cond (.t 14) (.skip) (.exit 0))) (.seq (.blk 1 (.seq (.rgd [] [.s (.mv 17 (.t 0)), .s (.mv 18 (.t 5)), .s (.ia 19 (.int .i64) (.t 17) (.t 18)), .s (.load 20 false 1 (.t 19)), .s (.mv 21 (.t 1)), .s (.mv 22 (.t 5)), .s (.ia 23 (.int .i64) (.t 21) (.t 22)), .s (.load 24 false 1 (.t 23)), .s (.bin 25 .neq (.t 20) (.t 24))] (.tk 0 (.tk 1 (.tk 2 (.tk 3 (.tk 4 (.tk 5 (.tk 6 (.tk 7 (.tk 8 (.done none))))))))))) (.cond (.t 25) (.seq (.reg [.s (.mv 4 (.k (.v (.c .ff))))]) (.ret)) (.skip)))) (.reg [.s (.mv 15 (.t 5)), .s (.bin 16 .add (.t 15) (.k (.v (.c (.int .i64 1))))), .s (.mv 5 (.t 16))]))
def pf_laws_sameInts : PF := ⟨[.t 4], .seq (.reg [.s (.mv 4 (.k (.v (.c .ff))))]) (.seq (.seq (.reg [.s (.mv 6 (.t 0)), .s (.len 7 false (.t 6)), .s (.mv 8 (.t 1)), .s (.len 9 false (.t 8)), .s (.bin 10 .neq (.t 7) (.t 9))]) (.cond (.t 10) (.seq (.reg [.s (.mv 4 (.k (.v (.c .ff))))]) (.ret)) (.skip))) (.seq (.seq (.reg [.s (.mv 5 (.k (.v (.c (.int .i64 0)))))]) (.blk 0 (.loop [0, 1, 5] lb_laws_sameInts_0))) (.seq (.reg [.s (.mv 4 (.k (.v (.c .tt))))]) (.ret))))⟩
def c_laws_sameInts : Fun := ⟨20, [], fun ts K => as2 ts fun t0 t1 => arC (pL (.int .i64)) t0 fun a => arC (pL (.int .i64)) t1 fun b => chk (a.length ≤ 2147483647 ∧ b.length ≤ 2147483647) (K (tB (decide (a = b))) [])⟩
theorem run_laws_sameInts (a : List (FT.Ty (.int .i64))) (b : List (FT.Ty (.int .i64))) (hpre : a.length ≤ 2147483647 ∧ b.length ≤ 2147483647) : runK [] (a.length + 1) [] pf_laws_sameInts [tL false (.int .i64) a, tL false (.int .i64) b] fun r o => r = tB (decide (a = b)) ∧ o = [] := by
  obtain ⟨l1, l2⟩ := hpre
  conv => whnf
  refine sel_i (fun h => ?_) (fun h => ?_) <;> conv => whnf
  · rw [len_ne h]; exact ⟨rfl, rfl⟩
  have hl := len_eq h
  clear h
  refine loop (α := Nat) (fun i => ⟨[(0, .v (.c (.sl false (.int .i64) 0))), (1, .v (.c (.sl false (.int .i64) 1))), (5, .v (.c (.int .i64 (i : Int))))], [(1, some (.flat false (.int .i64) none b)), (0, some (.flat false (.int .i64) none a))], nums.tail.tail, [], false, []⟩)
      (fun i => i ≤ a.length ∧ a.take i = b.take i) (fun i => a.length - i) (fun i R hI hR => ?_) 0 _ ⟨by simp, by simp⟩ (by omega)
  obtain ⟨hi, hx⟩ := hI
  conv => whnf
  repeat' (first | (refine sel_i (fun h => ?_) (fun h => ?_) <;> conv => whnf) | (refine chk_c ?_ ?_ <;> conv => whnf) | (refine And.intro ?_ rfl) | (refine And.intro ?_ ?_ <;> conv => whnf))
  all_goals (try simp only [eqId, etaInst, Int.toNat_natCast, Bool.not_eq_true', Bool.not_eq_false', decide_eq_true_eq, decide_eq_false_iff_not, bne_iff_ne, bne_eq_false_iff_eq] at *)
  all_goals first
    | (refine ⟨?_⟩; omega)
    | (rw [eq_no (z := (FT.zero (.int .i64))) (i := i) (by first | assumption | simpa using h)]; done)
    | (rw [eq_end hl (by omega) hx]; done)
    | (rw [wrap_id (n := (i : Int) + 1) (by omega) (by omega)]; exact hR (i + 1) ⟨by omega, eq_yes (z := (FT.zero (.int .i64))) hl (by omega) (by first | assumption | simpa using h) hx⟩ (by omega))
    | trace_state
theorem ok_laws_sameInts : FunOk Try.prog c_laws_sameInts := funOk (E := []) (envOk_nil) mixd Try.func20 (pf := pf_laws_sameInts) (by kernel_rfl) fun ts K h => by
  obtain ⟨t0, t1, e0, h⟩ := as2_out h
  subst e0
  obtain ⟨a, e1, hq⟩ := arC_out (rd_l (.int .i64)) h
  clear h
  subst e1
  have h := hq
  clear hq
  obtain ⟨b, e1, hq⟩ := arC_out (rd_l (.int .i64)) h
  clear h
  subst e1
  have h := hq
  clear hq
  obtain ⟨hpre, h⟩ := chk_o h
  exact ⟨_, _, h, Nat.le_of_ble_eq_true (show Nat.ble 2 Try.f20.ntmps = true by kernel_rfl), _, run_laws_sameInts a b hpre⟩

def Dis (out : List Word) : Prop := out.Pairwise (fun a b => a.key ≠ b.key)
theorem dis_put {out : List Word} {w : Word} (h : Dis out) : Dis (putW out w) := by
  by_cases h1 : w.is = true
  · by_cases h2 : wordOk w = true
    · by_cases h3 : hasKey out w.key = true
      · rw [putW_has h3]; exact h
      · rw [putW_yes h2 h1 (by simpa using h3)]
        refine List.pairwise_append.2 ⟨h, List.pairwise_singleton _ _, fun a ha b hb => ?_⟩
        rw [List.mem_singleton.1 hb]
        exact fun e => h3 (hasKey_iff.2 ⟨a, ha, e⟩)
    · rw [putW_ok (by simpa using h2)]; exact h
  · rw [putW_is (by simpa using h1)]; exact h
theorem dis_fold : ∀ {l out : List Word}, Dis out → Dis (l.foldl putW out)
  | [], _, h => h
  | _ :: l, _, h => dis_fold (l := l) (dis_put h)
theorem dis_scan {ws : List Word} : ∀ {n c : Nat} {out : List Word}, Dis out → Dis (scan ws n c out)
  | 0, _, _, h => h
  | n + 1, c, out, h => dis_scan (n := n) (c := c + 1) (dis_put (w := ws.getD c (FT.zero .word)) h)
theorem dis_step {ws out : List Word} {k : Key} (h : Dis out) : Dis (closStep ws out k) := by
  unfold closStep; split
  · exact dis_scan h
  · exact h
theorem dis_go {ws : List Word} : ∀ {n i : Nat} {out : List Word}, Dis out → Dis (closGo ws n i out)
  | 0, _, _, h => h
  | n + 1, i, out, h => by
    unfold closGo; split
    · exact dis_go (dis_step h)
    · exact h
theorem dis_closure (m : Mem) (l : List Word) : Dis (closure m l) := by
  unfold closure; split
  · exact dis_go (dis_fold (l := l) (out := []) List.Pairwise.nil)
  · exact List.Pairwise.nil
theorem fold_dis : ∀ {l out : List Word}, Dis (out ++ l) → WOut l → l.foldl putW out = out ++ l
  | [], out, _, _ => by simp
  | w :: l, out, h, hw => by
    obtain ⟨g1, g2⟩ := hw w (by simp)
    have h2 := List.pairwise_append.1 h
    have h3 : hasKey out w.key = false := by
      cases e : hasKey out w.key with
      | false => rfl
      | true =>
        obtain ⟨x, hx, e2⟩ := hasKey_iff.1 e
        exact absurd e2 (h2.2.2 x hx w (by simp))
    show l.foldl putW (putW out w) = _
    rw [putW_yes g1 g2 h3, fold_dis (l := l) (by simpa [List.append_assoc] using h) (fun x hx => hw x (List.mem_cons_of_mem _ hx))]
    simp
theorem scan_id {ws : List Word} : ∀ {n c : Nat} {out : List Word}, (∀ j : Nat, c ≤ j → j < c + n → (ws.getD j (FT.zero .word)).is = true → hasKey out (ws.getD j (FT.zero .word)).key = true) → scan ws n c out = out
  | 0, _, _, _ => rfl
  | n + 1, c, out, h => by
    have e : putW out (ws.getD c (FT.zero .word)) = out := by
      by_cases h1 : (ws.getD c (FT.zero .word)).is = true
      · exact putW_has (h c (Nat.le_refl _) (by omega) h1)
      · exact putW_is (by simpa using h1)
    show scan ws n (c + 1) (putW out _) = out
    rw [e]
    exact scan_id (fun j h1 h2 h3 => h j (by omega) (by omega) h3)
theorem step_id {ws out : List Word} {k : Key} (h : Cov ws out k) : closStep ws out k = out := by
  unfold closStep; split
  · exact scan_id (h (by assumption))
  · rfl
theorem go_id {ws : List Word} : ∀ {n i : Nat} {out : List Word}, (∀ k ∈ out, Cov ws out k.key) → closGo ws n i out = out
  | 0, _, _, _ => rfl
  | n + 1, i, out, h => by
    unfold closGo; split
    · rename_i hi
      rw [step_id (h _ (getD_mem hi))]
      exact go_id h
    · rfl
theorem closure_idem {m : Mem} {l : List Word} (hm : memoryOk m = true) : closure m (closure m l) = closure m l := by
  have hd := dis_closure m l
  have hw := closure_out m l
  have hc : ∀ k ∈ closure m l, Cov m.words (closure m l) k.key := fun k hk => closure_cov hm hk
  generalize closure m l = C at *
  unfold closure closFirst
  rw [if_pos hm, fold_dis (out := []) (by simpa using hd) hw]
  exact go_id (by simpa using hc)

def lb_spec_DrawClosure_0 : PC := .seq (.seq (.reg [.s (.mv 13 (.t 7)), .s (.mv 14 (.t 4)), .s (.call (some 15) 83 [(.t 14), (.k (.v (.c (.int .i64 4))))]), .s (.bin 16 .lss (.t 13) (.t 15))]) (.cond (.t 16) (.skip) (.exit 0))) (.seq (.blk 1 (.reg [.s (.mv 19 (.t 6)), .s (.mv 20 (.t 4)), .s (.call (some 21) 84 [(.t 20)]), .s (.bs 22 .word [(.t 21)]), .s (.app 23 .word (.t 19) (.t 22)), .s (.mv 6 (.t 23))])) (.reg [.s (.mv 17 (.t 7)), .s (.bin 18 .add (.t 17) (.k (.v (.c (.int .i64 1))))), .s (.mv 7 (.t 18))]))
def pf_spec_DrawClosure : PF := ⟨[.c 2 true 2, .t 3], .seq (.reg [.s (.alloc 2 [.nils .word, .nils .bool]), .s (.mv 3 (.k (.v (.c (.nils .word)))))]) (.seq (.reg [.s (.mv 8 (.t 0)), .s (.call (some 9) 81 [(.t 8)]), .s (.mv 4 (.t 9))]) (.seq (.reg [.s (.mv 10 (.t 4)), .s (.call (some 11) 82 [(.t 10)]), .s (.alloc 5 [.nils .word, .nils .bool]), .s (.store 2 (.t 5) (.t 11))]) (.seq (.reg [.s (.bs 12 .word []), .s (.mv 6 (.t 12))]) (.seq (.seq (.reg [.s (.mv 7 (.k (.v (.c (.int .i64 0)))))]) (.blk 0 (.loop [2, 4, 5, 6, 7] lb_spec_DrawClosure_0))) (.seq (.reg [.s (.load 24 true 2 (.t 5)), .s (.mv 25 (.t 6)), .s (.store 2 (.t 2) (.t 24)), .s (.mv 3 (.t 25))]) (.ret))))))⟩
def c_spec_DrawClosure : Fun := ⟨13, [], fun ts K => as1 ts fun t0 => arC (pL (.int .u8)) t0 fun code => chk (code.length ≤ 1048576) (∀ (m : Mem) (l : List Word), (LMem m 24 ∧ l.length ≤ 4) → K (.tup [.g (m.tc true []), .c (tl true .word l)]) [])⟩
theorem run_spec_DrawClosure (FU : Nat) (code : List (FT.Ty (.int .u8))) (hpre : code.length ≤ 1048576) {K : Tree → List Tree → Prop} (hK : ∀ (m : Mem) (l : List Word), (LMem m 24 ∧ l.length ≤ 4) → K (.tup [.g (m.tc true []), .c (tl true .word l)]) []) : runK [c_spec_l1New, c_spec_l8Draw, c_spec_l1Below, c_spec_l3Draw] (100 + FU) [] pf_spec_DrawClosure [tL false (.int .u8) code] K := by
  conv => whnf
  repeat' (first | (refine sel_i (fun h => ?_) (fun h => ?_) <;> conv => whnf) | (refine chk_c ?_ ?_ <;> conv => whnf) | (refine And.intro ?_ rfl) | (refine And.intro ?_ ?_ <;> conv => whnf) | (intro x y z d hd; (try have g1 := And.left hd); (try have g2 := And.right hd); (try have g3 := And.left (And.right hd)); (try have g4 := And.right (And.right hd)); conv => whnf) | (intro x y d hd; (try have g1 := And.left hd); (try have g2 := And.right hd); (try have g3 := And.left (And.right hd)); (try have g4 := And.right (And.right hd)); conv => whnf) | (intro x d hd; (try have g1 := And.left hd); (try have g2 := And.right hd); (try have g3 := And.left (And.right hd)); (try have g4 := And.right (And.right hd)); conv => whnf) | (intro d hd; (try have g1 := And.left hd); (try have g2 := And.right hd); (try have g3 := And.left (And.right hd)); (try have g4 := And.right (And.right hd)); conv => whnf))
  all_goals first
    | (refine ⟨?_⟩; exact hd)
    | (refine ⟨?_⟩; exact hpre)
    | skip
  obtain ⟨hx, hc⟩ := hd
  have hK2 := fun l hl => hK x l ⟨hx, hl⟩
  clear g1 g2 g3 g4 hK
  refine loop (α := Nat × Cur × List Word) (fun q => ⟨[(2, .v (.c (.ptr 0 0))), (4, .v (.c (.ptr 1 0))), (5, .v (.c (.ptr 3 0))), (6, .v (.c (.sl true .word 6))), (7, .v (.c (.int .i64 (q.1 : Int))))],
        [(6, some (.flat true .word none q.2.2)), (5, some (.flat true .bool none x.gone)), (4, some (.flat true .word none x.words)), (3, some (.box true [.sl false .word 4, .sl false .bool 5])),
          (2, some (.flat false (.int .u8) none q.2.1.b)), (1, some (.box true (cuC q.2.1 2))), (0, some (.box true [.nils .word, .nils .bool]))], nums.tail.tail.tail.tail.tail.tail.tail, [], false, []⟩)
      (fun q => q.1 ≤ 4 ∧ CurOk q.2.1 ∧ q.2.2.length = q.1) (fun q => 4 - q.1) (fun q R hI hR => ?_) (0, d, []) _ ⟨Nat.zero_le _, hc, rfl⟩ (by show 4 - 0 < 100 + FU; omega)
  obtain ⟨i, e, m⟩ := q
  obtain ⟨hi, he, hm⟩ := hI
  dsimp only at hi he hm
  dsimp only
  conv => whnf
  repeat' (first | (refine sel_i (fun h => ?_) (fun h => ?_) <;> conv => whnf) | (refine chk_c ?_ ?_ <;> conv => whnf) | (refine And.intro ?_ rfl) | (refine And.intro ?_ ?_ <;> conv => whnf) | (intro x y z d hd; (try have g1 := And.left hd); (try have g2 := And.right hd); (try have g3 := And.left (And.right hd)); (try have g4 := And.right (And.right hd)); conv => whnf) | (intro x y d hd; (try have g1 := And.left hd); (try have g2 := And.right hd); (try have g3 := And.left (And.right hd)); (try have g4 := And.right (And.right hd)); conv => whnf) | (intro x d hd; (try have g1 := And.left hd); (try have g2 := And.right hd); (try have g3 := And.left (And.right hd)); (try have g4 := And.right (And.right hd)); conv => whnf) | (intro d hd; (try have g1 := And.left hd); (try have g2 := And.right hd); (try have g3 := And.left (And.right hd)); (try have g4 := And.right (And.right hd)); conv => whnf))
  all_goals (try simp only [etaKey, etaWord] at *)
  all_goals first
    | (refine ⟨?_⟩; exact he)
    | (refine ⟨?_⟩; exact hd)
    | (refine ⟨?_⟩; exact hd.2)
    | (refine ⟨?_⟩; simp at *; omega)
    | (exact hK2 m (by omega))
    | (rw [wrap_id (n := (i : Int) + 1) (by omega) (by omega)]
       have h := of_decide_eq_true h
       refine hR (i + 1, _, _) ⟨?_, ?_, ?_⟩ ?_
       · dsimp only; omega
       · first | exact hd | exact hd.2
       · simp [hm]
       · dsimp only; omega)
    | trace_state
theorem ok_spec_DrawClosure : FunOk Try.prog c_spec_DrawClosure := funOkR (E := [c_spec_l1New, c_spec_l8Draw, c_spec_l1Below, c_spec_l3Draw]) (envOk_cons ok_spec_l1New (envOk_cons ok_spec_l8Draw (envOk_cons ok_spec_l1Below (envOk_cons ok_spec_l3Draw (envOk_nil))))) mixd Try.func13 (pf := pf_spec_DrawClosure) (by kernel_rfl) fun ts K h => by
  obtain ⟨t0, e0, h⟩ := as1_out h
  subst e0
  obtain ⟨code, e1, hq⟩ := arC_out (rd_l (.int .u8)) h
  clear h
  subst e1
  have h := hq
  clear hq
  obtain ⟨hpre, h⟩ := chk_o h
  exact ⟨Nat.le_of_ble_eq_true (show Nat.ble 1 Try.f13.ntmps = true by kernel_rfl), _, run_spec_DrawClosure 0 code hpre h⟩

def lb_spec_DrawLoadCells_0 : PC := .seq (.seq (.reg [.s (.mv 13 (.t 7)), .s (.mv 14 (.t 4)), .s (.call (some 15) 83 [(.t 14), (.k (.v (.c (.int .i64 4))))]), .s (.bin 16 .lss (.t 13) (.t 15))]) (.cond (.t 16) (.skip) (.exit 0))) (.seq (.blk 1 (.reg [.s (.mv 19 (.t 6)), .s (.mv 20 (.t 4)), .s (.call (some 21) 84 [(.t 20)]), .s (.bs 22 .word [(.t 21)]), .s (.app 23 .word (.t 19) (.t 22)), .s (.mv 6 (.t 23))])) (.reg [.s (.mv 17 (.t 7)), .s (.bin 18 .add (.t 17) (.k (.v (.c (.int .i64 1))))), .s (.mv 7 (.t 18))]))
def pf_spec_DrawLoadCells : PF := ⟨[.c 2 true 2, .t 3], .seq (.reg [.s (.alloc 2 [.nils .word, .nils .bool]), .s (.mv 3 (.k (.v (.c (.nils .word)))))]) (.seq (.reg [.s (.mv 8 (.t 0)), .s (.call (some 9) 81 [(.t 8)]), .s (.mv 4 (.t 9))]) (.seq (.reg [.s (.mv 10 (.t 4)), .s (.call (some 11) 82 [(.t 10)]), .s (.alloc 5 [.nils .word, .nils .bool]), .s (.store 2 (.t 5) (.t 11))]) (.seq (.reg [.s (.bs 12 .word []), .s (.mv 6 (.t 12))]) (.seq (.seq (.reg [.s (.mv 7 (.k (.v (.c (.int .i64 0)))))]) (.blk 0 (.loop [2, 4, 5, 6, 7] lb_spec_DrawLoadCells_0))) (.seq (.reg [.s (.load 24 true 2 (.t 5)), .s (.mv 25 (.t 6)), .s (.store 2 (.t 2) (.t 24)), .s (.mv 3 (.t 25))]) (.ret))))))⟩
def c_spec_DrawLoadCells : Fun := ⟨15, [], fun ts K => as1 ts fun t0 => arC (pL (.int .u8)) t0 fun code => chk (code.length ≤ 1048576) (∀ (m : Mem) (l : List Word), (LMem m 24 ∧ l.length ≤ 4) → K (.tup [.g (m.tc true []), .c (tl true .word l)]) [])⟩
theorem run_spec_DrawLoadCells (FU : Nat) (code : List (FT.Ty (.int .u8))) (hpre : code.length ≤ 1048576) {K : Tree → List Tree → Prop} (hK : ∀ (m : Mem) (l : List Word), (LMem m 24 ∧ l.length ≤ 4) → K (.tup [.g (m.tc true []), .c (tl true .word l)]) []) : runK [c_spec_l1New, c_spec_l8Draw, c_spec_l1Below, c_spec_l3Draw] (100 + FU) [] pf_spec_DrawLoadCells [tL false (.int .u8) code] K := by
  conv => whnf
  repeat' (first | (refine sel_i (fun h => ?_) (fun h => ?_) <;> conv => whnf) | (refine chk_c ?_ ?_ <;> conv => whnf) | (refine And.intro ?_ rfl) | (refine And.intro ?_ ?_ <;> conv => whnf) | (intro x y z d hd; (try have g1 := And.left hd); (try have g2 := And.right hd); (try have g3 := And.left (And.right hd)); (try have g4 := And.right (And.right hd)); conv => whnf) | (intro x y d hd; (try have g1 := And.left hd); (try have g2 := And.right hd); (try have g3 := And.left (And.right hd)); (try have g4 := And.right (And.right hd)); conv => whnf) | (intro x d hd; (try have g1 := And.left hd); (try have g2 := And.right hd); (try have g3 := And.left (And.right hd)); (try have g4 := And.right (And.right hd)); conv => whnf) | (intro d hd; (try have g1 := And.left hd); (try have g2 := And.right hd); (try have g3 := And.left (And.right hd)); (try have g4 := And.right (And.right hd)); conv => whnf))
  all_goals first
    | (refine ⟨?_⟩; exact hd)
    | (refine ⟨?_⟩; exact hpre)
    | skip
  obtain ⟨hx, hc⟩ := hd
  have hK2 := fun l hl => hK x l ⟨hx, hl⟩
  clear g1 g2 g3 g4 hK
  refine loop (α := Nat × Cur × List Word) (fun q => ⟨[(2, .v (.c (.ptr 0 0))), (4, .v (.c (.ptr 1 0))), (5, .v (.c (.ptr 3 0))), (6, .v (.c (.sl true .word 6))), (7, .v (.c (.int .i64 (q.1 : Int))))],
        [(6, some (.flat true .word none q.2.2)), (5, some (.flat true .bool none x.gone)), (4, some (.flat true .word none x.words)), (3, some (.box true [.sl false .word 4, .sl false .bool 5])),
          (2, some (.flat false (.int .u8) none q.2.1.b)), (1, some (.box true (cuC q.2.1 2))), (0, some (.box true [.nils .word, .nils .bool]))], nums.tail.tail.tail.tail.tail.tail.tail, [], false, []⟩)
      (fun q => q.1 ≤ 4 ∧ CurOk q.2.1 ∧ q.2.2.length = q.1) (fun q => 4 - q.1) (fun q R hI hR => ?_) (0, d, []) _ ⟨Nat.zero_le _, hc, rfl⟩ (by show 4 - 0 < 100 + FU; omega)
  obtain ⟨i, e, m⟩ := q
  obtain ⟨hi, he, hm⟩ := hI
  dsimp only at hi he hm
  dsimp only
  conv => whnf
  repeat' (first | (refine sel_i (fun h => ?_) (fun h => ?_) <;> conv => whnf) | (refine chk_c ?_ ?_ <;> conv => whnf) | (refine And.intro ?_ rfl) | (refine And.intro ?_ ?_ <;> conv => whnf) | (intro x y z d hd; (try have g1 := And.left hd); (try have g2 := And.right hd); (try have g3 := And.left (And.right hd)); (try have g4 := And.right (And.right hd)); conv => whnf) | (intro x y d hd; (try have g1 := And.left hd); (try have g2 := And.right hd); (try have g3 := And.left (And.right hd)); (try have g4 := And.right (And.right hd)); conv => whnf) | (intro x d hd; (try have g1 := And.left hd); (try have g2 := And.right hd); (try have g3 := And.left (And.right hd)); (try have g4 := And.right (And.right hd)); conv => whnf) | (intro d hd; (try have g1 := And.left hd); (try have g2 := And.right hd); (try have g3 := And.left (And.right hd)); (try have g4 := And.right (And.right hd)); conv => whnf))
  all_goals (try simp only [etaKey, etaWord] at *)
  all_goals first
    | (refine ⟨?_⟩; exact he)
    | (refine ⟨?_⟩; exact hd)
    | (refine ⟨?_⟩; exact hd.2)
    | (refine ⟨?_⟩; simp at *; omega)
    | (exact hK2 m (by omega))
    | (rw [wrap_id (n := (i : Int) + 1) (by omega) (by omega)]
       have h := of_decide_eq_true h
       refine hR (i + 1, _, _) ⟨?_, ?_, ?_⟩ ?_
       · dsimp only; omega
       · first | exact hd | exact hd.2
       · simp [hm]
       · dsimp only; omega)
    | trace_state
theorem ok_spec_DrawLoadCells : FunOk Try.prog c_spec_DrawLoadCells := funOkR (E := [c_spec_l1New, c_spec_l8Draw, c_spec_l1Below, c_spec_l3Draw]) (envOk_cons ok_spec_l1New (envOk_cons ok_spec_l8Draw (envOk_cons ok_spec_l1Below (envOk_cons ok_spec_l3Draw (envOk_nil))))) mixd Try.func15 (pf := pf_spec_DrawLoadCells) (by kernel_rfl) fun ts K h => by
  obtain ⟨t0, e0, h⟩ := as1_out h
  subst e0
  obtain ⟨code, e1, hq⟩ := arC_out (rd_l (.int .u8)) h
  clear h
  subst e1
  have h := hq
  clear hq
  obtain ⟨hpre, h⟩ := chk_o h
  exact ⟨Nat.le_of_ble_eq_true (show Nat.ble 1 Try.f15.ntmps = true by kernel_rfl), _, run_spec_DrawLoadCells 0 code hpre h⟩

def lb_spec_DrawStoreCells_0 : PC := .seq (.seq (.reg [.s (.mv 13 (.t 7)), .s (.mv 14 (.t 4)), .s (.call (some 15) 83 [(.t 14), (.k (.v (.c (.int .i64 4))))]), .s (.bin 16 .lss (.t 13) (.t 15))]) (.cond (.t 16) (.skip) (.exit 0))) (.seq (.blk 1 (.reg [.s (.mv 19 (.t 6)), .s (.mv 20 (.t 4)), .s (.call (some 21) 84 [(.t 20)]), .s (.bs 22 .word [(.t 21)]), .s (.app 23 .word (.t 19) (.t 22)), .s (.mv 6 (.t 23))])) (.reg [.s (.mv 17 (.t 7)), .s (.bin 18 .add (.t 17) (.k (.v (.c (.int .i64 1))))), .s (.mv 7 (.t 18))]))
def pf_spec_DrawStoreCells : PF := ⟨[.c 2 true 2, .t 3], .seq (.reg [.s (.alloc 2 [.nils .word, .nils .bool]), .s (.mv 3 (.k (.v (.c (.nils .word)))))]) (.seq (.reg [.s (.mv 8 (.t 0)), .s (.call (some 9) 81 [(.t 8)]), .s (.mv 4 (.t 9))]) (.seq (.reg [.s (.mv 10 (.t 4)), .s (.call (some 11) 82 [(.t 10)]), .s (.alloc 5 [.nils .word, .nils .bool]), .s (.store 2 (.t 5) (.t 11))]) (.seq (.reg [.s (.bs 12 .word []), .s (.mv 6 (.t 12))]) (.seq (.seq (.reg [.s (.mv 7 (.k (.v (.c (.int .i64 0)))))]) (.blk 0 (.loop [2, 4, 5, 6, 7] lb_spec_DrawStoreCells_0))) (.seq (.reg [.s (.load 24 true 2 (.t 5)), .s (.mv 25 (.t 6)), .s (.store 2 (.t 2) (.t 24)), .s (.mv 3 (.t 25))]) (.ret))))))⟩
def c_spec_DrawStoreCells : Fun := ⟨16, [], fun ts K => as1 ts fun t0 => arC (pL (.int .u8)) t0 fun code => chk (code.length ≤ 1048576) (∀ (m : Mem) (l : List Word), (LMem m 24 ∧ l.length ≤ 4) → K (.tup [.g (m.tc true []), .c (tl true .word l)]) [])⟩
theorem run_spec_DrawStoreCells (FU : Nat) (code : List (FT.Ty (.int .u8))) (hpre : code.length ≤ 1048576) {K : Tree → List Tree → Prop} (hK : ∀ (m : Mem) (l : List Word), (LMem m 24 ∧ l.length ≤ 4) → K (.tup [.g (m.tc true []), .c (tl true .word l)]) []) : runK [c_spec_l1New, c_spec_l8Draw, c_spec_l1Below, c_spec_l3Draw] (100 + FU) [] pf_spec_DrawStoreCells [tL false (.int .u8) code] K := by
  conv => whnf
  repeat' (first | (refine sel_i (fun h => ?_) (fun h => ?_) <;> conv => whnf) | (refine chk_c ?_ ?_ <;> conv => whnf) | (refine And.intro ?_ rfl) | (refine And.intro ?_ ?_ <;> conv => whnf) | (intro x y z d hd; (try have g1 := And.left hd); (try have g2 := And.right hd); (try have g3 := And.left (And.right hd)); (try have g4 := And.right (And.right hd)); conv => whnf) | (intro x y d hd; (try have g1 := And.left hd); (try have g2 := And.right hd); (try have g3 := And.left (And.right hd)); (try have g4 := And.right (And.right hd)); conv => whnf) | (intro x d hd; (try have g1 := And.left hd); (try have g2 := And.right hd); (try have g3 := And.left (And.right hd)); (try have g4 := And.right (And.right hd)); conv => whnf) | (intro d hd; (try have g1 := And.left hd); (try have g2 := And.right hd); (try have g3 := And.left (And.right hd)); (try have g4 := And.right (And.right hd)); conv => whnf))
  all_goals first
    | (refine ⟨?_⟩; exact hd)
    | (refine ⟨?_⟩; exact hpre)
    | skip
  obtain ⟨hx, hc⟩ := hd
  have hK2 := fun l hl => hK x l ⟨hx, hl⟩
  clear g1 g2 g3 g4 hK
  refine loop (α := Nat × Cur × List Word) (fun q => ⟨[(2, .v (.c (.ptr 0 0))), (4, .v (.c (.ptr 1 0))), (5, .v (.c (.ptr 3 0))), (6, .v (.c (.sl true .word 6))), (7, .v (.c (.int .i64 (q.1 : Int))))],
        [(6, some (.flat true .word none q.2.2)), (5, some (.flat true .bool none x.gone)), (4, some (.flat true .word none x.words)), (3, some (.box true [.sl false .word 4, .sl false .bool 5])),
          (2, some (.flat false (.int .u8) none q.2.1.b)), (1, some (.box true (cuC q.2.1 2))), (0, some (.box true [.nils .word, .nils .bool]))], nums.tail.tail.tail.tail.tail.tail.tail, [], false, []⟩)
      (fun q => q.1 ≤ 4 ∧ CurOk q.2.1 ∧ q.2.2.length = q.1) (fun q => 4 - q.1) (fun q R hI hR => ?_) (0, d, []) _ ⟨Nat.zero_le _, hc, rfl⟩ (by show 4 - 0 < 100 + FU; omega)
  obtain ⟨i, e, m⟩ := q
  obtain ⟨hi, he, hm⟩ := hI
  dsimp only at hi he hm
  dsimp only
  conv => whnf
  repeat' (first | (refine sel_i (fun h => ?_) (fun h => ?_) <;> conv => whnf) | (refine chk_c ?_ ?_ <;> conv => whnf) | (refine And.intro ?_ rfl) | (refine And.intro ?_ ?_ <;> conv => whnf) | (intro x y z d hd; (try have g1 := And.left hd); (try have g2 := And.right hd); (try have g3 := And.left (And.right hd)); (try have g4 := And.right (And.right hd)); conv => whnf) | (intro x y d hd; (try have g1 := And.left hd); (try have g2 := And.right hd); (try have g3 := And.left (And.right hd)); (try have g4 := And.right (And.right hd)); conv => whnf) | (intro x d hd; (try have g1 := And.left hd); (try have g2 := And.right hd); (try have g3 := And.left (And.right hd)); (try have g4 := And.right (And.right hd)); conv => whnf) | (intro d hd; (try have g1 := And.left hd); (try have g2 := And.right hd); (try have g3 := And.left (And.right hd)); (try have g4 := And.right (And.right hd)); conv => whnf))
  all_goals (try simp only [etaKey, etaWord] at *)
  all_goals first
    | (refine ⟨?_⟩; exact he)
    | (refine ⟨?_⟩; exact hd)
    | (refine ⟨?_⟩; exact hd.2)
    | (refine ⟨?_⟩; simp at *; omega)
    | (exact hK2 m (by omega))
    | (rw [wrap_id (n := (i : Int) + 1) (by omega) (by omega)]
       have h := of_decide_eq_true h
       refine hR (i + 1, _, _) ⟨?_, ?_, ?_⟩ ?_
       · dsimp only; omega
       · first | exact hd | exact hd.2
       · simp [hm]
       · dsimp only; omega)
    | trace_state
theorem ok_spec_DrawStoreCells : FunOk Try.prog c_spec_DrawStoreCells := funOkR (E := [c_spec_l1New, c_spec_l8Draw, c_spec_l1Below, c_spec_l3Draw]) (envOk_cons ok_spec_l1New (envOk_cons ok_spec_l8Draw (envOk_cons ok_spec_l1Below (envOk_cons ok_spec_l3Draw (envOk_nil))))) mixd Try.func16 (pf := pf_spec_DrawStoreCells) (by kernel_rfl) fun ts K h => by
  obtain ⟨t0, e0, h⟩ := as1_out h
  subst e0
  obtain ⟨code, e1, hq⟩ := arC_out (rd_l (.int .u8)) h
  clear h
  subst e1
  have h := hq
  clear hq
  obtain ⟨hpre, h⟩ := chk_o h
  exact ⟨Nat.le_of_ble_eq_true (show Nat.ble 1 Try.f16.ntmps = true by kernel_rfl), _, run_spec_DrawStoreCells 0 code hpre h⟩

def lb_spec_DrawCanSeal_0 : PC := .seq (.seq (.reg [.s (.mv 13 (.t 7)), .s (.mv 14 (.t 4)), .s (.call (some 15) 83 [(.t 14), (.k (.v (.c (.int .i64 4))))]), .s (.bin 16 .lss (.t 13) (.t 15))]) (.cond (.t 16) (.skip) (.exit 0))) (.seq (.blk 1 (.reg [.s (.mv 19 (.t 6)), .s (.mv 20 (.t 4)), .s (.call (some 21) 84 [(.t 20)]), .s (.bs 22 .word [(.t 21)]), .s (.app 23 .word (.t 19) (.t 22)), .s (.mv 6 (.t 23))])) (.reg [.s (.mv 17 (.t 7)), .s (.bin 18 .add (.t 17) (.k (.v (.c (.int .i64 1))))), .s (.mv 7 (.t 18))]))
def pf_spec_DrawCanSeal : PF := ⟨[.c 2 true 2, .t 3], .seq (.reg [.s (.alloc 2 [.nils .word, .nils .bool]), .s (.mv 3 (.k (.v (.c (.nils .word)))))]) (.seq (.reg [.s (.mv 8 (.t 0)), .s (.call (some 9) 81 [(.t 8)]), .s (.mv 4 (.t 9))]) (.seq (.reg [.s (.mv 10 (.t 4)), .s (.call (some 11) 82 [(.t 10)]), .s (.alloc 5 [.nils .word, .nils .bool]), .s (.store 2 (.t 5) (.t 11))]) (.seq (.reg [.s (.bs 12 .word []), .s (.mv 6 (.t 12))]) (.seq (.seq (.reg [.s (.mv 7 (.k (.v (.c (.int .i64 0)))))]) (.blk 0 (.loop [2, 4, 5, 6, 7] lb_spec_DrawCanSeal_0))) (.seq (.reg [.s (.load 24 true 2 (.t 5)), .s (.mv 25 (.t 6)), .s (.store 2 (.t 2) (.t 24)), .s (.mv 3 (.t 25))]) (.ret))))))⟩
def c_spec_DrawCanSeal : Fun := ⟨17, [], fun ts K => as1 ts fun t0 => arC (pL (.int .u8)) t0 fun code => chk (code.length ≤ 1048576) (∀ (m : Mem) (l : List Word), (LMem m 24 ∧ l.length ≤ 4) → K (.tup [.g (m.tc true []), .c (tl true .word l)]) [])⟩
theorem run_spec_DrawCanSeal (FU : Nat) (code : List (FT.Ty (.int .u8))) (hpre : code.length ≤ 1048576) {K : Tree → List Tree → Prop} (hK : ∀ (m : Mem) (l : List Word), (LMem m 24 ∧ l.length ≤ 4) → K (.tup [.g (m.tc true []), .c (tl true .word l)]) []) : runK [c_spec_l1New, c_spec_l8Draw, c_spec_l1Below, c_spec_l3Draw] (100 + FU) [] pf_spec_DrawCanSeal [tL false (.int .u8) code] K := by
  conv => whnf
  repeat' (first | (refine sel_i (fun h => ?_) (fun h => ?_) <;> conv => whnf) | (refine chk_c ?_ ?_ <;> conv => whnf) | (refine And.intro ?_ rfl) | (refine And.intro ?_ ?_ <;> conv => whnf) | (intro x y z d hd; (try have g1 := And.left hd); (try have g2 := And.right hd); (try have g3 := And.left (And.right hd)); (try have g4 := And.right (And.right hd)); conv => whnf) | (intro x y d hd; (try have g1 := And.left hd); (try have g2 := And.right hd); (try have g3 := And.left (And.right hd)); (try have g4 := And.right (And.right hd)); conv => whnf) | (intro x d hd; (try have g1 := And.left hd); (try have g2 := And.right hd); (try have g3 := And.left (And.right hd)); (try have g4 := And.right (And.right hd)); conv => whnf) | (intro d hd; (try have g1 := And.left hd); (try have g2 := And.right hd); (try have g3 := And.left (And.right hd)); (try have g4 := And.right (And.right hd)); conv => whnf))
  all_goals first
    | (refine ⟨?_⟩; exact hd)
    | (refine ⟨?_⟩; exact hpre)
    | skip
  obtain ⟨hx, hc⟩ := hd
  have hK2 := fun l hl => hK x l ⟨hx, hl⟩
  clear g1 g2 g3 g4 hK
  refine loop (α := Nat × Cur × List Word) (fun q => ⟨[(2, .v (.c (.ptr 0 0))), (4, .v (.c (.ptr 1 0))), (5, .v (.c (.ptr 3 0))), (6, .v (.c (.sl true .word 6))), (7, .v (.c (.int .i64 (q.1 : Int))))],
        [(6, some (.flat true .word none q.2.2)), (5, some (.flat true .bool none x.gone)), (4, some (.flat true .word none x.words)), (3, some (.box true [.sl false .word 4, .sl false .bool 5])),
          (2, some (.flat false (.int .u8) none q.2.1.b)), (1, some (.box true (cuC q.2.1 2))), (0, some (.box true [.nils .word, .nils .bool]))], nums.tail.tail.tail.tail.tail.tail.tail, [], false, []⟩)
      (fun q => q.1 ≤ 4 ∧ CurOk q.2.1 ∧ q.2.2.length = q.1) (fun q => 4 - q.1) (fun q R hI hR => ?_) (0, d, []) _ ⟨Nat.zero_le _, hc, rfl⟩ (by show 4 - 0 < 100 + FU; omega)
  obtain ⟨i, e, m⟩ := q
  obtain ⟨hi, he, hm⟩ := hI
  dsimp only at hi he hm
  dsimp only
  conv => whnf
  repeat' (first | (refine sel_i (fun h => ?_) (fun h => ?_) <;> conv => whnf) | (refine chk_c ?_ ?_ <;> conv => whnf) | (refine And.intro ?_ rfl) | (refine And.intro ?_ ?_ <;> conv => whnf) | (intro x y z d hd; (try have g1 := And.left hd); (try have g2 := And.right hd); (try have g3 := And.left (And.right hd)); (try have g4 := And.right (And.right hd)); conv => whnf) | (intro x y d hd; (try have g1 := And.left hd); (try have g2 := And.right hd); (try have g3 := And.left (And.right hd)); (try have g4 := And.right (And.right hd)); conv => whnf) | (intro x d hd; (try have g1 := And.left hd); (try have g2 := And.right hd); (try have g3 := And.left (And.right hd)); (try have g4 := And.right (And.right hd)); conv => whnf) | (intro d hd; (try have g1 := And.left hd); (try have g2 := And.right hd); (try have g3 := And.left (And.right hd)); (try have g4 := And.right (And.right hd)); conv => whnf))
  all_goals (try simp only [etaKey, etaWord] at *)
  all_goals first
    | (refine ⟨?_⟩; exact he)
    | (refine ⟨?_⟩; exact hd)
    | (refine ⟨?_⟩; exact hd.2)
    | (refine ⟨?_⟩; simp at *; omega)
    | (exact hK2 m (by omega))
    | (rw [wrap_id (n := (i : Int) + 1) (by omega) (by omega)]
       have h := of_decide_eq_true h
       refine hR (i + 1, _, _) ⟨?_, ?_, ?_⟩ ?_
       · dsimp only; omega
       · first | exact hd | exact hd.2
       · simp [hm]
       · dsimp only; omega)
    | trace_state
theorem ok_spec_DrawCanSeal : FunOk Try.prog c_spec_DrawCanSeal := funOkR (E := [c_spec_l1New, c_spec_l8Draw, c_spec_l1Below, c_spec_l3Draw]) (envOk_cons ok_spec_l1New (envOk_cons ok_spec_l8Draw (envOk_cons ok_spec_l1Below (envOk_cons ok_spec_l3Draw (envOk_nil))))) mixd Try.func17 (pf := pf_spec_DrawCanSeal) (by kernel_rfl) fun ts K h => by
  obtain ⟨t0, e0, h⟩ := as1_out h
  subst e0
  obtain ⟨code, e1, hq⟩ := arC_out (rd_l (.int .u8)) h
  clear h
  subst e1
  have h := hq
  clear hq
  obtain ⟨hpre, h⟩ := chk_o h
  exact ⟨Nat.le_of_ble_eq_true (show Nat.ble 1 Try.f17.ntmps = true by kernel_rfl), _, run_spec_DrawCanSeal 0 code hpre h⟩

theorem lMem_big {m : Mem} (h : LMem m 24) : LMem m 2147483647 := ⟨Nat.le_trans h.1 (by decide), Nat.le_trans h.2 (by decide)⟩
theorem clos_no {m : Mem} {l : List Word} (h : (!memoryOk m) = true) : closure m l = [] := by
  unfold closure; rw [if_neg (by simpa using h)]
end Go.Pi
