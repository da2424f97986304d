/- FnExactMayHold: the given statement holds, out of the law's run by PI. No conditions. -/
import Derived.Test.YtbenlebnogedlaaC3
namespace Go.Pi
open Go.Proofs
set_option linter.unusedVariables false
set_option linter.unusedSimpArgs false
set_option maxRecDepth 100000
attribute [local irreducible] iterN
def pf_laws_FnExactMayHold : PF := ⟨[.t 4], .seq (.reg [.s (.mv 4 (.k (.v (.c .ff))))]) (.seq (.seq (.reg [.s (.mv 14 (.t 1)), .s (.len 15 false (.t 14)), .s (.bin 16 .gtr (.t 15) (.k (.v (.c (.int .i64 1048576)))))]) (.cond (.t 16) (.seq (.reg [.s (.mv 4 (.k (.v (.c .tt))))]) (.ret)) (.skip))) (.seq (.reg [.s (.mv 5 (.k (.v (.c (.int .i64 1048576)))))]) (.seq (.reg [.s (.mv 17 (.t 0)), .s (.mv 18 (.t 5)), .s (.call (some 19) 5 [(.t 17), (.t 18)]), .s (.mv 5 (.t 19))]) (.seq (.seq (.reg [.s (.mv 20 (.t 5)), .s (.bin 21 .lss (.t 20) (.k (.v (.c (.int .i64 0)))))]) (.cond (.t 21) (.seq (.reg [.s (.mv 4 (.k (.v (.c .tt))))]) (.ret)) (.skip))) (.seq (.reg [.s (.mv 22 (.t 0)), .s (.call (some 23) 7 [(.t 22)]), .s (.mv 24 (.t 1)), .s (.call (some 25) 8 [(.t 24)]), .s (.call (some 26) 6 [(.t 23), (.t 25)]), .s (.mv 6 (.t 26))]) (.seq (.reg [.s (.mv 27 (.t 0)), .s (.call (some 28) 7 [(.t 27)]), .s (.mv 7 (.t 28))]) (.seq (.reg [.s (.mv 29 (.t 1)), .s (.call (some 30) 8 [(.t 29)]), .s (.mv 8 (.t 30))]) (.seq (.reg [.s (.mv 31 (.t 7)), .s (.mv 32 (.t 8)), .s (.call (some 33) 9 [(.t 31), (.t 32)]), .s (.mv 9 (.t 33))]) (.seq (.seq (.reg [.s (.mv 34 (.t 9)), .s (.mv 35 (.t 6)), .s (.call (some 36) 10 [(.t 34), (.t 35)]), .s (.bnot 37 (.t 36))]) (.cond (.t 37) (.seq (.reg [.s (.mv 4 (.k (.v (.c .ff))))]) (.ret)) (.skip))) (.seq (.seq (.reg [.s (.mv 38 (.t 7)), .s (.mv 39 (.t 0)), .s (.call (some 40) 7 [(.t 39)]), .s (.call (some 41) 11 [(.t 38), (.t 40)]), .s (.bnot 42 (.t 41))]) (.cond (.t 42) (.seq (.reg [.s (.mv 4 (.k (.v (.c .ff))))]) (.ret)) (.skip))) (.seq (.seq (.reg [.s (.mv 43 (.t 8)), .s (.mv 44 (.t 1)), .s (.call (some 45) 8 [(.t 44)]), .s (.call (some 46) 12 [(.t 43), (.t 45)]), .s (.bnot 47 (.t 46))]) (.cond (.t 47) (.seq (.reg [.s (.mv 4 (.k (.v (.c .ff))))]) (.ret)) (.skip))) (.seq (.reg [.s (.mv 10 (.k (.v (.c (.int .i64 1)))))]) (.seq (.reg [.s (.mv 48 (.t 7)), .s (.mv 49 (.t 10)), .s (.call (some 50) 13 [(.t 48), (.t 49)]), .s (.mv 10 (.t 50))]) (.seq (.reg [.s (.mv 51 (.t 8)), .s (.mv 52 (.t 10)), .s (.call (some 53) 14 [(.t 51), (.t 52)]), .s (.mv 10 (.t 53))]) (.seq (.seq (.reg [.s (.mv 54 (.t 10)), .s (.bin 55 .lss (.t 54) (.k (.v (.c (.int .i64 0))))), .s (.mv 56 (.t 55)), .g 56 false (some 57) (.mv 57 (.t 9)), .g 56 false (some 58) (.mv 58 (.t 6)), .g 56 false (some 59) (.call (some 59) 10 [(.t 57), (.t 58)]), .g 56 false (some 60) (.bnot 60 (.t 59)), .s (.pick 61 (.t 56) (.k (.v (.c .tt))) (.t 60))]) (.cond (.t 61) (.seq (.reg [.s (.mv 4 (.k (.v (.c .ff))))]) (.ret)) (.skip))) (.seq (.reg [.s (.mv 11 (.k (.v (.c (.int .i64 1)))))]) (.seq (.reg [.s (.mv 62 (.t 9)), .s (.mv 63 (.t 11)), .s (.call (some 64) 15 [(.t 62), (.t 63)]), .s (.mv 11 (.t 64))]) (.seq (.reg [.s (.mv 12 (.k (.v (.c (.int .i64 1)))))]) (.seq (.reg [.s (.mv 65 (.t 9)), .s (.mv 66 (.t 12)), .s (.call (some 67) 16 [(.t 65), (.t 66)]), .s (.mv 12 (.t 67))]) (.seq (.seq (.reg [.s (.mv 68 (.t 12)), .s (.bin 69 .lss (.t 68) (.k (.v (.c (.int .i64 0)))))]) (.cond (.t 69) (.seq (.reg [.s (.mv 4 (.k (.v (.c .ff))))]) (.ret)) (.skip))) (.seq (.seq (.reg [.s (.mv 70 (.t 12)), .s (.mv 71 (.t 11)), .s (.bin 72 .neq (.t 70) (.t 71))]) (.cond (.t 72) (.seq (.reg [.s (.mv 4 (.k (.v (.c .ff))))]) (.ret)) (.skip))) (.seq (.reg [.s (.mv 73 (.t 0)), .s (.call (some 74) 7 [(.t 73)]), .s (.mv 75 (.t 1)), .s (.call (some 76) 8 [(.t 75)]), .s (.call (some 77) 9 [(.t 74), (.t 76)]), .s (.mv 13 (.t 77))]) (.seq (.seq (.reg [.s (.mv 78 (.t 13)), .s (.mv 79 (.t 6)), .s (.call (some 80) 10 [(.t 78), (.t 79)]), .s (.bnot 81 (.t 80))]) (.cond (.t 81) (.seq (.reg [.s (.mv 4 (.k (.v (.c .ff))))]) (.ret)) (.skip))) (.seq (.reg [.s (.mv 12 (.k (.v (.c (.int .i64 1)))))]) (.seq (.reg [.s (.mv 82 (.t 9)), .s (.mv 83 (.t 12)), .s (.call (some 84) 16 [(.t 82), (.t 83)]), .s (.mv 12 (.t 84))]) (.seq (.seq (.reg [.s (.mv 85 (.t 12)), .s (.bin 86 .lss (.t 85) (.k (.v (.c (.int .i64 0)))))]) (.cond (.t 86) (.seq (.reg [.s (.mv 4 (.k (.v (.c .ff))))]) (.ret)) (.skip))) (.seq (.seq (.reg [.s (.mv 87 (.t 12)), .s (.mv 88 (.t 11)), .s (.bin 89 .neq (.t 87) (.t 88))]) (.cond (.t 89) (.seq (.reg [.s (.mv 4 (.k (.v (.c .ff))))]) (.ret)) (.skip))) (.seq (.reg [.s (.mv 4 (.k (.v (.c .tt))))]) (.ret)))))))))))))))))))))))))))))⟩
def c_laws_FnExactMayHold : Fun := ⟨3, [], fun ts K => as2 ts fun t0 t1 => arC (pL .inst) t0 fun l => arC (pL (.int .i64)) t1 fun s => chk (l.length ≤ 9223372036854775807 ∧ s.length ≤ 9223372036854775807) (K (tB true) [])⟩
theorem run_laws_FnExactMayHold (l : List (FT.Ty .inst)) (s : List (FT.Ty (.int .i64))) (hpre : l.length ≤ 9223372036854775807 ∧ s.length ≤ 9223372036854775807) : runK [c_laws_szInsS, c_spec_MayHold, c_laws_toInsS, c_laws_toIntS, c_impl_MayHold, c_laws_eqIntSS, c_laws_eqInsS, c_laws_eqIntS, c_laws_markInsS, c_laws_markIntS, c_laws_markIntSS, c_laws_heldIntSS] (0) [] pf_laws_FnExactMayHold [tL false .inst l, tL false (.int .i64) s] fun r o => r = tB true ∧ o = [] := by
  obtain ⟨hp1, hp2⟩ := hpre
  conv => whnf
  refine sel_i (fun h => ?_) (fun h => ?_)
  · conv => whnf
    exact ⟨rfl, rfl⟩
  have hs : s.length ≤ 1048576 := by simp at h; omega
  clear h
  conv => whnf
  refine chk_i ⟨hp1, by omega, by omega⟩ ?_
  conv => whnf
  refine sel_i (fun h => ?_) (fun h => ?_)
  · conv => whnf
    exact ⟨rfl, rfl⟩
  have h : 0 ≤ szr 1048576 l.length := by simpa using h
  have hn := szr_n h
  have l1 : l.length ≤ 2147483647 := by omega
  have l2 : s.length ≤ 2147483647 := by omega
  clear h hn hs hp1 hp2
  conv => whnf
  refine chk_i l1 ?_
  conv => whnf
  refine chk_i l2 ?_
  conv => whnf
  refine chk_i ⟨l1, l2⟩ ?_
  conv => whnf
  intro b hb
  conv => whnf
  refine chk_i l1 ?_
  conv => whnf
  refine chk_i l2 ?_
  conv => whnf
  refine chk_i ⟨l1, l2⟩ ?_
  conv => whnf
  intro g hg
  have key : ∀ {q : RowsO}, HeldIs l s q → rowsOf q = b := fun {q} hq => by
    cases q with
    | none => exact (held_none hq hb).symm
    | some a => exact held_unique hq hb
  have e1 := key hg
  have b1 : b.length ≤ 2147483647 := by have := held_len hb; omega
  have b8 : ∀ i, (b.getD i []).length ≤ 8 := held_row hb
  have b9 : ∀ i, (b.getD i []).length ≤ 2147483647 := fun i => by have := b8 i; omega
  have bm1 : (mkRows b 1).length ≤ 2147483647 := by rw [mkRows_length]; exact b1
  have bm8 := mkRows_row b 1 b8
  have hmk1 := mkInsS_length l.length 1
  have tt := rowsTot_le b b8
  cases g with
  | none =>
    have e1 : ([] : List (List Int)) = b := e1
    subst e1
    conv => whnf
    repeat' (first | (refine sel_i (fun h => ?_) (fun h => ?_) <;> conv => whnf) | (refine chk_c ?_ ?_ <;> conv => whnf) | (refine And.intro ?_ rfl) | (refine And.intro ?_ ?_ <;> conv => whnf) | (intro x y z d hd; (try have g1 := And.left hd); (try have g2 := And.right hd); (try have g3 := And.left (And.right hd)); (try have g4 := And.right (And.right hd)); conv => whnf) | (intro x y d hd; (try have g1 := And.left hd); (try have g2 := And.right hd); (try have g3 := And.left (And.right hd)); (try have g4 := And.right (And.right hd)); conv => whnf) | (intro x d hd; (try have g1 := And.left hd); (try have g2 := And.right hd); (try have g3 := And.left (And.right hd)); (try have g4 := And.right (And.right hd)); conv => whnf) | (intro d hd; (try have g1 := And.left hd); (try have g2 := And.right hd); (try have g3 := And.left (And.right hd)); (try have g4 := And.right (And.right hd)); conv => whnf))
    all_goals first
      | (refine ⟨?_⟩; exact l1)
      | (refine ⟨?_⟩; exact l2)
      | (refine ⟨?_⟩; exact ⟨l1, l2⟩)
      | (refine ⟨?_⟩; exact ⟨b1, b9⟩)
      | (refine ⟨?_⟩; exact ⟨by omega, by omega, l1⟩)
      | (refine ⟨?_⟩; exact ⟨by omega, by omega, l2⟩)
      | (refine ⟨?_⟩; exact ⟨by omega, by omega, b1, b8⟩)
      | (refine ⟨?_⟩; exact ⟨by omega, by omega, bm1, bm8⟩)
      | (refine ⟨?_⟩; exact hmk1)
      | (refine ⟨?_⟩; exact mkIntS_length _ _)
      | (refine ⟨?_⟩; rfl)
      | rfl
      | (exfalso; simp at h; done)
      | (exfalso; simp at h; omega)
      | (exfalso; simp [rowsOf] at h; done)
      | (exfalso; simp [rowsOf, mkRows_mk, rowsTot_mk, hres, mkRows, rowsTot] at h; done)
      | (exfalso; simp [rowsOf, mkRows_mk, rowsTot_mk, hres, mkRows, rowsTot] at h; omega)
      | skip
    rename_i d hd
    have e2 := key hd
    cases d with
    | none =>
      have e2 : ([] : List (List Int)) = _ := e2
      try subst e2
      conv => whnf
      repeat' (first | (refine sel_i (fun h => ?_) (fun h => ?_) <;> conv => whnf) | (refine chk_c ?_ ?_ <;> conv => whnf) | (refine And.intro ?_ rfl) | (refine And.intro ?_ ?_ <;> conv => whnf) | (intro x y z d hd; (try have g1 := And.left hd); (try have g2 := And.right hd); (try have g3 := And.left (And.right hd)); (try have g4 := And.right (And.right hd)); conv => whnf) | (intro x y d hd; (try have g1 := And.left hd); (try have g2 := And.right hd); (try have g3 := And.left (And.right hd)); (try have g4 := And.right (And.right hd)); conv => whnf) | (intro x d hd; (try have g1 := And.left hd); (try have g2 := And.right hd); (try have g3 := And.left (And.right hd)); (try have g4 := And.right (And.right hd)); conv => whnf) | (intro d hd; (try have g1 := And.left hd); (try have g2 := And.right hd); (try have g3 := And.left (And.right hd)); (try have g4 := And.right (And.right hd)); conv => whnf))
      all_goals first
        | (refine ⟨?_⟩; exact l1)
        | (refine ⟨?_⟩; exact l2)
        | (refine ⟨?_⟩; exact ⟨l1, l2⟩)
        | (refine ⟨?_⟩; exact ⟨b1, b9⟩)
        | (refine ⟨?_⟩; exact ⟨by omega, by omega, l1⟩)
        | (refine ⟨?_⟩; exact ⟨by omega, by omega, l2⟩)
        | (refine ⟨?_⟩; exact ⟨by omega, by omega, b1, b8⟩)
        | (refine ⟨?_⟩; exact ⟨by omega, by omega, bm1, bm8⟩)
        | (refine ⟨?_⟩; exact hmk1)
        | (refine ⟨?_⟩; exact mkIntS_length _ _)
        | (refine ⟨?_⟩; rfl)
        | rfl
        | (exfalso; simp at h; done)
        | (exfalso; simp at h; omega)
        | (exfalso; simp [rowsOf] at h; done)
        | (exfalso; simp [rowsOf, mkRows_mk, rowsTot_mk, hres, mkRows, rowsTot] at h; done)
        | (exfalso; simp [rowsOf, mkRows_mk, rowsTot_mk, hres, mkRows, rowsTot] at h; omega)
        | trace_state
    | some a2 =>
      have e2 : a2 = _ := e2
      subst e2
      conv => whnf
      repeat' (first | (refine sel_i (fun h => ?_) (fun h => ?_) <;> conv => whnf) | (refine chk_c ?_ ?_ <;> conv => whnf) | (refine And.intro ?_ rfl) | (refine And.intro ?_ ?_ <;> conv => whnf) | (intro x y z d hd; (try have g1 := And.left hd); (try have g2 := And.right hd); (try have g3 := And.left (And.right hd)); (try have g4 := And.right (And.right hd)); conv => whnf) | (intro x y d hd; (try have g1 := And.left hd); (try have g2 := And.right hd); (try have g3 := And.left (And.right hd)); (try have g4 := And.right (And.right hd)); conv => whnf) | (intro x d hd; (try have g1 := And.left hd); (try have g2 := And.right hd); (try have g3 := And.left (And.right hd)); (try have g4 := And.right (And.right hd)); conv => whnf) | (intro d hd; (try have g1 := And.left hd); (try have g2 := And.right hd); (try have g3 := And.left (And.right hd)); (try have g4 := And.right (And.right hd)); conv => whnf))
      all_goals first
        | (refine ⟨?_⟩; exact l1)
        | (refine ⟨?_⟩; exact l2)
        | (refine ⟨?_⟩; exact ⟨l1, l2⟩)
        | (refine ⟨?_⟩; exact ⟨b1, b9⟩)
        | (refine ⟨?_⟩; exact ⟨by omega, by omega, l1⟩)
        | (refine ⟨?_⟩; exact ⟨by omega, by omega, l2⟩)
        | (refine ⟨?_⟩; exact ⟨by omega, by omega, b1, b8⟩)
        | (refine ⟨?_⟩; exact ⟨by omega, by omega, bm1, bm8⟩)
        | (refine ⟨?_⟩; exact hmk1)
        | (refine ⟨?_⟩; exact mkIntS_length _ _)
        | (refine ⟨?_⟩; rfl)
        | rfl
        | (exfalso; simp at h; done)
        | (exfalso; simp at h; omega)
        | (exfalso; simp [rowsOf] at h; done)
        | (exfalso; simp [rowsOf, mkRows_mk, rowsTot_mk, hres, mkRows, rowsTot] at h; done)
        | (exfalso; simp [rowsOf, mkRows_mk, rowsTot_mk, hres, mkRows, rowsTot] at h; omega)
        | trace_state
  | some a =>
    have e1 : a = b := e1
    subst e1
    conv => whnf
    repeat' (first | (refine sel_i (fun h => ?_) (fun h => ?_) <;> conv => whnf) | (refine chk_c ?_ ?_ <;> conv => whnf) | (refine And.intro ?_ rfl) | (refine And.intro ?_ ?_ <;> conv => whnf) | (intro x y z d hd; (try have g1 := And.left hd); (try have g2 := And.right hd); (try have g3 := And.left (And.right hd)); (try have g4 := And.right (And.right hd)); conv => whnf) | (intro x y d hd; (try have g1 := And.left hd); (try have g2 := And.right hd); (try have g3 := And.left (And.right hd)); (try have g4 := And.right (And.right hd)); conv => whnf) | (intro x d hd; (try have g1 := And.left hd); (try have g2 := And.right hd); (try have g3 := And.left (And.right hd)); (try have g4 := And.right (And.right hd)); conv => whnf) | (intro d hd; (try have g1 := And.left hd); (try have g2 := And.right hd); (try have g3 := And.left (And.right hd)); (try have g4 := And.right (And.right hd)); conv => whnf))
    all_goals first
      | (refine ⟨?_⟩; exact l1)
      | (refine ⟨?_⟩; exact l2)
      | (refine ⟨?_⟩; exact ⟨l1, l2⟩)
      | (refine ⟨?_⟩; exact ⟨b1, b9⟩)
      | (refine ⟨?_⟩; exact ⟨by omega, by omega, l1⟩)
      | (refine ⟨?_⟩; exact ⟨by omega, by omega, l2⟩)
      | (refine ⟨?_⟩; exact ⟨by omega, by omega, b1, b8⟩)
      | (refine ⟨?_⟩; exact ⟨by omega, by omega, bm1, bm8⟩)
      | (refine ⟨?_⟩; exact hmk1)
      | (refine ⟨?_⟩; exact mkIntS_length _ _)
      | (refine ⟨?_⟩; rfl)
      | rfl
      | (exfalso; simp at h; done)
      | (exfalso; simp at h; omega)
      | (exfalso; simp [rowsOf] at h; done)
      | (exfalso; simp [rowsOf, mkRows_mk, rowsTot_mk, hres, mkRows, rowsTot] at h; done)
      | (exfalso; simp [rowsOf, mkRows_mk, rowsTot_mk, hres, mkRows, rowsTot] at h; omega)
      | skip
    rename_i d hd
    have e2 := key hd
    cases d with
    | none =>
      have e2 : ([] : List (List Int)) = _ := e2
      try subst e2
      conv => whnf
      repeat' (first | (refine sel_i (fun h => ?_) (fun h => ?_) <;> conv => whnf) | (refine chk_c ?_ ?_ <;> conv => whnf) | (refine And.intro ?_ rfl) | (refine And.intro ?_ ?_ <;> conv => whnf) | (intro x y z d hd; (try have g1 := And.left hd); (try have g2 := And.right hd); (try have g3 := And.left (And.right hd)); (try have g4 := And.right (And.right hd)); conv => whnf) | (intro x y d hd; (try have g1 := And.left hd); (try have g2 := And.right hd); (try have g3 := And.left (And.right hd)); (try have g4 := And.right (And.right hd)); conv => whnf) | (intro x d hd; (try have g1 := And.left hd); (try have g2 := And.right hd); (try have g3 := And.left (And.right hd)); (try have g4 := And.right (And.right hd)); conv => whnf) | (intro d hd; (try have g1 := And.left hd); (try have g2 := And.right hd); (try have g3 := And.left (And.right hd)); (try have g4 := And.right (And.right hd)); conv => whnf))
      all_goals first
        | (refine ⟨?_⟩; exact l1)
        | (refine ⟨?_⟩; exact l2)
        | (refine ⟨?_⟩; exact ⟨l1, l2⟩)
        | (refine ⟨?_⟩; exact ⟨b1, b9⟩)
        | (refine ⟨?_⟩; exact ⟨by omega, by omega, l1⟩)
        | (refine ⟨?_⟩; exact ⟨by omega, by omega, l2⟩)
        | (refine ⟨?_⟩; exact ⟨by omega, by omega, b1, b8⟩)
        | (refine ⟨?_⟩; exact ⟨by omega, by omega, bm1, bm8⟩)
        | (refine ⟨?_⟩; exact hmk1)
        | (refine ⟨?_⟩; exact mkIntS_length _ _)
        | (refine ⟨?_⟩; rfl)
        | rfl
        | (exfalso; simp at h; done)
        | (exfalso; simp at h; omega)
        | (exfalso; simp [rowsOf] at h; done)
        | (exfalso; simp [rowsOf, mkRows_mk, rowsTot_mk, hres, mkRows, rowsTot] at h; done)
        | (exfalso; simp [rowsOf, mkRows_mk, rowsTot_mk, hres, mkRows, rowsTot] at h; omega)
        | trace_state
    | some a2 =>
      have e2 : a2 = _ := e2
      subst e2
      conv => whnf
      repeat' (first | (refine sel_i (fun h => ?_) (fun h => ?_) <;> conv => whnf) | (refine chk_c ?_ ?_ <;> conv => whnf) | (refine And.intro ?_ rfl) | (refine And.intro ?_ ?_ <;> conv => whnf) | (intro x y z d hd; (try have g1 := And.left hd); (try have g2 := And.right hd); (try have g3 := And.left (And.right hd)); (try have g4 := And.right (And.right hd)); conv => whnf) | (intro x y d hd; (try have g1 := And.left hd); (try have g2 := And.right hd); (try have g3 := And.left (And.right hd)); (try have g4 := And.right (And.right hd)); conv => whnf) | (intro x d hd; (try have g1 := And.left hd); (try have g2 := And.right hd); (try have g3 := And.left (And.right hd)); (try have g4 := And.right (And.right hd)); conv => whnf) | (intro d hd; (try have g1 := And.left hd); (try have g2 := And.right hd); (try have g3 := And.left (And.right hd)); (try have g4 := And.right (And.right hd)); conv => whnf))
      all_goals first
        | (refine ⟨?_⟩; exact l1)
        | (refine ⟨?_⟩; exact l2)
        | (refine ⟨?_⟩; exact ⟨l1, l2⟩)
        | (refine ⟨?_⟩; exact ⟨b1, b9⟩)
        | (refine ⟨?_⟩; exact ⟨by omega, by omega, l1⟩)
        | (refine ⟨?_⟩; exact ⟨by omega, by omega, l2⟩)
        | (refine ⟨?_⟩; exact ⟨by omega, by omega, b1, b8⟩)
        | (refine ⟨?_⟩; exact ⟨by omega, by omega, bm1, bm8⟩)
        | (refine ⟨?_⟩; exact hmk1)
        | (refine ⟨?_⟩; exact mkIntS_length _ _)
        | (refine ⟨?_⟩; rfl)
        | rfl
        | (exfalso; simp at h; done)
        | (exfalso; simp at h; omega)
        | (exfalso; simp [rowsOf] at h; done)
        | (exfalso; simp [rowsOf, mkRows_mk, rowsTot_mk, hres, mkRows, rowsTot] at h; done)
        | (exfalso; simp [rowsOf, mkRows_mk, rowsTot_mk, hres, mkRows, rowsTot] at h; omega)
        | trace_state
theorem ok_laws_FnExactMayHold : FunOk Try.prog c_laws_FnExactMayHold := funOk (E := [c_laws_szInsS, c_spec_MayHold, c_laws_toInsS, c_laws_toIntS, c_impl_MayHold, c_laws_eqIntSS, c_laws_eqInsS, c_laws_eqIntS, c_laws_markInsS, c_laws_markIntS, c_laws_markIntSS, c_laws_heldIntSS]) (envOk_cons ok_laws_szInsS (envOk_cons ok_spec_MayHold (envOk_cons ok_laws_toInsS (envOk_cons ok_laws_toIntS (envOk_cons ok_impl_MayHold (envOk_cons ok_laws_eqIntSS (envOk_cons ok_laws_eqInsS (envOk_cons ok_laws_eqIntS (envOk_cons ok_laws_markInsS (envOk_cons ok_laws_markIntS (envOk_cons ok_laws_markIntSS (envOk_cons ok_laws_heldIntSS (envOk_nil))))))))))))) mixd Try.func3 (pf := pf_laws_FnExactMayHold) (by kernel_rfl) fun ts K h => by
  obtain ⟨t0, t1, e0, h⟩ := as2_out h
  subst e0
  obtain ⟨l, e1, hq⟩ := arC_out (rd_l .inst) h
  clear h
  subst e1
  have h := hq
  clear hq
  obtain ⟨s, e1, hq⟩ := arC_out (rd_l (.int .i64)) h
  clear h
  subst e1
  have h := hq
  clear hq
  obtain ⟨hpre, h⟩ := chk_o h
  exact ⟨_, _, h, Nat.le_of_ble_eq_true (show Nat.ble 2 Try.f3.ntmps = true by kernel_rfl), _, run_laws_FnExactMayHold l s hpre⟩

end Go.Pi
namespace Go.Proofs.Ytbenlebnogedlaa
open Go.Pi
theorem fnExactMayHold_lifted (os : Os) (started : os.Started) (H : Type) (enc : TypeId × Value → H) :
    ReturnsInHanded {} Try.checked os 3 .any (Rows.fnExactMayHoldSpec.pre6 enc Try.prog Try.f3 Rows.fnExactMayHoldRow.domain false) (Rows.fnExactMayHoldSpec.post enc Try.prog Try.f3 false true false false) :=
  lifted (C := Try.checked) (E := [c_laws_szInsS, c_spec_MayHold, c_laws_toInsS, c_laws_toIntS, c_impl_MayHold, c_laws_eqIntSS, c_laws_eqInsS, c_laws_eqIntS, c_laws_markInsS, c_laws_markIntS, c_laws_markIntSS, c_laws_heldIntSS]) (fuel := _) (pf := pf_laws_FnExactMayHold) (shs := [(false, [.sl .inst]), (false, [.sl (.int .i64)])]) (tb := 4) (by kernel_rfl) started (by kernel_rfl) Try.func3
    (ChangeSpec.witness6 (enc := enc) (C := Try.checked) false ⟨#[], #[.slice none 0 0, .slice none 0 0], []⟩ 12 (by kernel_rfl) (by kernel_rfl) (by kernel_rfl) (by kernel_rfl))
    mixd (envOk_cons ok_laws_szInsS (envOk_cons ok_spec_MayHold (envOk_cons ok_laws_toInsS (envOk_cons ok_laws_toIntS (envOk_cons ok_impl_MayHold (envOk_cons ok_laws_eqIntSS (envOk_cons ok_laws_eqInsS (envOk_cons ok_laws_eqIntS (envOk_cons ok_laws_markInsS (envOk_cons ok_laws_markIntS (envOk_cons ok_laws_markIntSS (envOk_cons ok_laws_heldIntSS (envOk_nil))))))))))))) (by kernel_rfl) (by kernel_rfl) (by kernel_rfl) rfl (by kernel_rfl) rfl (by kernel_rfl)
    (fun ds h => by
      obtain _ | ⟨d0, ds⟩ := ds
      · simp at h
      obtain _ | ⟨d1, ds⟩ := ds
      · simp at h
      obtain _ | ⟨x, ds⟩ := ds
      · rfl
      · simp at h)
    (fun ain h0 => by
      obtain ⟨T0, ain0, e, k0, h1⟩ := areCons h0
      subst e
      obtain ⟨T1, ain1, e, k1, h2⟩ := areCons h1
      subst e
      have e := areNil h2
      subst e
      obtain ⟨l, e, w0⟩ := isL k0
      subst e
      obtain ⟨s, e, w1⟩ := isL k1
      subst e
      exact run_laws_FnExactMayHold l s (⟨w0.2, w1.2⟩))
theorem fnExactMayHold_over : Rows.fnExactMayHoldRow.holds Try.pinned (OpenSpec.ofChange Rows.fnExactMayHoldSpec) :=
  OpenClaim.holds_of_wide 3 Try.f3 rfl rfl rfl rfl rfl rfl rfl ⟨rfl, rfl, rfl, rfl, rfl⟩ rfl rfl rfl rfl rfl (by kernel_rfl) Try.func3 (by kernel_rfl)
    (of_decide_eq_true (by kernel_rfl)) (by unfold Func.isWrapper; first | (rw [if_pos (by decide +kernel)]; kernel_rfl) | (rw [if_neg (by decide +kernel)]; exact ⟨rfl, rfl⟩))
    (fun os started H enc _ => fnExactMayHold_lifted os started H enc)
theorem fnExactMayHold_holds : Rows.FnExactMayHoldSaid := fnExactMayHold_over
#print axioms fnExactMayHold_holds
end Go.Proofs.Ytbenlebnogedlaa
