/- FnSaves: the given statement holds, out of the law's run by PI. No conditions. -/
import Derived.Test.YthpjpaginggjaaaC5
namespace Go.Pi
open Go.Proofs
set_option linter.unusedVariables false
set_option linter.unusedSimpArgs false
set_option maxRecDepth 100000
attribute [local irreducible] iterN
def pf_laws_FnSaves : PF := ⟨[.t 2], .seq (.reg [.s (.mv 2 (.k (.v (.c .ff))))]) (.seq (.seq (.reg [.s (.mv 30 (.t 0)), .s (.call (some 31) 12 [(.t 30)])]) (.cond (.t 31) (.seq (.reg [.s (.mv 2 (.k (.v (.c .tt))))]) (.ret)) (.skip))) (.seq (.reg [.s (.mv 32 (.t 0)), .s (.call (some 33) 30 [(.t 32)]), .s (.alloc 3 [.int .i64 0, .ff, .int .i64 0, .int .i64 0, .int .i64 0, .int .i64 0]), .s (.store 6 (.t 3) (.t 33))]) (.seq (.reg [.s (.load 34 true 6 (.t 3)), .s (.call (some 35) 31 [(.t 34)]), .s (.mv 4 (.t 35))]) (.seq (.reg [.s (.mv 37 (.t 0)), .s (.call (some 38) 32 [(.t 37)]), .s (.mv 36 (.t 38)), .s (.ext 39 (.t 36) 0), .s (.ext 40 (.t 36) 1), .s (.mv 5 (.t 39)), .s (.mv 6 (.t 40))]) (.seq (.reg [.s (.mv 42 (.t 5)), .s (.mv 43 (.t 6)), .s (.call (some 44) 33 [(.t 42), (.t 43)]), .s (.mv 41 (.t 44)), .s (.ext 45 (.t 41) 0), .s (.ext 46 (.t 41) 1), .s (.ext 47 (.t 41) 2), .s (.alloc 7 [.int .i64 0, .ff, .int .i64 0, .int .i64 0, .int .i64 0, .int .i64 0]), .s (.store 6 (.t 7) (.t 45)), .s (.mv 8 (.t 46)), .s (.mv 9 (.t 47))]) (.seq (.reg [.s (.mv 49 (.t 5)), .s (.mv 50 (.t 6)), .s (.call (some 51) 34 [(.t 49), (.t 50)]), .s (.mv 48 (.t 51)), .s (.ext 52 (.t 48) 0), .s (.ext 53 (.t 48) 1), .s (.ext 54 (.t 48) 2), .s (.alloc 10 [.int .i64 0, .ff, .int .i64 0, .int .i64 0, .int .i64 0, .int .i64 0]), .s (.store 6 (.t 10) (.t 52)), .s (.mv 11 (.t 53)), .s (.mv 12 (.t 54))]) (.seq (.reg [.s (.mv 55 (.t 0)), .s (.call (some 56) 35 [(.t 55)]), .s (.alloc 13 [.nils .word, .int .i64 0, .ff, .int .i64 0, .int .i64 0, .int .i64 0, .int .i64 0, .nils .word, .nils .bool, .int .i64 0]), .s (.store 10 (.t 13) (.t 56))]) (.seq (.reg [.s (.load 57 true 10 (.t 13)), .s (.call (some 58) 36 [(.t 57)]), .s (.mv 14 (.t 58))]) (.seq (.reg [.s (.mv 59 (.t 0)), .s (.call (some 60) 37 [(.t 59)]), .s (.mv 15 (.t 60))]) (.seq (.reg [.s (.mv 62 (.t 15)), .s (.call (some 63) 38 [(.t 62)]), .s (.mv 61 (.t 63)), .s (.ext 64 (.t 61) 0), .s (.ext 65 (.t 61) 1), .s (.alloc 16 [.nils .word, .int .i64 0, .ff, .int .i64 0, .int .i64 0, .int .i64 0, .int .i64 0, .nils .word, .nils .bool, .int .i64 0]), .s (.store 10 (.t 16) (.t 64)), .s (.mv 17 (.t 65))]) (.seq (.reg [.s (.mv 67 (.t 15)), .s (.call (some 68) 39 [(.t 67)]), .s (.mv 66 (.t 68)), .s (.ext 69 (.t 66) 0), .s (.ext 70 (.t 66) 1), .s (.alloc 18 [.nils .word, .int .i64 0, .ff, .int .i64 0, .int .i64 0, .int .i64 0, .int .i64 0, .nils .word, .nils .bool, .int .i64 0]), .s (.store 10 (.t 18) (.t 69)), .s (.mv 19 (.t 70))]) (.seq (.seq (.rgd [] [.s (.mv 71 (.t 4)), .s (.b2s 72 (.t 71)), .s (.load 73 true 6 (.t 3)), .s (.call (some 74) 40 [(.t 73)]), .s (.b2s 75 (.t 74)), .s (.eqs 76 false [.s] true (.t 72) (.t 75)), .s (.mv 77 (.t 76)), .g 77 false (some 78) (.load 78 true 6 (.t 7)), .g 77 false (some 79) (.load 79 true 6 (.t 10)), .g 77 false (some 80) (.eqs 80 true [.i, .b, .i, .i, .i, .i] true (.t 78) (.t 79)), .s (.pick 81 (.t 77) (.k (.v (.c .tt))) (.t 80)), .s (.mv 82 (.t 81)), .g 82 false (some 83) (.mv 83 (.t 8)), .g 82 false (some 84) (.mv 84 (.t 11)), .g 82 false (some 85) (.bin 85 .neq (.t 83) (.t 84)), .s (.pick 86 (.t 82) (.k (.v (.c .tt))) (.t 85)), .s (.mv 87 (.t 86)), .g 87 false (some 88) (.mv 88 (.t 9)), .g 87 false (some 89) (.mv 89 (.t 12)), .g 87 false (some 90) (.eqs 90 false [.b] true (.t 88) (.t 89)), .s (.pick 91 (.t 87) (.k (.v (.c .tt))) (.t 90)), .s (.mv 92 (.t 91)), .g 92 false (some 93) (.mv 93 (.t 14)), .g 92 false (some 94) (.b2s 94 (.t 93)), .g 92 false (some 95) (.load 95 true 10 (.t 13)), .g 92 false (some 96) (.call (some 96) 41 [(.t 95)]), .g 92 false (some 97) (.b2s 97 (.t 96)), .g 92 false (some 98) (.eqs 98 false [.s] true (.t 94) (.t 97)), .s (.pick 99 (.t 92) (.k (.v (.c .tt))) (.t 98)), .s (.mv 100 (.t 99)), .g 100 false (some 101) (.mv 101 (.t 17)), .g 100 false (some 102) (.mv 102 (.t 19)), .g 100 false (some 103) (.eqs 103 false [.b] true (.t 101) (.t 102)), .s (.pick 104 (.t 100) (.k (.v (.c .tt))) (.t 103)), .s (.mv 105 (.t 104)), .g 105 false (some 106) (.load 106 true 10 (.t 16)), .g 105 false (some 107) (.load 107 true 10 (.t 18)), .g 105 false (some 108) (.call (some 108) 42 [(.t 106), (.t 107)]), .g 105 false (some 109) (.bnot 109 (.t 108)), .s (.pick 110 (.t 105) (.k (.v (.c .tt))) (.t 109)), .s (.mv 111 (.t 110)), .g 111 false (some 112) (.mv 112 (.t 9)), .g 111 false (some 113) (.mv 113 (.t 112)), .g 113 true (some 114) (.load 114 true 6 (.t 7)), .g 113 true (some 115) (.call (some 115) 31 [(.t 114)]), .g 113 true (some 116) (.b2s 116 (.t 115)), .g 113 true (some 117) (.mv 117 (.t 5)), .g 113 true (some 118) (.mv 118 (.t 6)), .g 113 true (some 119) (.mv 119 (.t 8)), .g 113 true (some 120) (.slc 120 (.int .u8) (.t 117) (some (.t 118)) (some (.t 119))), .g 113 true (some 121) (.b2s 121 (.t 120)), .g 113 true (some 122) (.eqs 122 false [.s] true (.t 116) (.t 121)), .g 111 false (some 123) (.pick 123 (.t 113) (.t 122) (.k (.v (.c .ff)))), .s (.pick 124 (.t 111) (.k (.v (.c .tt))) (.t 123)), .s (.mv 125 (.t 124)), .g 125 false (some 126) (.mv 126 (.t 17)), .g 125 false (some 127) (.mv 127 (.t 126)), .g 127 true (some 128) (.load 128 true 10 (.t 16)), .g 127 true (some 129) (.call (some 129) 36 [(.t 128)]), .g 127 true (some 130) (.b2s 130 (.t 129)), .g 127 true (some 131) (.mv 131 (.t 15)), .g 127 true (some 132) (.b2s 132 (.t 131)), .g 127 true (some 133) (.eqs 133 false [.s] true (.t 130) (.t 132)), .g 125 false (some 134) (.pick 134 (.t 127) (.t 133) (.k (.v (.c .ff)))), .s (.pick 135 (.t 125) (.k (.v (.c .tt))) (.t 134))] (.tk 0 (.tk 1 (.tk 2 (.one 3 false (.one 4 false (.tk 5 (.tk 6 (.tk 7 (.tk 8 (.tk 9 (.tk 10 (.tk 11 (.tk 12 (.tk 13 (.tk 14 (.tk 15 (.tk 16 (.tk 17 (.tk 18 (.tk 19 (.tk 20 (.tk 21 (.tk 22 (.tk 23 (.tk 24 (.one 25 false (.one 26 false (.tk 27 (.tk 28 (.tk 29 (.tk 30 (.tk 31 (.tk 32 (.tk 33 (.tk 34 (.tk 35 (.tk 36 (.one 37 true (.tk 38 (.tk 39 (.tk 40 (.tk 41 (.tk 42 (.tk 43 (.tk 46 (.tk 47 (.tk 48 (.tk 49 (.tk 50 (.one 44 false (.one 45 false (.tk 51 (.tk 52 (.tk 53 (.tk 54 (.tk 55 (.tk 56 (.tk 57 (.tk 60 (.tk 61 (.one 58 false (.one 59 false (.tk 62 (.tk 63 (.tk 64 (.done none))))))))))))))))))))))))))))))))))))))))))))))))))))))))))))))))))) (.cond (.t 135) (.seq (.reg [.s (.mv 2 (.k (.v (.c .ff))))]) (.ret)) (.skip))) (.seq (.seq (.reg [.s (.mv 136 (.t 4)), .s (.len 137 false (.t 136)), .s (.bin 138 .gtr (.t 137) (.k (.v (.c (.int .i64 0)))))]) (.cond (.t 138) (.seq (.reg [.s (.mv 140 (.t 4)), .s (.call (some 141) 33 [(.t 140), (.k (.v (.c (.int .i64 0))))]), .s (.mv 139 (.t 141)), .s (.ext 142 (.t 139) 0), .s (.ext 143 (.t 139) 1), .s (.ext 144 (.t 139) 2), .s (.alloc 20 [.int .i64 0, .ff, .int .i64 0, .int .i64 0, .int .i64 0, .int .i64 0]), .s (.store 6 (.t 20) (.t 142)), .s (.mv 21 (.t 143)), .s (.mv 22 (.t 144))]) (.seq (.reg [.s (.mv 146 (.t 4)), .s (.mv 147 (.t 4)), .s (.len 148 false (.t 147)), .s (.bin 149 .sub (.t 148) (.k (.v (.c (.int .i64 1))))), .s (.slc 150 (.int .u8) (.t 146) none (some (.t 149))), .s (.call (some 151) 33 [(.t 150), (.k (.v (.c (.int .i64 0))))]), .s (.mv 145 (.t 151)), .s (.ext 152 (.t 145) 0), .s (.ext 153 (.t 145) 1), .s (.ext 154 (.t 145) 2), .s (.alloc 23 [.int .i64 0, .ff, .int .i64 0, .int .i64 0, .int .i64 0, .int .i64 0]), .s (.store 6 (.t 23) (.t 152)), .s (.mv 24 (.t 153)), .s (.mv 25 (.t 154))]) (.seq (.reg [.s (.mv 155 (.t 22)), .s (.bnot 156 (.t 155)), .s (.mv 157 (.t 156)), .g 157 false (some 158) (.mv 158 (.t 21)), .g 157 false (some 159) (.mv 159 (.t 4)), .g 157 false (some 160) (.len 160 false (.t 159)), .g 157 false (some 161) (.bin 161 .neq (.t 158) (.t 160)), .s (.pick 162 (.t 157) (.k (.v (.c .tt))) (.t 161)), .s (.mv 163 (.t 162)), .g 163 false (some 164) (.load 164 true 6 (.t 20)), .g 163 false (some 165) (.load 165 true 6 (.t 3)), .g 163 false (some 166) (.eqs 166 true [.i, .b, .i, .i, .i, .i] true (.t 164) (.t 165)), .s (.pick 167 (.t 163) (.k (.v (.c .tt))) (.t 166)), .s (.mv 168 (.t 167)), .g 168 false (some 169) (.mv 169 (.t 25)), .s (.pick 170 (.t 168) (.k (.v (.c .tt))) (.t 169))]) (.cond (.t 170) (.seq (.reg [.s (.mv 2 (.k (.v (.c .ff))))]) (.ret)) (.skip))))) (.skip))) (.seq (.seq (.reg [.s (.mv 171 (.t 14)), .s (.len 172 false (.t 171)), .s (.bin 173 .eql (.t 172) (.k (.v (.c (.int .i64 0)))))]) (.cond (.t 173) (.seq (.reg [.s (.load 174 true 10 (.t 13)), .s (.call (some 175) 43 [(.t 174)]), .s (.bnot 176 (.t 175)), .s (.mv 2 (.t 176))]) (.ret)) (.skip))) (.seq (.reg [.s (.mv 178 (.t 14)), .s (.call (some 179) 38 [(.t 178)]), .s (.mv 177 (.t 179)), .s (.ext 180 (.t 177) 0), .s (.ext 181 (.t 177) 1), .s (.alloc 26 [.nils .word, .int .i64 0, .ff, .int .i64 0, .int .i64 0, .int .i64 0, .int .i64 0, .nils .word, .nils .bool, .int .i64 0]), .s (.store 10 (.t 26) (.t 180)), .s (.mv 27 (.t 181))]) (.seq (.reg [.s (.mv 183 (.t 14)), .s (.mv 184 (.t 14)), .s (.len 185 false (.t 184)), .s (.bin 186 .sub (.t 185) (.k (.v (.c (.int .i64 1))))), .s (.slc 187 (.int .u8) (.t 183) none (some (.t 186))), .s (.call (some 188) 38 [(.t 187)]), .s (.mv 182 (.t 188)), .s (.ext 189 (.t 182) 0), .s (.ext 190 (.t 182) 1), .s (.alloc 28 [.nils .word, .int .i64 0, .ff, .int .i64 0, .int .i64 0, .int .i64 0, .int .i64 0, .nils .word, .nils .bool, .int .i64 0]), .s (.store 10 (.t 28) (.t 189)), .s (.mv 29 (.t 190))]) (.seq (.reg [.s (.mv 191 (.t 27)), .s (.mv 192 (.t 191)), .g 192 true (some 193) (.load 193 true 10 (.t 26)), .g 192 true (some 194) (.load 194 true 10 (.t 13)), .g 192 true (some 195) (.call (some 195) 44 [(.t 193), (.t 194)]), .s (.pick 196 (.t 192) (.t 195) (.k (.v (.c .ff)))), .s (.mv 197 (.t 196)), .g 197 true (some 198) (.mv 198 (.t 29)), .g 197 true (some 199) (.bnot 199 (.t 198)), .s (.pick 200 (.t 197) (.t 199) (.k (.v (.c .ff)))), .s (.mv 2 (.t 200))]) (.ret))))))))))))))))))⟩
def c_laws_FnSaves : Fun := ⟨4, [], fun ts K => as1 ts fun t0 => arC (pL (.int .u8)) t0 fun code => chk (code.length ≤ 9223372036854775807) (K (tB true) [])⟩
set_option maxHeartbeats 8000000 in
theorem run_laws_FnSaves (code : List (FT.Ty (.int .u8))) (hpre : code.length ≤ 9223372036854775807) : runK [c_laws_big, c_spec_DrawWordBytes, c_impl_WordBytes, c_spec_DrawWordOf, c_impl_WordOf, c_spec_WordOf, c_spec_DrawStateBytes, c_impl_StateBytes, c_spec_DrawStateOf, c_impl_StateOf, c_spec_StateOf, c_spec_WordBytes, c_spec_StateBytes, c_laws_sameState, c_impl_StateOk, c_impl_Alike] (0) [] pf_laws_FnSaves [tL false (.int .u8) code] fun r o => r = tB true ∧ o = [] := by
  conv => whnf
  refine sel_i (fun h => ?_) (fun h => ?_) <;> conv => whnf
  · exact ⟨rfl, rfl⟩
  have hc : code.length ≤ 1048576 := by simp at h; omega
  clear h
  refine chk_i hc ?_
  conv => whnf
  intro w hw
  conv => whnf
  refine chk_i hc ?_
  conv => whnf
  intro raw k hrk
  have hrl := hrk.1.1
  have hru := hrk.1.2
  have hkk := wfk hrl hrk.2
  have hgot := fun h => word_got (raw := raw) (k := k) hru h
  have hwb := word_back (w := w)
  have hwl := wordBytes_len w
  have hwu := wordBytes_u8 w
  have e1 := strI_same hwu
  conv => whnf
  refine chk_i ⟨by omega, hru, hkk⟩ ?_
  conv => whnf
  refine chk_i ⟨by omega, hru, hkk⟩ ?_
  conv => whnf
  refine chk_i hc ?_
  conv => whnf
  intro s hs
  have hs2 : LState s 2147483647 := ⟨Nat.le_trans hs.1 (by decide), Nat.le_trans hs.2.1 (by decide), Nat.le_trans hs.2.2 (by decide)⟩
  have hsl := stateBytes_len s
  have hsu := stateBytes_u8 s
  have e2 := strI_same hsu
  have hsb := state_back (s := s)
  have hsn := state_none (s := s)
  conv => whnf
  refine chk_i hs2 ?_
  conv => whnf
  refine chk_i hc ?_
  conv => whnf
  intro t ht
  have hsg := fun h => state_got (t := t) h
  have hsl2 := stateOf_len8 (b := t)
  conv => whnf
  refine chk_i ⟨by omega, ht.2⟩ ?_
  conv => whnf
  refine chk_i ⟨by omega, ht.2⟩ ?_
  conv => whnf
  repeat' (first | (refine sel_i (fun h => ?_) (fun h => ?_) <;> conv => whnf) | (refine chk_c ?_ ?_ <;> conv => whnf) | (refine And.intro ?_ rfl) | (refine And.intro ?_ ?_ <;> conv => whnf))
  all_goals (try simp only [eqWd, etaKey, etaWord, etaMemory, etaState] at *)
  all_goals first
    | rfl
    | trivial
    | (exact ⟨rfl, rfl⟩)
    | (refine ⟨?_⟩; assumption)
    | (exfalso; exact ne_self2 (by assumption))
    | (exfalso; exact ne_selfB (a := (wordOf raw k).isSome) (by assumption))
    | (exfalso; exact ne_selfB (a := (stateOf t).isSome) (by assumption))
    | (exfalso; have h9 : (!(strI (wordBytes w) == strI (wordBytes w))) = true := (by assumption); rw [e1] at h9; cases h9; done)
    | (exfalso; have h9 : (!(strI (stateBytes s) == strI (stateBytes s))) = true := (by assumption); rw [e2] at h9; cases h9; done)
    | (exfalso; simp at h; done)
    | (refine ⟨?_⟩; exact ⟨hsl2, hsl2⟩)
    | (refine ⟨?_⟩; exact hsl2)
    | (refine ⟨?_⟩; exact ⟨by omega, hwu, wf64 (by omega)⟩)
    | (refine ⟨?_⟩; exact ⟨by omega, hsu⟩)
    | (refine ⟨?_⟩; have q := (hgot (by assumption)).1; exact q)
    | (exfalso
       obtain ⟨q1, q2⟩ := hgot (by assumption)
       have h9 : (!(strI (wordBytes ((wordOf raw k).getD (⟨0, false, ⟨0, 0, 0, 0⟩⟩, 0)).1) == strI (win raw (0 + k.toNat) (((wordOf raw k).getD (⟨0, false, ⟨0, 0, 0, 0⟩⟩, 0)).2 - k).toNat))) = true := (by assumption)
       rw [q2, strI_same (hru.win _ _)] at h9
       cases h9; done)
    | (exfalso
       have q2 := hsg (by assumption)
       have h9 : (!(strI (stateBytes ((stateOf t).getD zState)) == strI t)) = true := (by assumption)
       rw [q2, strI_same ht.2] at h9
       cases h9; done)
    | (have hp0 : decide (((wordBytes w).length : Int) > 0) = true := (by assumption)
       have hp : 0 < (wordBytes w).length := by have := of_decide_eq_true hp0; omega
       first
         | (refine ⟨?_⟩; rw [wrap_id (by omega) (by omega)]; omega)
         | (refine ⟨?_⟩; exact ⟨by simp [win]; omega, hwu.win _ _, wf64 (by omega)⟩)
         | (exfalso
            obtain ⟨q1, q2⟩ := hwb hp
            first
              | (have h9 : (!(wordOf (wordBytes w) 0).isSome) = true := (by assumption); rw [q1] at h9; cases h9; done)
              | (have h9 : (wordOf (win (wordBytes w) 0 (IntKind.i64.wrap (((wordBytes w).length : Int) - 1)).toNat) 0).isSome = true := (by assumption); rw [q2] at h9; cases h9; done)
              | (have h9 : (((wordOf (wordBytes w) 0).getD (⟨0, false, ⟨0, 0, 0, 0⟩⟩, 0)).2 != ((wordBytes w).length : Int)) = true := (by assumption); rw [q1] at h9; exact ne_self2 h9)
              | (clear hwb hgot hsg hsb hsn
                 simp only [q1, Option.getD_some, Bool.not_true, bne_self_eq_false, Bool.false_eq_true, decide_true] at h; done)))
    | (have hp0 : (((stateBytes s).length : Int) == 0) = true := (by assumption)
       have hp : (stateBytes s).length = 0 := by have := eq_of_beq hp0; omega
       rw [hsn hp]; rfl)
    | (have hp0 : (((stateBytes s).length : Int) == 0) = false := (by assumption)
       have hp : ¬ (stateBytes s).length = 0 := fun e => by rw [e] at hp0; cases hp0
       obtain ⟨q1, q2⟩ := hsb hp
       first
         | (refine ⟨?_⟩; rw [wrap_id (by omega) (by omega)]; omega)
         | (refine ⟨?_⟩; exact ⟨by simp [win]; omega, hsu.win _ _⟩)
         | (refine ⟨?_⟩; rw [q1]; exact ⟨hs2, hs2⟩)
         | (rw [q2]; rfl)
         | (rw [q2]; done)
         | (exfalso
            first
              | (have h9 : (stateOf (stateBytes s)).isSome = false := (by assumption); rw [q1] at h9; cases h9; done)
              | (have h9 : decide ((stateOf (stateBytes s)).getD zState = s) = false := (by assumption); rw [q1] at h9; exact of_decide_eq_false h9 rfl)))
    | trace_state
theorem ok_laws_FnSaves : FunOk Try.prog c_laws_FnSaves := funOk (E := [c_laws_big, c_spec_DrawWordBytes, c_impl_WordBytes, c_spec_DrawWordOf, c_impl_WordOf, c_spec_WordOf, c_spec_DrawStateBytes, c_impl_StateBytes, c_spec_DrawStateOf, c_impl_StateOf, c_spec_StateOf, c_spec_WordBytes, c_spec_StateBytes, c_laws_sameState, c_impl_StateOk, c_impl_Alike]) (envOk_cons ok_laws_big (envOk_cons ok_spec_DrawWordBytes (envOk_cons ok_impl_WordBytes (envOk_cons ok_spec_DrawWordOf (envOk_cons ok_impl_WordOf (envOk_cons ok_spec_WordOf (envOk_cons ok_spec_DrawStateBytes (envOk_cons ok_impl_StateBytes (envOk_cons ok_spec_DrawStateOf (envOk_cons ok_impl_StateOf (envOk_cons ok_spec_StateOf (envOk_cons ok_spec_WordBytes (envOk_cons ok_spec_StateBytes (envOk_cons ok_laws_sameState (envOk_cons ok_impl_StateOk (envOk_cons ok_impl_Alike (envOk_nil))))))))))))))))) mixd Try.func4 (pf := pf_laws_FnSaves) (by kernel_rfl) fun ts K h => by
  obtain ⟨t0, e0, h⟩ := as1_out h
  subst e0
  obtain ⟨code, e1, hq⟩ := arC_out (rd_l (.int .u8)) h
  clear h
  subst e1
  have h := hq
  clear hq
  obtain ⟨hpre, h⟩ := chk_o h
  exact ⟨_, _, h, Nat.le_of_ble_eq_true (show Nat.ble 1 Try.f4.ntmps = true by kernel_rfl), _, run_laws_FnSaves code hpre⟩

end Go.Pi
namespace Go.Proofs.Ythpjpaginggjaaa
open Go.Pi
theorem fnSaves_lifted (os : Os) (started : os.Started) (H : Type) (enc : TypeId × Value → H) :
    ReturnsInHanded {} Try.checked os 4 .any (Rows.fnSavesSpec.pre6 enc Try.prog Try.f4 Rows.fnSavesRow.domain false) (Rows.fnSavesSpec.post enc Try.prog Try.f4 false true false false) :=
  lifted (C := Try.checked) (E := [c_laws_big, c_spec_DrawWordBytes, c_impl_WordBytes, c_spec_DrawWordOf, c_impl_WordOf, c_spec_WordOf, c_spec_DrawStateBytes, c_impl_StateBytes, c_spec_DrawStateOf, c_impl_StateOf, c_spec_StateOf, c_spec_WordBytes, c_spec_StateBytes, c_laws_sameState, c_impl_StateOk, c_impl_Alike]) (fuel := _) (pf := pf_laws_FnSaves) (shs := [(false, [.sl (.int .u8)])]) (tb := 4) (by kernel_rfl) started (by kernel_rfl) Try.func4
    (ChangeSpec.witness6 (enc := enc) (C := Try.checked) false ⟨#[], #[.slice none 0 0], []⟩ 12 (by kernel_rfl) (by kernel_rfl) (by kernel_rfl) (by kernel_rfl))
    mixd (envOk_cons ok_laws_big (envOk_cons ok_spec_DrawWordBytes (envOk_cons ok_impl_WordBytes (envOk_cons ok_spec_DrawWordOf (envOk_cons ok_impl_WordOf (envOk_cons ok_spec_WordOf (envOk_cons ok_spec_DrawStateBytes (envOk_cons ok_impl_StateBytes (envOk_cons ok_spec_DrawStateOf (envOk_cons ok_impl_StateOf (envOk_cons ok_spec_StateOf (envOk_cons ok_spec_WordBytes (envOk_cons ok_spec_StateBytes (envOk_cons ok_laws_sameState (envOk_cons ok_impl_StateOk (envOk_cons ok_impl_Alike (envOk_nil))))))))))))))))) (by kernel_rfl) (by kernel_rfl) (by kernel_rfl) rfl (by kernel_rfl) rfl
    (fun ds h => by
      obtain _ | ⟨d0, ds⟩ := ds
      · simp at h
      obtain _ | ⟨x, ds⟩ := ds
      · rfl
      · simp at h)
    (fun ain h0 => by
      obtain ⟨T0, ain0, e, k0, h1⟩ := areCons h0
      subst e
      have e := areNil h1
      subst e
      obtain ⟨code, e, w0⟩ := isL k0
      subst e
      exact run_laws_FnSaves code (w0.2))
theorem fnSaves_over : Rows.fnSavesRow.holds Try.pinned (OpenSpec.ofChange Rows.fnSavesSpec) :=
  OpenClaim.holds_of_wide 4 Try.f4 rfl rfl rfl rfl rfl rfl rfl ⟨rfl, rfl, rfl, rfl, rfl⟩ rfl rfl rfl rfl rfl (by kernel_rfl) Try.func4 (by kernel_rfl)
    (of_decide_eq_true (by kernel_rfl)) (by unfold Func.isWrapper; first | (rw [if_pos (by decide +kernel)]; kernel_rfl) | (rw [if_neg (by decide +kernel)]; exact ⟨rfl, rfl⟩))
    (fun os started H enc _ => fnSaves_lifted os started H enc)
theorem fnSaves_holds : Rows.FnSavesSaid := fnSaves_over
#print axioms fnSaves_holds
end Go.Proofs.Ythpjpaginggjaaa
