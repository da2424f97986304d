/- FnHeaps: the given statement holds, out of the law's run by PI. No conditions. -/
import Derived.Test.YthpjpaginggjaaaGreatC5
namespace Go.Pi
open Go.Proofs
set_option linter.unusedVariables false
set_option linter.unusedSimpArgs false
set_option maxRecDepth 100000
attribute [local irreducible] iterN
def pf_laws_FnHeaps : PF := ⟨[.t 2], .seq (.reg [.s (.mv 2 (.k (.v (.c .ff))))]) (.seq (.seq (.reg [.s (.mv 25 (.t 0)), .s (.call (some 26) 4 [(.t 25)])]) (.cond (.t 26) (.seq (.reg [.s (.mv 2 (.k (.v (.c .tt))))]) (.ret)) (.skip))) (.seq (.reg [.s (.mv 28 (.t 0)), .s (.call (some 29) 5 [(.t 28)]), .s (.mv 27 (.t 29)), .s (.ext 30 (.t 27) 0), .s (.ext 31 (.t 27) 1), .s (.alloc 3 [.nils .word, .nils .bool, .nils .span, .nils .span]), .s (.store 4 (.t 3) (.t 30)), .s (.mv 4 (.t 31))]) (.seq (.reg [.s (.load 33 true 4 (.t 3)), .s (.mv 34 (.t 4)), .s (.call (some 35) 6 [(.t 33), (.t 34)]), .s (.mv 32 (.t 35)), .s (.ext 36 (.t 32) 0), .s (.ext 37 (.t 32) 1), .s (.ext 38 (.t 32) 2), .s (.alloc 5 [.nils .word, .nils .bool, .nils .span, .nils .span]), .s (.alloc 6 [.int .i64 0, .ff, .int .i64 0, .int .i64 0, .int .i64 0, .int .i64 0]), .s (.store 4 (.t 5) (.t 36)), .s (.store 6 (.t 6) (.t 37)), .s (.mv 7 (.t 38))]) (.seq (.reg [.s (.load 40 true 4 (.t 3)), .s (.mv 41 (.t 4)), .s (.call (some 42) 7 [(.t 40), (.t 41)]), .s (.mv 39 (.t 42)), .s (.ext 43 (.t 39) 0), .s (.ext 44 (.t 39) 1), .s (.ext 45 (.t 39) 2), .s (.alloc 8 [.nils .word, .nils .bool, .nils .span, .nils .span]), .s (.alloc 9 [.int .i64 0, .ff, .int .i64 0, .int .i64 0, .int .i64 0, .int .i64 0]), .s (.store 4 (.t 8) (.t 43)), .s (.store 6 (.t 9) (.t 44)), .s (.mv 10 (.t 45))]) (.seq (.reg [.s (.mv 47 (.t 0)), .s (.call (some 48) 8 [(.t 47)]), .s (.mv 46 (.t 48)), .s (.ext 49 (.t 46) 0), .s (.ext 50 (.t 46) 1), .s (.alloc 11 [.nils .word, .nils .bool, .nils .span, .nils .span]), .s (.store 4 (.t 11) (.t 49)), .s (.mv 12 (.t 50))]) (.seq (.reg [.s (.load 52 true 4 (.t 11)), .s (.mv 53 (.t 12)), .s (.call (some 54) 9 [(.t 52), (.t 53)]), .s (.mv 51 (.t 54)), .s (.ext 55 (.t 51) 0), .s (.ext 56 (.t 51) 1), .s (.alloc 13 [.nils .word, .nils .bool, .nils .span, .nils .span]), .s (.store 4 (.t 13) (.t 55)), .s (.mv 14 (.t 56))]) (.seq (.reg [.s (.load 58 true 4 (.t 11)), .s (.mv 59 (.t 12)), .s (.call (some 60) 10 [(.t 58), (.t 59)]), .s (.mv 57 (.t 60)), .s (.ext 61 (.t 57) 0), .s (.ext 62 (.t 57) 1), .s (.alloc 15 [.nils .word, .nils .bool, .nils .span, .nils .span]), .s (.store 4 (.t 15) (.t 61)), .s (.mv 16 (.t 62))]) (.seq (.reg [.s (.mv 64 (.t 0)), .s (.call (some 65) 11 [(.t 64)]), .s (.mv 63 (.t 65)), .s (.ext 66 (.t 63) 0), .s (.ext 67 (.t 63) 1), .s (.alloc 17 [.nils .word, .nils .bool, .nils .span, .nils .span]), .s (.store 4 (.t 17) (.t 66)), .s (.mv 18 (.t 67))]) (.seq (.reg [.s (.load 69 true 4 (.t 17)), .s (.mv 70 (.t 18)), .s (.call (some 71) 12 [(.t 69), (.t 70)]), .s (.mv 68 (.t 71)), .s (.ext 72 (.t 68) 0), .s (.ext 73 (.t 68) 1), .s (.alloc 19 [.nils .word, .nils .bool, .nils .span, .nils .span]), .s (.store 4 (.t 19) (.t 72)), .s (.mv 20 (.t 73))]) (.seq (.reg [.s (.load 75 true 4 (.t 17)), .s (.mv 76 (.t 18)), .s (.call (some 77) 13 [(.t 75), (.t 76)]), .s (.mv 74 (.t 77)), .s (.ext 78 (.t 74) 0), .s (.ext 79 (.t 74) 1), .s (.alloc 21 [.nils .word, .nils .bool, .nils .span, .nils .span]), .s (.store 4 (.t 21) (.t 78)), .s (.mv 22 (.t 79))]) (.seq (.reg [.s (.mv 80 (.t 0)), .s (.call (some 81) 14 [(.t 80)]), .s (.mv 82 (.t 0)), .s (.call (some 83) 15 [(.t 82)]), .s (.alloc 23 [.nils .word, .nils .bool, .nils .span, .nils .span]), .s (.alloc 24 [.nils .word, .nils .bool, .nils .span, .nils .span]), .s (.store 4 (.t 23) (.t 81)), .s (.store 4 (.t 24) (.t 83))]) (.seq (.seq (.rgd [] [.s (.mv 84 (.t 7)), .s (.mv 85 (.t 10)), .s (.eqs 86 false [.b] true (.t 84) (.t 85)), .s (.mv 87 (.t 86)), .g 87 false (some 88) (.load 88 true 4 (.t 5)), .g 87 false (some 89) (.load 89 true 4 (.t 8)), .g 87 false (some 90) (.call (some 90) 16 [(.t 88), (.t 89)]), .g 87 false (some 91) (.bnot 91 (.t 90)), .s (.pick 92 (.t 87) (.k (.v (.c .tt))) (.t 91)), .s (.mv 93 (.t 92)), .g 93 false (some 94) (.load 94 true 6 (.t 6)), .g 93 false (some 95) (.load 95 true 6 (.t 9)), .g 93 false (some 96) (.eqs 96 true [.i, .b, .i, .i, .i, .i] true (.t 94) (.t 95)), .s (.pick 97 (.t 93) (.k (.v (.c .tt))) (.t 96)), .s (.mv 98 (.t 97)), .g 98 false (some 99) (.mv 99 (.t 14)), .g 98 false (some 100) (.mv 100 (.t 16)), .g 98 false (some 101) (.eqs 101 false [.b] true (.t 99) (.t 100)), .s (.pick 102 (.t 98) (.k (.v (.c .tt))) (.t 101)), .s (.mv 103 (.t 102)), .g 103 false (some 104) (.load 104 true 4 (.t 13)), .g 103 false (some 105) (.load 105 true 4 (.t 15)), .g 103 false (some 106) (.call (some 106) 16 [(.t 104), (.t 105)]), .g 103 false (some 107) (.bnot 107 (.t 106)), .s (.pick 108 (.t 103) (.k (.v (.c .tt))) (.t 107)), .s (.mv 109 (.t 108)), .g 109 false (some 110) (.load 110 true 4 (.t 19)), .g 109 false (some 111) (.load 111 true 4 (.t 21)), .g 109 false (some 112) (.call (some 112) 16 [(.t 110), (.t 111)]), .g 109 false (some 113) (.bnot 113 (.t 112)), .s (.pick 114 (.t 109) (.k (.v (.c .tt))) (.t 113)), .s (.mv 115 (.t 114)), .g 115 false (some 116) (.mv 116 (.t 20)), .g 115 false (some 117) (.mv 117 (.t 22)), .g 115 false (some 118) (.call (some 118) 17 [(.t 116), (.t 117)]), .g 115 false (some 119) (.bnot 119 (.t 118)), .s (.pick 120 (.t 115) (.k (.v (.c .tt))) (.t 119)), .s (.mv 121 (.t 120)), .g 121 false (some 122) (.load 122 true 4 (.t 23)), .g 121 false (some 123) (.call (some 123) 18 [(.t 122)]), .g 121 false (some 124) (.load 124 true 4 (.t 23)), .g 121 false (some 125) (.call (some 125) 19 [(.t 124)]), .g 121 false (some 126) (.eqs 126 false [.b] true (.t 123) (.t 125)), .s (.pick 127 (.t 121) (.k (.v (.c .tt))) (.t 126)), .s (.mv 128 (.t 127)), .g 128 false (some 129) (.load 129 true 4 (.t 24)), .g 128 false (some 130) (.call (some 130) 20 [(.t 129)]), .g 128 false (some 131) (.load 131 true 4 (.t 24)), .g 128 false (some 132) (.call (some 132) 21 [(.t 131)]), .g 128 false (some 133) (.bin 133 .neq (.t 130) (.t 132)), .s (.pick 134 (.t 128) (.k (.v (.c .tt))) (.t 133)), .s (.mv 135 (.t 134)), .g 135 false (some 136) (.call (some 136) 22 []), .g 135 false (some 137) (.call (some 137) 18 [(.t 136)]), .g 135 false (some 138) (.bnot 138 (.t 137)), .s (.pick 139 (.t 135) (.k (.v (.c .tt))) (.t 138))] (.tk 0 (.tk 1 (.tk 2 (.tk 3 (.tk 4 (.tk 5 (.one 6 true (.tk 7 (.tk 8 (.tk 9 (.tk 10 (.tk 11 (.tk 12 (.tk 13 (.tk 14 (.tk 15 (.tk 16 (.tk 17 (.tk 18 (.tk 19 (.tk 20 (.tk 21 (.one 22 true (.tk 23 (.tk 24 (.tk 25 (.tk 26 (.tk 27 (.one 28 true (.tk 29 (.tk 30 (.tk 31 (.tk 32 (.tk 33 (.one 34 true (.tk 35 (.tk 36 (.tk 37 (.tk 38 (.tk 40 (.one 39 false (.one 41 true (.tk 42 (.tk 43 (.tk 44 (.tk 45 (.tk 47 (.one 46 false (.one 48 true (.tk 49 (.tk 50 (.tk 51 (.one 52 true (.one 53 true (.tk 54 (.tk 55 (.done none)))))))))))))))))))))))))))))))))))))))))))))))))))))))))) (.cond (.t 139) (.seq (.reg [.s (.mv 2 (.k (.v (.c .ff))))]) (.ret)) (.skip))) (.seq (.seq (.reg [.s (.mv 140 (.t 7)), .s (.bnot 141 (.t 140)), .s (.mv 142 (.t 141)), .g 142 true (some 143) (.load 143 true 4 (.t 5)), .g 142 true (some 144) (.load 144 true 4 (.t 3)), .g 142 true (some 145) (.call (some 145) 16 [(.t 143), (.t 144)]), .g 142 true (some 146) (.bnot 146 (.t 145)), .s (.pick 147 (.t 142) (.t 146) (.k (.v (.c .ff)))), .s (.mv 148 (.t 147)), .g 148 false (some 149) (.mv 149 (.t 14)), .g 148 false (some 150) (.bnot 150 (.t 149)), .g 148 false (some 151) (.mv 151 (.t 150)), .g 151 true (some 152) (.load 152 true 4 (.t 13)), .g 151 true (some 153) (.load 153 true 4 (.t 11)), .g 151 true (some 154) (.call (some 154) 16 [(.t 152), (.t 153)]), .g 151 true (some 155) (.bnot 155 (.t 154)), .g 148 false (some 156) (.pick 156 (.t 151) (.t 155) (.k (.v (.c .ff)))), .s (.pick 157 (.t 148) (.k (.v (.c .tt))) (.t 156))]) (.cond (.t 157) (.seq (.reg [.s (.mv 2 (.k (.v (.c .ff))))]) (.ret)) (.skip))) (.seq (.seq (.rgd [] [.s (.mv 158 (.t 7)), .s (.mv 159 (.t 158)), .g 159 true (some 160) (.load 160 true 4 (.t 5)), .g 159 true (some 161) (.call (some 161) 18 [(.t 160)]), .g 159 true (some 162) (.bnot 162 (.t 161)), .g 159 true (some 163) (.mv 163 (.t 162)), .g 163 false (some 164) (.load 164 true 4 (.t 5)), .g 163 false (some 165) (.call (some 165) 20 [(.t 164)]), .g 163 false (some 166) (.load 166 true 4 (.t 3)), .g 163 false (some 167) (.call (some 167) 20 [(.t 166)]), .g 163 false (some 168) (.mv 168 (.t 4)), .g 163 false (some 169) (.bin 169 .sub (.t 167) (.t 168)), .g 163 false (some 170) (.bin 170 .neq (.t 165) (.t 169)), .g 159 true (some 171) (.pick 171 (.t 163) (.k (.v (.c .tt))) (.t 170)), .g 159 true (some 172) (.mv 172 (.t 171)), .g 172 false (some 173) (.fa 173 (.t 6) 2), .g 172 false (some 174) (.fa 174 (.t 173) 1), .g 172 false (some 175) (.load 175 false 1 (.t 174)), .g 172 false (some 176) (.fa 176 (.t 6) 2), .g 172 false (some 177) (.fa 177 (.t 176) 0), .g 172 false (some 178) (.load 178 false 1 (.t 177)), .g 172 false (some 179) (.bin 179 .sub (.t 175) (.t 178)), .g 172 false (some 180) (.mv 180 (.t 4)), .g 172 false (some 181) (.bin 181 .neq (.t 179) (.t 180)), .g 159 true (some 182) (.pick 182 (.t 172) (.k (.v (.c .tt))) (.t 181)), .g 159 true (some 183) (.mv 183 (.t 182)), .g 183 false (some 184) (.fa 184 (.t 6) 2), .g 183 false (some 185) (.load 185 true 4 (.t 184)), .g 183 false (some 186) (.call (some 186) 23 [(.t 185)]), .g 183 false (some 187) (.bnot 187 (.t 186)), .g 159 true (some 188) (.pick 188 (.t 183) (.k (.v (.c .tt))) (.t 187)), .s (.pick 189 (.t 159) (.t 188) (.k (.v (.c .ff))))] (.tk 0 (.tk 1 (.tk 2 (.one 3 true (.tk 4 (.tk 5 (.tk 6 (.tk 8 (.tk 10 (.one 7 false (.one 9 true (.tk 11 (.tk 12 (.tk 13 (.tk 14 (.tk 15 (.tk 16 (.tk 17 (.tk 18 (.tk 19 (.tk 20 (.tk 21 (.tk 22 (.tk 23 (.tk 24 (.tk 25 (.tk 26 (.tk 27 (.one 28 true (.tk 29 (.tk 30 (.tk 31 (.done none)))))))))))))))))))))))))))))))))) (.cond (.t 189) (.seq (.reg [.s (.mv 2 (.k (.v (.c .ff))))]) (.ret)) (.skip))) (.seq (.seq (.rgd [] [.s (.mv 190 (.t 14)), .s (.mv 191 (.t 190)), .g 191 true (some 192) (.load 192 true 4 (.t 13)), .g 191 true (some 193) (.call (some 193) 18 [(.t 192)]), .g 191 true (some 194) (.bnot 194 (.t 193)), .g 191 true (some 195) (.mv 195 (.t 194)), .g 195 false (some 196) (.load 196 true 4 (.t 13)), .g 195 false (some 197) (.call (some 197) 20 [(.t 196)]), .g 195 false (some 198) (.load 198 true 4 (.t 11)), .g 195 false (some 199) (.call (some 199) 20 [(.t 198)]), .g 195 false (some 200) (.bin 200 .neq (.t 197) (.t 199)), .g 191 true (some 201) (.pick 201 (.t 195) (.k (.v (.c .tt))) (.t 200)), .s (.pick 202 (.t 191) (.t 201) (.k (.v (.c .ff))))] (.tk 0 (.tk 1 (.tk 2 (.one 3 true (.tk 4 (.tk 5 (.tk 6 (.tk 8 (.one 7 false (.one 9 true (.tk 10 (.tk 11 (.tk 12 (.done none))))))))))))))) (.cond (.t 202) (.seq (.reg [.s (.mv 2 (.k (.v (.c .ff))))]) (.ret)) (.skip))) (.seq (.rgd [] [.s (.load 203 true 4 (.t 17)), .s (.call (some 204) 18 [(.t 203)]), .s (.bnot 205 (.t 204)), .s (.mv 206 (.t 205)), .g 206 false (some 207) (.load 207 true 4 (.t 19)), .g 206 false (some 208) (.call (some 208) 18 [(.t 207)]), .g 206 false (some 209) (.mv 209 (.t 208)), .g 209 true (some 210) (.fa 210 (.t 19) 3), .g 209 true (some 211) (.load 211 false 1 (.t 210)), .g 209 true (some 212) (.len 212 false (.t 211)), .g 209 true (some 213) (.bin 213 .eql (.t 212) (.k (.v (.c (.int .i64 0))))), .g 206 false (some 214) (.pick 214 (.t 209) (.t 213) (.k (.v (.c .ff)))), .g 206 false (some 215) (.mv 215 (.t 214)), .g 215 true (some 216) (.load 216 true 4 (.t 19)), .g 215 true (some 217) (.call (some 217) 20 [(.t 216)]), .g 215 true (some 218) (.load 218 true 4 (.t 17)), .g 215 true (some 219) (.call (some 219) 20 [(.t 218)]), .g 215 true (some 220) (.bin 220 .geq (.t 217) (.t 219)), .g 206 false (some 221) (.pick 221 (.t 215) (.t 220) (.k (.v (.c .ff)))), .s (.pick 222 (.t 206) (.k (.v (.c .tt))) (.t 221)), .s (.mv 2 (.t 222))] (.tk 0 (.one 1 true (.tk 2 (.tk 3 (.tk 4 (.one 5 true (.tk 6 (.tk 7 (.tk 8 (.tk 9 (.tk 10 (.tk 11 (.tk 12 (.tk 13 (.tk 15 (.one 14 false (.one 16 true (.tk 17 (.tk 18 (.tk 19 (.tk 20 (.done none))))))))))))))))))))))) (.ret)))))))))))))))))⟩
def c_laws_FnHeaps : Fun := ⟨3, [], fun ts K => as1 ts fun t0 => arC (pL (.int .u8)) t0 fun code => chk (code.length ≤ 9223372036854775807) (K (tB true) [])⟩
set_option maxHeartbeats 4000000 in
theorem run_laws_FnHeaps (code : List (FT.Ty (.int .u8))) (hpre : code.length ≤ 9223372036854775807) : runK [c_laws_big, c_spec_DrawGrant, c_impl_Grant, c_spec_Grant, c_spec_DrawGiveBack, c_impl_GiveBack, c_spec_GiveBack, c_spec_DrawClean, c_impl_Clean, c_spec_Clean, c_spec_DrawHeapOk, c_spec_DrawFreeCells, c_laws_sameHeap, c_laws_sameWords, c_impl_HeapOk, c_spec_HeapOk, c_impl_FreeCells, c_spec_FreeCells, c_impl_HeapNew, c_impl_KeyOk] (0) [] pf_laws_FnHeaps [tL false (.int .u8) code] fun r o => r = tB true ∧ o = [] := by
  conv => whnf
  refine sel_i (fun h => ?_) (fun h => ?_) <;> conv => whnf
  · exact ⟨rfl, rfl⟩
  have hc : code.length ≤ 1048576 := by simp at h; omega
  clear h
  refine chk_i hc ?_
  conv => whnf
  intro H0 n hh
  conv => whnf
  refine chk_i (hh.mono (by decide)) ?_
  conv => whnf
  refine chk_i (hh.mono (by decide)) ?_
  conv => whnf
  refine chk_i hc ?_
  conv => whnf
  intro g k hg
  conv => whnf
  refine chk_i (hg.mono (by decide)) ?_
  conv => whnf
  refine chk_i (hg.mono (by decide)) ?_
  conv => whnf
  refine chk_i hc ?_
  conv => whnf
  intro e rs he
  obtain ⟨he, hr⟩ := he
  conv => whnf
  refine chk_i ⟨he.mono (by decide), by omega⟩ ?_
  conv => whnf
  refine chk_i ⟨he.mono (by decide), by omega⟩ ?_
  conv => whnf
  refine chk_i hc ?_
  conv => whnf
  intro o ho
  conv => whnf
  refine chk_i hc ?_
  conv => whnf
  intro z hz
  simp only [etaMemory, etaHeap] at *
  have GA := grant_all H0 n
  have GB := give_all g k
  have CA := clean_all e rs
  generalize grant H0 n = A at *
  generalize giveBack g k = B at *
  generalize clean e rs = C at *
  obtain ⟨a, w, ok⟩ := A
  obtain ⟨c, is⟩ := B
  obtain ⟨f, r⟩ := C
  dsimp only at GA GB CA ⊢
  have ha := GA.len hh
  have hc2 := GB.len hg
  have hf := CA.len he
  have hr2 := CA.len2
  have n1 := GA.no
  have y1 := GA.yes
  have n2 := GB.no
  have y2 := GB.yes
  have y3 := CA.yes
  have b1 := freeN_in a
  have b2 := freeN_in H0
  have w1 : ok = true → IntKind.i64.wrap (freeN H0 - n) = freeN H0 - n := fun hk => by
    have := (y1 hk).2.1
    exact wrap_id (by omega) (by omega)
  have w2 : ok = true → IntKind.i64.wrap (w.key.top - w.key.base) = w.key.top - w.key.base := fun hk => by
    have := (y1 hk).2.2.2.2
    have := (y1 hk).2.2.1
    have := (y1 hk).2.1
    exact wrap_id (by omega) (by omega)
  have h0 : heapOk heapNew = true := good_new.ok
  conv => whnf
  repeat' (first | (refine sel_i (fun h => ?_) (fun h => ?_) <;> conv => whnf) | (refine chk_c ?_ ?_ <;> conv => whnf) | (refine And.intro ?_ rfl) | (refine And.intro ?_ ?_ <;> conv => whnf))
  all_goals (try simp only [etaMemory, etaHeap, etaKey, etaWord] at *)
  all_goals first
    | (refine ⟨?_⟩; exact ⟨ha.mono (by decide), ha.mono (by decide)⟩)
    | (refine ⟨?_⟩; exact ⟨hc2.mono (by decide), hc2.mono (by decide)⟩)
    | (refine ⟨?_⟩; exact ⟨hf.mono (by decide), hf.mono (by decide)⟩)
    | (refine ⟨?_⟩; exact ⟨ha.mono (by decide), hh.mono (by decide)⟩)
    | (refine ⟨?_⟩; exact ⟨hc2.mono (by decide), hg.mono (by decide)⟩)
    | (refine ⟨?_⟩; exact ⟨by omega, by omega⟩)
    | (refine ⟨?_⟩; exact ha.mono (by decide))
    | (refine ⟨?_⟩; exact hh.mono (by decide))
    | (refine ⟨?_⟩; exact hc2.mono (by decide))
    | (refine ⟨?_⟩; exact hg.mono (by decide))
    | (refine ⟨?_⟩; exact hf.mono (by decide))
    | (refine ⟨?_⟩; exact he.mono (by decide))
    | (refine ⟨?_⟩; exact ho.mono (by decide))
    | (refine ⟨?_⟩; exact hz.mono (by decide))
    | (refine ⟨?_⟩; exact (heapOk_len good_new.ok).mono (by decide))
    | rfl
    | trivial
    | skip
  all_goals clear hpre hc GA GB CA ha hc2 hf hr2 hh hg he hr ho hz b1 b2
  all_goals first
    | (exfalso; simp_all; done)
    | (simp_all; done)
    | trace_state
theorem ok_laws_FnHeaps : FunOk Tryz.prog c_laws_FnHeaps := funOk (E := [c_laws_big, c_spec_DrawGrant, c_impl_Grant, c_spec_Grant, c_spec_DrawGiveBack, c_impl_GiveBack, c_spec_GiveBack, c_spec_DrawClean, c_impl_Clean, c_spec_Clean, c_spec_DrawHeapOk, c_spec_DrawFreeCells, c_laws_sameHeap, c_laws_sameWords, c_impl_HeapOk, c_spec_HeapOk, c_impl_FreeCells, c_spec_FreeCells, c_impl_HeapNew, c_impl_KeyOk]) (envOk_cons ok_laws_big (envOk_cons ok_spec_DrawGrant (envOk_cons ok_impl_Grant (envOk_cons ok_spec_Grant (envOk_cons ok_spec_DrawGiveBack (envOk_cons ok_impl_GiveBack (envOk_cons ok_spec_GiveBack (envOk_cons ok_spec_DrawClean (envOk_cons ok_impl_Clean (envOk_cons ok_spec_Clean (envOk_cons ok_spec_DrawHeapOk (envOk_cons ok_spec_DrawFreeCells (envOk_cons ok_laws_sameHeap (envOk_cons ok_laws_sameWords (envOk_cons ok_impl_HeapOk (envOk_cons ok_spec_HeapOk (envOk_cons ok_impl_FreeCells (envOk_cons ok_spec_FreeCells (envOk_cons ok_impl_HeapNew (envOk_cons ok_impl_KeyOk (envOk_nil))))))))))))))))))))) mixd Tryz.func3 (pf := pf_laws_FnHeaps) (by kernel_rfl) fun ts K h => by
  obtain ⟨t0, e0, h⟩ := as1_out h
  subst e0
  obtain ⟨code, e1, hq⟩ := arC_out (rd_l (.int .u8)) h
  clear h
  subst e1
  have h := hq
  clear hq
  obtain ⟨hpre, h⟩ := chk_o h
  exact ⟨_, _, h, Nat.le_of_ble_eq_true (show Nat.ble 1 Tryz.f3.ntmps = true by kernel_rfl), _, run_laws_FnHeaps code hpre⟩

end Go.Pi
namespace Go.Proofs.YthpjpaginggjaaaGreat
open Go.Pi
theorem fnHeaps_lifted (os : Os) (started : os.Started) (H : Type) (enc : TypeId × Value → H) :
    ReturnsInHanded {} Tryz.checked os 3 .any (Rows.fnHeapsSpec.pre6 enc Tryz.prog Tryz.f3 Rows.fnHeapsRow.domain false) (Rows.fnHeapsSpec.post enc Tryz.prog Tryz.f3 false true false false) :=
  lifted (C := Tryz.checked) (E := [c_laws_big, c_spec_DrawGrant, c_impl_Grant, c_spec_Grant, c_spec_DrawGiveBack, c_impl_GiveBack, c_spec_GiveBack, c_spec_DrawClean, c_impl_Clean, c_spec_Clean, c_spec_DrawHeapOk, c_spec_DrawFreeCells, c_laws_sameHeap, c_laws_sameWords, c_impl_HeapOk, c_spec_HeapOk, c_impl_FreeCells, c_spec_FreeCells, c_impl_HeapNew, c_impl_KeyOk]) (fuel := _) (pf := pf_laws_FnHeaps) (shs := [(false, [.sl (.int .u8)])]) (tb := 4) (by kernel_rfl) started (by kernel_rfl) Tryz.func3
    (ChangeSpec.witness6 (enc := enc) (C := Tryz.checked) false ⟨#[], #[.slice none 0 0], []⟩ 12 (by kernel_rfl) (by kernel_rfl) (by kernel_rfl) (by kernel_rfl))
    mixd (envOk_cons ok_laws_big (envOk_cons ok_spec_DrawGrant (envOk_cons ok_impl_Grant (envOk_cons ok_spec_Grant (envOk_cons ok_spec_DrawGiveBack (envOk_cons ok_impl_GiveBack (envOk_cons ok_spec_GiveBack (envOk_cons ok_spec_DrawClean (envOk_cons ok_impl_Clean (envOk_cons ok_spec_Clean (envOk_cons ok_spec_DrawHeapOk (envOk_cons ok_spec_DrawFreeCells (envOk_cons ok_laws_sameHeap (envOk_cons ok_laws_sameWords (envOk_cons ok_impl_HeapOk (envOk_cons ok_spec_HeapOk (envOk_cons ok_impl_FreeCells (envOk_cons ok_spec_FreeCells (envOk_cons ok_impl_HeapNew (envOk_cons ok_impl_KeyOk (envOk_nil))))))))))))))))))))) (by kernel_rfl) (by kernel_rfl) (by kernel_rfl) rfl (by kernel_rfl) rfl
    (fun ds h => by
      obtain _ | ⟨d0, ds⟩ := ds
      · simp at h
      obtain _ | ⟨x, ds⟩ := ds
      · rfl
      · simp at h)
    (fun ain h0 => by
      obtain ⟨T0, ain0, e, k0, h1⟩ := areCons h0
      subst e
      have e := areNil h1
      subst e
      obtain ⟨code, e, w0⟩ := isL k0
      subst e
      exact run_laws_FnHeaps code (w0.2))
theorem fnHeaps_over : Rows.fnHeapsRow.holds Tryz.pinned (OpenSpec.ofChange Rows.fnHeapsSpec) :=
  OpenClaim.holds_of_wide 3 Tryz.f3 rfl rfl rfl rfl rfl rfl rfl ⟨rfl, rfl, rfl, rfl, rfl⟩ rfl rfl rfl rfl rfl (by kernel_rfl) Tryz.func3 (by kernel_rfl)
    (of_decide_eq_true (by kernel_rfl)) (by unfold Func.isWrapper; first | (rw [if_pos (by decide +kernel)]; kernel_rfl) | (rw [if_neg (by decide +kernel)]; exact ⟨rfl, rfl⟩))
    (fun os started H enc _ => fnHeaps_lifted os started H enc)
theorem fnHeaps_holds : Rows.FnHeapsSaid := fnHeaps_over
#print axioms fnHeaps_holds
end Go.Proofs.YthpjpaginggjaaaGreat
