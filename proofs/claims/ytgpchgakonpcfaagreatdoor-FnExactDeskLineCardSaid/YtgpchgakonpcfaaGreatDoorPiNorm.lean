/- At loop heads: what is dead is forgotten, the blocks get new numbers: what is related stays so. No conditions. -/
import Derived.Test.YtgpchgakonpcfaaGreatDoorPiRun2
namespace Go.Pi
set_option linter.unusedVariables false
set_option linter.unusedSimpArgs false
set_option linter.constructorNameAsVariable false

abbrev Ctx.at {P : Program} (c : Ctx P) (n : Nat → Prop) : Ctx P := { c with qs := n }

section
variable {P : Program} {c : Ctx P} {ρ : Map} {Z Y : List Nat} {st : St} {w : World} {a : Act} {k : St → Prop}

theorem HR.loud {n : Nat → Prop} {st' : St} (h : HR c ρ Z Y st w) (h1 : st'.hp = st.hp) (h2 : st'.nx = st.nx) (h3 : st'.q = false) : HR (c.at n) ρ Z Y st' w := by
  have hg : ∀ b, st'.hget b = st.hget b := fun b => by unfold St.hget; rw [h1]
  refine ⟨fun b B hb => h.bk b B (by rw [← hg]; exact hb), fun b B l b' B' l' hb hl hb' hl' => h.sp b B l b' B' l' (by rw [← hg]; exact hb) hl (by rw [← hg]; exact hb') hl', fun b B l hb hl => h.ow b B l (by rw [← hg]; exact hb) hl, h.zn,
    fun z hz => ⟨(h.zb z hz).1, (h.zb z hz).2.1, (h.zb z hz).2.2.1, fun b B l hb hl => (h.zb z hz).2.2.2 b B l (by rw [← hg]; exact hb) hl⟩, fun y hy => ⟨(h.yb y hy).1, (h.yb y hy).2.1, fun b B l hb hl => (h.yb y hy).2.2 b B l (by rw [← hg]; exact hb) hl⟩,
    by rw [h2]; exact h.nx, by rw [h2]; exact h.nf, h.fr, (fun hq => by rw [h3] at hq; cases hq), (fun hq => by rw [h3] at hq; cases hq), (fun hq => by rw [h3] at hq; cases hq)⟩
def stay (ρ : Map) (st : St) (w : World) (O : List Nat) : Nat → Prop := fun m => m < w.heap.size ∧ m ∉ feet ρ st O
theorem HR.still {st' : St} {O : List Nat} (h : HR c ρ [] [] st w) (h1 : st'.hp = st.hp) (h2 : st'.nx = st.nx) (h4 : st'.fr = O) : HR (c.at (stay ρ st w O)) ρ [] [] st' w := by
  have hg : ∀ b, st'.hget b = st.hget b := fun b => by unfold St.hget; rw [h1]
  refine ⟨fun b B hb => h.bk b B (by rw [← hg]; exact hb), fun b B l b' B' l' hb hl hb' hl' => h.sp b B l b' B' l' (by rw [← hg]; exact hb) hl (by rw [← hg]; exact hb') hl', fun b B l hb hl => h.ow b B l (by rw [← hg]; exact hb) hl, h.zn,
    (fun z hz => by cases hz), (fun y hy => by cases hy),
    by rw [h2]; exact h.nx, by rw [h2]; exact h.nf, h.fr, fun _ i hi B l hb hl x hx hs => hs.2 (List.mem_flatMap.2 ⟨i, h4 ▸ hi, by rw [footOf_eq ((hg i).symm.trans hb) hl]; exact hx⟩), fun _ z hz => (by cases hz), fun _ n hn => hn.1⟩
theorem HR.drew (h : HR c ρ [] [] st w) : HR c ρ [] [] st w.drew :=
  h.world (Z' := []) (Y' := []) ⟨rfl, rfl, rfl, Nat.le_refl _, fun _ _ _ => rfl⟩ List.nodup_nil (fun z hz => by cases hz) (fun y hy => by cases hy)

def inv : List (Nat × Nat) → Nat → Option Nat
  | [], _ => none
  | (b, j) :: r, i => if i = j then some b else inv r i
theorem inv_some : ∀ {ac : List (Nat × Nat)} {i b : Nat}, inv ac i = some b → (b, i) ∈ ac
  | (b', j) :: r, i, b, h => by
    simp only [inv] at h
    split at h
    · rename_i e; cases h; subst e; simp
    · exact List.mem_cons_of_mem _ (inv_some h)
theorem inv_of : ∀ {ac : List (Nat × Nat)} {i b : Nat}, (ac.map Prod.snd).Nodup → (b, i) ∈ ac → inv ac i = some b
  | (b', j) :: r, i, b, hn, h => by
    simp only [List.map_cons, List.nodup_cons] at hn
    simp only [inv]
    rcases List.mem_cons.1 h with e | h
    · cases e; simp
    · rw [if_neg (fun e => hn.1 (by rw [← e]; exact List.mem_map.2 ⟨(b, i), h, rfl⟩))]
      exact inv_of hn.2 h
theorem inv_none {ac : List (Nat × Nat)} {i : Nat} (h : i ∉ ac.map Prod.snd) : inv ac i = none := by
  cases hi : inv ac i with
  | none => rfl
  | some b => exact absurd (List.mem_map.2 ⟨(b, i), inv_some hi, rfl⟩) h
theorem aget_mem {α : Type} : ∀ {ac : List (Nat × α)} {b : Nat} {j : α}, aget ac b = some j → (b, j) ∈ ac
  | (b', j') :: r, b, j, h => by
    rw [aget_cons] at h
    split at h
    · rename_i e; cases h; subst e; simp
    · exact List.mem_cons_of_mem _ (aget_mem h)

def ren (ρ : Map) (ac : List (Nat × Nat)) : Map := fun i => (inv ac i).bind ρ
theorem ren_eq {ac : List (Nat × Nat)} (hn : (ac.map Prod.snd).Nodup) {b j : Nat} (h : aget ac b = some j) : ren ρ ac j = ρ b := by
  unfold ren; rw [inv_of hn (aget_mem h)]; rfl

theorem reach_out : ∀ {n : Nat} {cs : List Cell} {ac : List (Nat × Nat)} {ns : List Nat} {hp : List (Nat × Option Blk)} {f : List (Nat × Nat) → List Nat → Prop}, (ac.map Prod.snd ++ ns).Nodup → (ac.map Prod.fst).Nodup → (∀ b, b ∈ ac.map Prod.fst ↔ ∃ j, aget ac b = some j) →
    reach hp n cs ac ns f → ∃ ac' ns', f ac' ns' ∧ (ac'.map Prod.snd ++ ns').Nodup ∧ (ac'.map Prod.fst).Nodup
  | 0, _, _, _, _, _, _, _, _, h => h.elim
  | n + 1, [], ac, ns, hp, f, h1, h2, _, h => ⟨ac, ns, h, h1, h2⟩
  | n + 1, x :: cs, ac, ns, hp, f, h1, h2, h3, h => by
    simp only [reach] at h
    split at h
    · exact reach_out h1 h2 h3 h
    · rename_i b hb
      split at h
      · exact reach_out h1 h2 h3 h
      · rename_i hnone
        cases ns with
        | nil => exact h.elim
        | cons j ns =>
          have hnb : b ∉ ac.map Prod.fst := fun hm => by obtain ⟨i, hi⟩ := (h3 b).1 hm; rw [hnone] at hi; cases hi
          have g1 : (((b, j) :: ac).map Prod.snd ++ ns).Nodup := by
            simp only [List.map_cons, List.cons_append]
            have := (List.perm_middle (a := j) (l₁ := ac.map Prod.snd) (l₂ := ns)).nodup_iff.1 h1
            exact this
          have g2 : (((b, j) :: ac).map Prod.fst).Nodup := by
            simp only [List.map_cons, List.nodup_cons]; exact ⟨hnb, h2⟩
          have g3 : ∀ b', b' ∈ ((b, j) :: ac).map Prod.fst ↔ ∃ i, aget ((b, j) :: ac) b' = some i := fun b' => by
            rw [aget_cons, List.map_cons, List.mem_cons]
            by_cases e : b' = b
            · subst e; simp
            · simp only [e, if_false, false_or]; exact h3 b'
          dsimp only at h
          split at h
          · exact reach_out g1 g2 g3 h
          · exact reach_out g1 g2 g3 h

variable {ac : List (Nat × Nat)}
theorem renC_out (hn : (ac.map Prod.snd).Nodup) {x : Cell} {f : Cell → Prop} (h : renC ac x f) : ∃ y, f y ∧ (∀ v, CellR ρ x v → CellR (ren ρ ac) y v) ∧ ∀ nn τ b, x = .sl nn τ b → ∃ j, y = .sl nn τ j ∧ ren ρ ac j = ρ b := by
  unfold renC at h
  split at h
  · rename_i b o
    split at h
    · rename_i j hj; exact ⟨_, h, (fun v ⟨l, hl, hv⟩ => ⟨l, by rw [ren_eq hn hj]; exact hl, hv⟩), fun _ _ _ e => by cases e⟩
    · exact h.elim
  · rename_i τ b i o
    split at h
    · rename_i j hj; exact ⟨_, h, (fun v ⟨l, hl, hv⟩ => ⟨l, by rw [ren_eq hn hj]; exact hl, hv⟩), fun _ _ _ e => by cases e⟩
    · exact h.elim
  · rename_i nn τ b
    split at h
    · rename_i j hj; exact ⟨_, h, (fun v ⟨l, A, hl, hv⟩ => ⟨l, A, by rw [ren_eq hn hj]; exact hl, hv⟩), fun _ _ _ e => by cases e; exact ⟨j, rfl, ren_eq hn hj⟩⟩
    · exact h.elim
  · rename_i nn τ b o l
    split at h
    · rename_i j hj; exact ⟨_, h, (fun v ⟨l, A, hl, hv⟩ => ⟨l, A, by rw [ren_eq hn hj]; exact hl, hv⟩), fun _ _ _ e => by cases e⟩
    · exact h.elim
  · rename_i τ b i
    split at h
    · rename_i j hj; exact ⟨_, h, (fun v ⟨l, A, hl, hv⟩ => ⟨l, A, by rw [ren_eq hn hj]; exact hl, hv⟩), fun _ _ _ e => by cases e⟩
    · exact h.elim
  · rename_i τ b i j c
    split at h
    · rename_i j hj; exact ⟨_, h, (fun v ⟨l, A, hl, hv⟩ => ⟨l, A, by rw [ren_eq hn hj]; exact hl, hv⟩), fun _ _ _ e => by cases e⟩
    · exact h.elim
  · refine ⟨_, h, (fun v hv => ?_), fun nn τ b e => ?_⟩
    · cases x <;> first
      | exact hv
      | (rename_i q1 q2 q3 q4 q5 q6; first | exact absurd rfl (q1 _ _) | exact absurd rfl (q2 _ _ _ _) | exact absurd rfl (q3 _ _ _) | exact absurd rfl (q4 _ _ _ _ _) | exact absurd rfl (q5 _ _ _) | exact absurd rfl (q6 _ _ _ _ _))
    · subst e; rename_i q1 q2 q3 q4 q5 q6; exact absurd rfl (q3 _ _ _)
theorem renL_out (hn : (ac.map Prod.snd).Nodup) : ∀ {xs : List Cell} {f : List Cell → Prop}, renL ac xs f → ∃ ys, f ys ∧ ys.length = xs.length ∧ ∀ vs, CellsR ρ xs vs → CellsR (ren ρ ac) ys vs
  | [], f, h => ⟨[], h, rfl, fun vs hv => by cases All2.nil_left hv; trivial⟩
  | x :: xs, f, h => by
    obtain ⟨y, h1, g1, _⟩ := renC_out (ρ := ρ) hn h
    obtain ⟨ys, h2, hl, g2⟩ := renL_out hn h1
    exact ⟨y :: ys, h2, by simp [hl], fun vs hv => by obtain ⟨v, vs, rfl, a1, a2⟩ := All2.cons_left hv; exact ⟨g1 v a1, g2 vs a2⟩⟩
theorem ren1_out (hn : (ac.map Prod.snd).Nodup) {x : V1} {f : V1 → Prop} (h : ren1 ac x f) : ∃ y, f y ∧ (∀ v, V1R ρ x v → V1R (ren ρ ac) y v) ∧ ∀ nn τ b, x = .c (.sl nn τ b) → ∃ j, y = .c (.sl nn τ j) ∧ ren ρ ac j = ρ b := by
  cases x with
  | c x =>
    have h : renC ac x (fun x => f (.c x)) := h
    obtain ⟨y, h1, g1, g2⟩ := renC_out (ρ := ρ) hn h
    exact ⟨.c y, h1, g1, fun nn τ b e => by cases e; obtain ⟨j, e, q⟩ := g2 _ _ _ rfl; exact ⟨j, by rw [e], q⟩⟩
  | g xs =>
    have h : renL ac xs (fun x => f (.g x)) := h
    obtain ⟨y, h1, _, g1⟩ := renL_out (ρ := ρ) hn h; exact ⟨.g y, h1, (fun v ⟨vs, e, hv⟩ => ⟨vs, e, g1 vs hv⟩), fun _ _ _ e => by cases e⟩
theorem ren1s_out (hn : (ac.map Prod.snd).Nodup) : ∀ {xs : List V1} {f : List V1 → Prop}, ren1s ac xs f → ∃ ys, f ys ∧ ∀ vs, V1sR ρ xs vs → V1sR (ren ρ ac) ys vs
  | [], f, h => ⟨[], h, fun vs hv => by cases All2.nil_left hv; trivial⟩
  | x :: xs, f, h => by
    obtain ⟨y, h1, g1, _⟩ := ren1_out (ρ := ρ) hn h
    obtain ⟨ys, h2, g2⟩ := ren1s_out hn h1
    exact ⟨y :: ys, h2, fun vs hv => by obtain ⟨v, vs, rfl, a1, a2⟩ := All2.cons_left hv; exact ⟨g1 v a1, g2 vs a2⟩⟩
theorem renV_out (hn : (ac.map Prod.snd).Nodup) {x : TV} {f : TV → Prop} (h : renV ac x f) : ∃ y, f y ∧ (∀ v, TVR ρ x v → TVR (ren ρ ac) y v) ∧ ∀ hs, HdR ρ x hs → HdR (ren ρ ac) y hs := by
  cases x with
  | v x =>
    have h : ren1 ac x (fun x => f (.v x)) := h
    obtain ⟨y, h1, g1, g2⟩ := ren1_out (ρ := ρ) hn h
    refine ⟨.v y, h1, g1, fun hs hh zs e => ?_⟩
    obtain ⟨nn, τ, b, l, q1, q2, q3⟩ := hh zs e
    cases q1
    obtain ⟨j, q4, q5⟩ := g2 _ _ _ rfl
    exact ⟨nn, τ, j, l, by rw [q4], by rw [q5]; exact q2, q3⟩
  | tup xs =>
    have h : ren1s ac xs (fun x => f (.tup x)) := h
    obtain ⟨y, h1, g1⟩ := ren1s_out (ρ := ρ) hn h; exact ⟨.tup y, h1, (fun v ⟨vs, e, hv⟩ => ⟨vs, e, g1 vs hv⟩), fun hs hh zs e => by obtain ⟨_, _, _, _, q, _⟩ := hh zs e; cases q⟩
  | fn g xs =>
    have h : ren1s ac xs (fun x => f (.fn g x)) := h
    obtain ⟨y, h1, g1⟩ := ren1s_out (ρ := ρ) hn h; exact ⟨.fn g y, h1, (fun v ⟨vs, e, hv⟩ => ⟨vs, e, g1 vs hv⟩), fun hs hh zs e => by obtain ⟨_, _, _, _, q, _⟩ := hh zs e; cases q⟩
  | rows b g n =>
    have h : (match aget ac b with | some b => f (.rows b g n) | none => False) := h
    cases hb : aget ac b with
    | none => rw [hb] at h; exact h.elim
    | some j =>
      rw [hb] at h
      exact ⟨.rows j g n, h, (fun v ⟨l, c, hl, e⟩ => ⟨l, c, by rw [ren_eq hn hb]; exact hl, e⟩), fun hs hh zs e => by obtain ⟨_, _, _, _, q, _⟩ := hh zs e; cases q⟩
  | unk => exact ⟨.unk, h, (fun v _ => trivial), fun hs hh zs e => by obtain ⟨_, _, _, _, q, _⟩ := hh zs e; cases q⟩
theorem renVs_out (hn : (ac.map Prod.snd).Nodup) : ∀ {xs : List TV} {f : List TV → Prop}, renVs ac xs f → ∃ ys, f ys ∧ (∀ vs, TVsR ρ xs vs → TVsR (ren ρ ac) ys vs) ∧ ∀ hs, All2 (HdR ρ) xs hs → All2 (HdR (ren ρ ac)) ys hs
  | [], f, h => ⟨[], h, (fun vs hv => by cases All2.nil_left hv; trivial), fun vs hv => by cases All2.nil_left hv; trivial⟩
  | x :: xs, f, h => by
    obtain ⟨y, h1, g1, g3⟩ := renV_out (ρ := ρ) hn h
    obtain ⟨ys, h2, g2, g4⟩ := renVs_out hn h1
    exact ⟨y :: ys, h2, (fun vs hv => by obtain ⟨v, vs, rfl, a1, a2⟩ := All2.cons_left hv; exact ⟨g1 v a1, g2 vs a2⟩), fun vs hv => by obtain ⟨v, vs, rfl, a1, a2⟩ := All2.cons_left hv; exact ⟨g3 v a1, g4 vs a2⟩⟩
theorem renT_out (hn : (ac.map Prod.snd).Nodup) {tm : List (Nat × TV)} {tmps : Array Value} (ht : ∀ i v, aget tm i = some v → ∃ u, tmps[i]? = some u ∧ TVR ρ v u) : ∀ {L : List Nat} {f : List (Nat × TV) → Prop}, renT ac tm L f →
    ∃ tm', f tm' ∧ ∀ i v, aget tm' i = some v → ∃ u, tmps[i]? = some u ∧ TVR (ren ρ ac) v u
  | [], f, h => ⟨[], h, fun i v hv => by cases hv⟩
  | l :: L, f, h => by
    simp only [renT] at h
    split at h
    · rename_i x hx
      obtain ⟨y, h1, g1, _⟩ := renV_out (ρ := ρ) hn h
      obtain ⟨tm', h2, g2⟩ := renT_out hn ht h1
      refine ⟨_, h2, fun i v hv => ?_⟩
      rw [aget_cons] at hv
      split at hv
      · rename_i e; cases hv; subst e
        obtain ⟨u, a1, a2⟩ := ht i x hx
        exact ⟨u, a1, g1 u a2⟩
      · exact g2 i v hv
    · exact renT_out hn ht h

structure Like (ρ ρ' : Map) (B B' : Blk) : Prop where
  foot : B'.foot = B.foot
  shw : B'.shw = B.shw
  rel : ∀ (w : World) l, BlkR w ρ l B → BlkR w ρ' l B'
theorem renH_out (hn : (ac.map Prod.snd).Nodup) : ∀ {bs : List (Nat × Nat)} {f : List (Nat × Option Blk) → Prop}, renH ac st.hp bs f →
    ∃ hp', f hp' ∧ ∀ x B', (match aget hp' x with | some (some B) => some B | _ => none) = some B' → ∃ b B, (b, x) ∈ bs ∧ st.hget b = some B ∧ Like ρ (ren ρ ac) B B'
  | [], f, h => ⟨[], h, fun x B hB => by simp [aget] at hB⟩
  | (b, j) :: bs, f, h => by
    simp only [renH] at h
    have next : ∀ {B B' : Blk} {f' : List (Nat × Option Blk) → Prop}, st.hget b = some B → Like ρ (ren ρ ac) B B' → renH ac st.hp bs (fun r => f ((j, some B') :: r)) → ∃ hp', f hp' ∧ ∀ x C, (match aget hp' x with | some (some B) => some B | _ => none) = some C → ∃ b' B, (b', x) ∈ (b, j) :: bs ∧ st.hget b' = some B ∧ Like ρ (ren ρ ac) B C := by
      intro B B' _ hg hl h
      obtain ⟨hp', h2, g2⟩ := renH_out hn h
      refine ⟨_, h2, fun x C hC => ?_⟩
      rw [aget_cons] at hC
      split at hC
      · rename_i B0 hB0
        split at hB0
        · rename_i e
          subst e
          cases hB0; cases hC
          exact ⟨b, B, by simp, hg, hl⟩
        · obtain ⟨b', B1, q1, q2⟩ := g2 x C (by rw [hB0]; exact hC)
          exact ⟨b', B1, List.mem_cons_of_mem _ q1, q2⟩
      · cases hC
    split at h
    · rename_i rw' cs hb
      obtain ⟨cs', h1, hlen, g1⟩ := renL_out (ρ := ρ) hn h
      refine next (B := .box rw' cs) (f' := f) (by unfold St.hget; rw [hb]) ⟨by funext l; cases rw' <;> rfl, by funext l; cases rw' <;> rfl, fun w l hB => ?_⟩ h1
      obtain ⟨⟨vs, hra, hr⟩, hth⟩ := hB
      exact ⟨⟨vs, hra, g1 vs hr⟩, fun e => by rw [hlen]; exact hth e⟩
    · rename_i rw' τ cap xs hb
      exact next (B := .flat rw' τ cap xs) (f' := f) (by unfold St.hget; rw [hb]) ⟨rfl, rfl, fun w l hB => hB⟩ h
    · rename_i rw' τ xss hb
      exact next (B := .rows rw' τ xss) (f' := f) (by unfold St.hget; rw [hb]) ⟨rfl, rfl, fun w l hB => hB⟩ h
    · obtain ⟨hp', h2, g2⟩ := renH_out hn h
      exact ⟨hp', h2, fun x C hC => by obtain ⟨b', B1, q1, q2⟩ := g2 x C hC; exact ⟨b', B1, List.mem_cons_of_mem _ q1, q2⟩⟩

theorem nums_nodup : nums.Nodup := (nodup_iff nums).1 (by decide)

theorem norm_out {L : List Nat} {n : Nat → Prop} (h : Rel c ρ [] [] st a w) (hk : norm L st k) : ∃ ρ' st', Rel (c.at n) ρ' [] [] st' a w ∧ k st' ∧ st'.q = false := by
  have hk0 : reach st.hp 300 (cellsVs st.ar ++ liveCells st.tm L) [] nums (fun ac ns => renVs ac st.ar fun ar => renT ac st.tm L fun tm' => renH ac st.hp ac fun hp' => k ⟨tm', hp', ns, ar, false, []⟩) := hk
  obtain ⟨ac, ns, hk1, hnd, hfst⟩ := reach_out (by simpa using nums_nodup) (by simp) (fun b => by simp [aget]) hk0
  have hn := (List.nodup_append.1 hnd).1
  obtain ⟨ar, hk2, har, hah⟩ := renVs_out (ρ := ρ) hn hk1
  obtain ⟨tm', hk3, htm⟩ := renT_out hn h.tm hk2
  obtain ⟨hp', hk4, hhp⟩ := renH_out (ρ := ρ) (st := st) hn hk3
  refine ⟨ren ρ ac, _, ⟨?_, h.N, htm, ⟨har _ h.ar.tv, hah _ h.ar.hd⟩, h.df⟩, hk4, rfl⟩
  have old : ∀ {x : Nat} {B' : Blk}, St.hget ⟨tm', hp', ns, ar, false, []⟩ x = some B' → ∃ b B, (b, x) ∈ ac ∧ st.hget b = some B ∧ Like ρ (ren ρ ac) B B' ∧ ren ρ ac x = ρ b := fun {x B'} hx => by
    obtain ⟨b, B, q1, q2, q3⟩ := hhp x B' hx
    exact ⟨b, B, q1, q2, q3, by unfold ren; rw [inv_of hn q1]; rfl⟩
  refine ⟨fun x B hx => ?_, fun x B l x' B' l' hx hl hx' hl' hne y hy => ?_, fun x B l hx hl => ?_, List.nodup_nil, (fun z hz => by cases hz), (fun y hy => by cases hy), (List.nodup_append.1 hnd).2.1, fun i hi => ?_, h.hr.fr, (fun e => by cases e), (fun e => by cases e), (fun e => by cases e)⟩
  · obtain ⟨b, B0, q1, q2, q3, q4⟩ := old hx
    obtain ⟨l, r1, r2⟩ := h.hr.bk b B0 q2
    exact ⟨l, by rw [q4]; exact r1, q3.rel w l r2⟩
  · obtain ⟨b, B0, q1, q2, q3, q4⟩ := old hx
    obtain ⟨b', B0', p1, p2, p3, p4⟩ := old hx'
    rw [q4] at hl
    rw [p4] at hl'
    have hbb : b ≠ b' := fun e => by
      subst e
      have : x = x' := by
        have uniq : ∀ {ac : List (Nat × Nat)}, (ac.map Prod.fst).Nodup → (b, x) ∈ ac → (b, x') ∈ ac → x = x' := by
          intro ac
          induction ac with
          | nil => intro _ h; cases h
          | cons p r ih =>
            intro hnn h1 h2
            simp only [List.map_cons, List.nodup_cons] at hnn
            rcases List.mem_cons.1 h1 with e1 | h1 <;> rcases List.mem_cons.1 h2 with e2 | h2
            · rw [← e1] at e2; cases e2; rfl
            · exact absurd (List.mem_map.2 ⟨_, h2, rfl⟩) (by rw [← e1] at hnn; exact hnn.1)
            · exact absurd (List.mem_map.2 ⟨_, h1, rfl⟩) (by rw [← e2] at hnn; exact hnn.1)
            · exact ih hnn.2 h1 h2
        exact uniq hfst q1 p1
      exact hne this
    rw [q3.foot] at hy
    rw [p3.foot, p3.shw]
    exact h.hr.sp b B0 l b' B0' l' q2 hl p2 hl' hbb y hy
  · obtain ⟨b, B0, q1, q2, q3, q4⟩ := old hx
    rw [q4] at hl
    rw [q3.foot, q3.shw]
    exact h.hr.ow b B0 l q2 hl
  · unfold ren
    rw [inv_none (fun hm => (List.nodup_append.1 hnd).2.2 i hm i hi rfl)]; rfl
end
end Go.Pi
