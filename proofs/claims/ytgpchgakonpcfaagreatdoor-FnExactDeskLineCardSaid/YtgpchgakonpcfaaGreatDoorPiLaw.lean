/- From what a law's arguments read as to PI's deep values, and from PI's run of the law to the given statement's walk. No conditions. -/
import Derived.Test.YtgpchgakonpcfaaGreatDoorPiFun
import Derived.OpenShut
import Derived.ChangeOld
import Derived.Below
import Derived.Carry
import Derived.SizedLaws
namespace Go.Pi
set_option linter.unusedVariables false
set_option linter.unusedSimpArgs false
set_option linter.constructorNameAsVariable false

inductive CK | int (k : IntKind) | b | s | sl (τ : FT)
def ckKey : List CK := [.int .i64, .int .i64, .int .i64, .int .i64]
def ckWord : List CK := .int .i64 :: .b :: ckKey
def ckInst : List CK := [.int .i64, .int .i64, .int .i64, .int .i64, .int .i64]
def ckEff : List CK := .int .i64 :: .int .i64 :: (ckWord ++ (ckWord ++ (.int .i64 :: (ckWord ++ [.int .i64]))))
def ckFT : FT → List CK
  | .int k => [.int k] | .bool => [.b] | .str => [.s] | .word => ckWord | .inst => ckInst
  | .entry => ckWord ++ (ckInst ++ (.b :: (ckEff ++ ckWord))) | .pick => [.int .i64, .int .i64] | .span => [.int .i64, .int .i64] | .seen => [.int .i64, .int .i64, .int .i64, .int .i64]
def wfI (k : IntKind) (n : Int) : Prop := (Lit.int k n).wf = true
def WfCells (cs : List Cell) : Prop := ∀ k n, Cell.int k n ∈ cs → wfI k n
def Wf (τ : FT) (x : τ.Ty) : Prop := WfCells (τ.flat x)
def CKR : CK → TC → Prop
  | .int k, t => ∃ n, t = .int k n ∧ wfI k n
  | .b, t => ∃ b, t = .bool b
  | .s, t => ∃ s, t = .str s ∧ s.size ≤ maxLen
  | .sl τ, t => ∃ xs, t = .ro τ xs ∧ (∀ x ∈ xs, Wf τ x) ∧ xs.length ≤ 9223372036854775807
abbrev CKs : List CK → List TC → Prop := All2 CKR
def VK : CK → Value → Prop
  | .int k, v => ∃ n, v = .int k n ∧ wfI k n
  | .b, v => ∃ b, v = .bool b
  | .s, v => ∃ s, v = .string s
  | .sl _, _ => False
abbrev VKs : List CK → List Value → Prop := All2 VK

def UF {α : Type} (sh : List CK) (fl : α → List Cell → List Cell) : Prop :=
  ∀ r vs, VKs (sh ++ r) vs → ∃ x vs1 vs2 ds, vs = vs1 ++ vs2 ∧ VKs r vs2 ∧ (∀ rr, fl x rr = ds ++ rr) ∧ CellsR none0 ds vs1 ∧ WfCells ds
theorem WfCells.nil : WfCells [] := fun _ _ h => by cases h
theorem WfCells.append {a b : List Cell} (h : WfCells a) (k : WfCells b) : WfCells (a ++ b) := fun j n hm => by
  rcases List.mem_append.1 hm with hm | hm
  · exact h j n hm
  · exact k j n hm
theorem uf_int (k : IntKind) : UF [.int k] (fun n r => .int k n :: r) := fun r vs h => by
  obtain ⟨v, vs, rfl, ⟨n, rfl, hw⟩, h2⟩ := All2.cons_left h
  exact ⟨n, [.int k n], vs, [.int k n], rfl, h2, fun _ => rfl, ⟨rfl, trivial⟩, fun j m hm => by simp at hm; obtain ⟨rfl, rfl⟩ := hm; exact hw⟩
theorem uf_bool : UF [.b] (fun n r => .bool n :: r) := fun r vs h => by
  obtain ⟨v, vs, rfl, ⟨n, rfl⟩, h2⟩ := All2.cons_left h
  exact ⟨n, [.bool n], vs, [.bool n], rfl, h2, fun _ => rfl, ⟨rfl, trivial⟩, fun j m hm => by simp at hm⟩
theorem uf_str : UF [.s] (fun n r => .str n :: r) := fun r vs h => by
  obtain ⟨v, vs, rfl, ⟨n, rfl⟩, h2⟩ := All2.cons_left h
  exact ⟨n, [.string n], vs, [.str n], rfl, h2, fun _ => rfl, ⟨rfl, trivial⟩, fun j m hm => by simp at hm⟩
theorem uf_then {α β γ : Type} {s1 s2 : List CK} {f1 : α → List Cell → List Cell} {f2 : β → List Cell → List Cell} {f : γ → List Cell → List Cell} (mk : α → β → γ) (h1 : UF s1 f1) (h2 : UF s2 f2) (hf : ∀ a b r, f (mk a b) r = f1 a (f2 b r)) : UF (s1 ++ s2) f := fun r vs h => by
  rw [List.append_assoc] at h
  obtain ⟨x, v1, v2, d1, rfl, h3, e1, c1, w1⟩ := h1 _ _ h
  obtain ⟨y, v3, v4, d2, rfl, h4, e2, c2, w2⟩ := h2 _ _ h3
  exact ⟨mk x y, v1 ++ v3, v4, d1 ++ d2, by simp, h4, fun rr => by rw [hf, e2, e1, List.append_assoc], c1.append c2, w1.append w2⟩
theorem uf_key : UF ckKey Key.flat :=
  uf_then (s1 := [.int .i64]) (s2 := [.int .i64, .int .i64, .int .i64]) (f2 := fun (p : Int × Int × Int) r => .int .i64 p.1 :: .int .i64 p.2.1 :: .int .i64 p.2.2 :: r) (fun a b => ⟨a, b.1, b.2.1, b.2.2⟩) (uf_int .i64)
    (uf_then (s1 := [.int .i64]) (s2 := [.int .i64, .int .i64]) (f2 := fun (p : Int × Int) r => .int .i64 p.1 :: .int .i64 p.2 :: r) (fun a b => (a, b)) (uf_int .i64)
      (uf_then (s1 := [.int .i64]) (s2 := [.int .i64]) (fun a b => (a, b)) (uf_int .i64) (uf_int .i64) (fun _ _ _ => rfl)) (fun _ _ _ => rfl)) (fun _ _ _ => rfl)
theorem uf_word : UF ckWord Word.flat :=
  uf_then (s1 := [.int .i64]) (s2 := .b :: ckKey) (f2 := fun (p : Bool × Key) r => .bool p.1 :: p.2.flat r) (fun a b => ⟨a, b.1, b.2⟩) (uf_int .i64)
    (uf_then (s1 := [.b]) (s2 := ckKey) (fun a b => (a, b)) uf_bool uf_key (fun _ _ _ => rfl)) (fun _ _ _ => rfl)
theorem uf_two : UF [.int .i64, .int .i64] (fun (p : Int × Int) r => .int .i64 p.1 :: .int .i64 p.2 :: r) :=
  uf_then (s1 := [.int .i64]) (s2 := [.int .i64]) (fun a b => (a, b)) (uf_int .i64) (uf_int .i64) (fun _ _ _ => rfl)
theorem uf_three : UF [.int .i64, .int .i64, .int .i64] (fun (p : Int × Int × Int) r => .int .i64 p.1 :: .int .i64 p.2.1 :: .int .i64 p.2.2 :: r) :=
  uf_then (s1 := [.int .i64]) (s2 := [.int .i64, .int .i64]) (fun a b => (a, b)) (uf_int .i64) uf_two (fun _ _ _ => rfl)
theorem uf_seen : UF (ckFT .seen) Seen.flat :=
  uf_then (s1 := [.int .i64]) (s2 := [.int .i64, .int .i64, .int .i64]) (fun a b => ⟨a, b.1, b.2.1, b.2.2⟩) (uf_int .i64) uf_three (fun _ _ _ => rfl)
theorem uf_inst : UF ckInst Inst.flat :=
  uf_then (s1 := [.int .i64, .int .i64]) (s2 := [.int .i64, .int .i64, .int .i64]) (fun a b => ⟨a.1, a.2, b.1, b.2.1, b.2.2⟩) uf_two uf_three (fun _ _ _ => rfl)
theorem uf_eff : UF ckEff Eff.flat := by
  have a : UF (ckWord ++ [.int .i64]) (fun (p : Word × Int) r => p.1.flat (.int .i64 p.2 :: r)) := uf_then (fun a b => (a, b)) uf_word (uf_int .i64) (fun _ _ _ => rfl)
  have b : UF ([.int .i64] ++ (ckWord ++ [.int .i64])) (fun (p : Int × Word × Int) r => .int .i64 p.1 :: p.2.1.flat (.int .i64 p.2.2 :: r)) := uf_then (fun a b => (a, b)) (uf_int .i64) a (fun _ _ _ => rfl)
  have c : UF (ckWord ++ ([.int .i64] ++ (ckWord ++ [.int .i64]))) (fun (p : Word × Int × Word × Int) r => p.1.flat (.int .i64 p.2.1 :: p.2.2.1.flat (.int .i64 p.2.2.2 :: r))) := uf_then (fun a b => (a, b)) uf_word b (fun _ _ _ => rfl)
  have d : UF (ckWord ++ (ckWord ++ ([.int .i64] ++ (ckWord ++ [.int .i64])))) (fun (p : Word × Word × Int × Word × Int) r => p.1.flat (p.2.1.flat (.int .i64 p.2.2.1 :: p.2.2.2.1.flat (.int .i64 p.2.2.2.2 :: r)))) := uf_then (fun a b => (a, b)) uf_word c (fun _ _ _ => rfl)
  exact uf_then (s1 := [.int .i64, .int .i64]) (fun a b => (⟨a.1, a.2, b.1, b.2.1, b.2.2.1, b.2.2.2.1, b.2.2.2.2⟩ : Eff)) uf_two d (fun _ _ _ => rfl)
theorem uf_entry : UF (ckFT .entry) Entry.flat := by
  have a : UF (ckEff ++ ckWord) (fun (p : Eff × Word) r => p.1.flat (p.2.flat r)) := uf_then (fun a b => (a, b)) uf_eff uf_word (fun _ _ _ => rfl)
  have b : UF ([.b] ++ (ckEff ++ ckWord)) (fun (p : Bool × Eff × Word) r => .bool p.1 :: p.2.1.flat (p.2.2.flat r)) := uf_then (fun a b => (a, b)) uf_bool a (fun _ _ _ => rfl)
  have c : UF (ckInst ++ ([.b] ++ (ckEff ++ ckWord))) (fun (p : Inst × Bool × Eff × Word) r => p.1.flat (.bool p.2.1 :: p.2.2.1.flat (p.2.2.2.flat r))) := uf_then (fun a b => (a, b)) uf_inst b (fun _ _ _ => rfl)
  exact uf_then (fun a b => (⟨a, b.1, b.2.1, b.2.2.1, b.2.2.2⟩ : Entry)) uf_word c (fun _ _ _ => rfl)
theorem unflat {τ : FT} {vs : List Value} (h : VKs (ckFT τ) vs) : ∃ x : τ.Ty, CellsR none0 (τ.flat x) vs ∧ Wf τ x := by
  have key : ∀ {α : Type} {sh : List CK} {fl : α → List Cell → List Cell}, UF sh fl → VKs sh vs → ∃ x, CellsR none0 (fl x []) vs ∧ WfCells (fl x []) := by
    intro α sh fl hu hv
    obtain ⟨x, v1, v2, ds, rfl, h2, e, c, w⟩ := hu [] vs (by rw [List.append_nil]; exact hv)
    cases All2.nil_left h2
    exact ⟨x, by rw [e, List.append_nil, List.append_nil]; exact c, by rw [e, List.append_nil]; exact w⟩
  cases τ with
  | int k => exact key (uf_int k) h
  | bool => exact key uf_bool h
  | str => exact key uf_str h
  | word => exact key uf_word h
  | inst => exact key uf_inst h
  | entry => exact key uf_entry h
  | pick => exact key (fl := Pick.flat) (uf_then (s1 := [.int .i64]) (s2 := [.int .i64]) (fun a b => ⟨a, b⟩) (uf_int .i64) (uf_int .i64) (fun _ _ _ => rfl)) h
  | span => exact key (fl := Span.flat) (uf_then (s1 := [.int .i64]) (s2 := [.int .i64]) (fun a b => ⟨a, b⟩) (uf_int .i64) (uf_int .i64) (fun _ _ _ => rfl)) h
  | seen => exact key uf_seen h

def goOk (P : Program) (rec : Nat → List CK → Bool) : List Field → Nat → List CK → Bool
  | [], _, [] => true
  | [], _, _ :: _ => false
  | f :: fs, off, sh => Nat.beq f.offset off && Nat.ble (P.cellsOf f.type) sh.length && rec f.type (sh.take (P.cellsOf f.type)) && goOk P rec fs (off + P.cellsOf f.type) (sh.drop (P.cellsOf f.type))
def ckOk (P : Program) : Nat → Nat → List CK → Bool
  | 0, _, _ => false
  | n + 1, t, sh => match P.underlying t with
    | some (.int k) => (match sh with | [.int j] => ikEq k j | _ => false)
    | some .bool => (match sh with | [.b] => true | _ => false)
    | some .string => (match sh with | [.s] => true | _ => false)
    | some (.slice e) => (match sh with | [.sl τ] => ckOk P n e (ckFT τ) && Nat.beq (P.cellsOf e) τ.sz | _ => false)
    | some (.struct fs) => Nat.beq (P.cellsOf t) sh.length && goOk P (ckOk P n) fs.toList 0 sh
    | _ => false

theorem ck_flat : ∀ (τ : FT), ∀ c ∈ ckFT τ, ∀ σ, c ≠ .sl σ := by
  intro τ
  cases τ <;> simp [ckFT, ckWord, ckKey, ckInst, ckEff]
theorem vks_of {w : World} : ∀ {sh : List CK} {ts : List TC} {vs : List Value} {F G : List Nat}, (∀ c ∈ sh, ∀ σ, c ≠ CK.sl σ) → CKs sh ts → RepTCs w ts vs F G → VKs sh vs
  | [], [], [], _, _, _, _, _ => trivial
  | c :: sh, t :: ts, v :: vs, F, G, hn, ⟨h1, h2⟩, hr => by
    obtain ⟨F1, F2, G1, G2, r1, r2, _, _⟩ := hr
    refine ⟨?_, vks_of (fun c hc => hn c (by simp [hc])) h2 r2⟩
    cases c with
    | int k => obtain ⟨n, rfl, hw⟩ := h1; exact ⟨n, r1.1, hw⟩
    | b => obtain ⟨n, rfl⟩ := h1; exact ⟨n, r1.1⟩
    | s => obtain ⟨n, rfl, _⟩ := h1; exact ⟨n, r1.1⟩
    | sl τ => exact absurd rfl (hn (.sl τ) (by simp) τ)
  | [], [], _ :: _, _, _, _, _, hr => hr.elim
  | [], _ :: _, _, _, _, _, h, _ => h.elim
  | _ :: _, [], _, _, _, _, h, _ => h.elim
  | _ :: _, _ :: _, [], _, _, _, _, hr => hr.elim

theorem Reps_append {α : Type} {R : α → Value → List Nat → List Nat → Prop} : ∀ {as bs : List α} {us vs : List Value} {F1 G1 F2 G2 : List Nat}, Reps R as us F1 G1 → Reps R bs vs F2 G2 → Reps R (as ++ bs) (us ++ vs) (F1 ++ F2) (G1 ++ G2)
  | [], bs, [], vs, _, _, _, _, ⟨h1, h2⟩, k => by rw [h1, h2]; exact k
  | a :: as, bs, u :: us, vs, _, _, F2, G2, ⟨F1, F1', G1, G1', r, rs, e1, e2⟩, k => ⟨F1, F1' ++ F2, G1, G1' ++ G2, r, Reps_append rs k, by rw [e1, List.append_assoc], by rw [e2, List.append_assoc]⟩
  | [], _, _ :: _, _, _, _, _, _, h, _ => h.elim
  | _ :: _, _, [], _, _, _, _, _, h, _ => h.elim

section
variable {H : Type} {enc : TypeId × Value → H} {P : Program} {w : World} {held : Bool}

theorem open_ck : ∀ (n t : Nat) (sh : List CK), ckOk P n t sh = true → ∀ (fuel : Nat) (cs : List Value) (x : DataW H × List MemPlace), DataW.trod enc P w 0 (fun _ => true) held fuel t cs = some x →
    ∃ ts G, RepTCs w ts cs [] G ∧ CKs sh ts ∧ ∀ g ∈ G, g < w.heap.size := by
  intro n
  induction n with
  | zero => intro t sh h; cases h
  | succ n ih =>
    intro t sh h fuel cs x hx
    simp only [ckOk] at h
    split at h
    · rename_i k hu
      split at h
      · rename_i j
        have := ikEq_eq h
        subst this
        obtain ⟨m, rfl, _, hw⟩ := DataW.trod_int hu hx
        exact ⟨[.int k m], [], ⟨[], [], [], [], ⟨rfl, rfl, rfl⟩, ⟨rfl, rfl⟩, rfl, rfl⟩, ⟨⟨m, rfl, hw⟩, trivial⟩, fun g hg => by cases hg⟩
      · cases h
    · rename_i hu
      split at h
      · obtain ⟨m, rfl, _⟩ := DataW.trod_bool hu hx
        exact ⟨[.bool m], [], ⟨[], [], [], [], ⟨rfl, rfl, rfl⟩, ⟨rfl, rfl⟩, rfl, rfl⟩, ⟨⟨m, rfl⟩, trivial⟩, fun g hg => by cases hg⟩
      · cases h
    · rename_i hu
      split at h
      · obtain ⟨m, rfl, _, hm⟩ := DataW.trod_string hu hx
        exact ⟨[.str m], [], ⟨[], [], [], [], ⟨rfl, rfl, rfl⟩, ⟨rfl, rfl⟩, rfl, rfl⟩, ⟨⟨m, rfl, hm⟩, trivial⟩, fun g hg => by cases hg⟩
      · cases h
    · rename_i e hu
      split at h
      case h_2 => cases h
      rename_i τ
      simp only [Bool.and_eq_true] at h
      obtain ⟨hck, hsz⟩ := h
      have hsz := Nat.eq_of_beq_eq_true hsz
      rcases DataW.trod_slice hu hx with ⟨rfl, _⟩ | ⟨ad, len, cap, elems, rest, m, _, rfl, _, _, hlc, hcm, hlen, hel, hre, _⟩
      · exact ⟨[.ro τ []], [], ⟨[], [], [], [], ⟨⟨0, 0, 0, 0, []⟩, none, ⟨rfl, fun _ => rfl, fun h => by simp at h⟩, ⟨rfl, Nat.le_refl _, (fun _ e => by cases e), Lie.nil _ _ _ _, fun e => by cases e⟩, rfl, rfl⟩, ⟨rfl, rfl⟩, rfl, rfl⟩,
          ⟨⟨[], rfl, (fun x hx => by cases hx), by simp⟩, trivial⟩, fun g hg => by cases hg⟩
      · -- the elements
        have hpos := sz_pos τ
        have cells : ∀ i (y : DataW H × List MemPlace), (w.cells? 0 (ad.add (i * P.cellsOf e)) (P.cellsOf e)).bind (DataW.trod enc P w 0 (fun _ => true) held m e) = some y →
            ∃ us, us.length = τ.sz ∧ (∀ j, j < τ.sz → w.cell? ((ad.add (i * τ.sz)).add j) = us[j]?) ∧ ∃ z : τ.Ty, CellsR none0 (τ.flat z) us ∧ Wf τ z := by
          intro i y hy
          rw [Option.bind_eq_some_iff] at hy
          obtain ⟨us, hus, htr⟩ := hy
          rw [hsz] at hus
          have hc : us.length = τ.sz ∧ ∀ j, j < τ.sz → w.cell? ((ad.add (i * τ.sz)).add j) = us[j]? := by
            unfold World.cells? at hus
            simp only [Nat.zero_le, if_true] at hus
            exact ⟨by simpa using mapM_some_length hus, fun j hj => mapM_some_get hus j j (by simp [hj])⟩
          obtain ⟨ts, G, hr, hs, _⟩ := ih e _ hck m us y htr
          obtain ⟨z, hz, hw⟩ := unflat (vks_of (ck_flat τ) hs hr)
          exact ⟨us, hc.1, hc.2, z, hz, hw⟩
        have hcell0 : 0 < cap → ∃ v, w.cell? ((ad.add 0).add 0) = some v := by
          intro hc
          by_cases hl : 0 < len
          · have h0 := hel 0 hl
            rw [List.getElem?_eq_getElem (by omega)] at h0
            obtain ⟨us, h1, h2, _⟩ := cells 0 _ h0
            have h3 := h2 0 hpos
            rw [Nat.zero_mul] at h3
            exact ⟨us[0], by rw [h3, List.getElem?_eq_getElem (by omega)]⟩
          · have hr := hre rfl
            have h0 := hr.2 0 (by omega)
            have hl0 : len = 0 := by omega
            subst hl0
            rw [List.getElem?_eq_getElem (by omega)] at h0
            obtain ⟨us, h1, h2, _⟩ := cells 0 _ h0
            have h3 := h2 0 hpos
            rw [Nat.zero_mul] at h3
            exact ⟨us[0], by rw [h3, List.getElem?_eq_getElem (by omega)]⟩
        have hspot : 0 < cap → ad = ⟨ad.block, ad.off, none⟩ := by
          intro hc
          obtain ⟨v, hv⟩ := hcell0 hc
          have hadd : (ad.add 0).add 0 = ad := by simp [Addr.add]
          rw [hadd] at hv
          unfold World.cell? at hv
          split at hv
          · split at hv
            · cases hv
            · rename_i hs
              cases ad with
              | mk b o sp => cases sp with
                | none => rfl
                | some x => simp at hs
          · cases hv
        have row : ∀ q, q ≤ len → ∃ xs : List τ.Ty, xs.length = q ∧ (∀ x ∈ xs, Wf τ x) ∧ Lie w none0 ad.block ad.off (flats τ xs) := by
          intro q
          induction q with
          | zero => intro _; exact ⟨[], rfl, (fun x hx => by cases hx), Lie.nil _ _ _ _⟩
          | succ q ihq =>
            intro hq
            obtain ⟨xs, h1, h2, ⟨vals, h3, h4⟩⟩ := ihq (by omega)
            have h0 := hel q (by omega)
            rw [List.getElem?_eq_getElem (by omega)] at h0
            obtain ⟨us, k1, k2, z, k3, k4⟩ := cells q _ h0
            refine ⟨xs ++ [z], by simp [h1], fun x hx => ?_, vals ++ us, fun j v hj => ?_, ?_⟩
            · rcases List.mem_append.1 hx with hx | hx
              · exact h2 x hx
              · simp at hx; subst hx; exact k4
            · have hvl : vals.length = q * τ.sz := by rw [← All2.length h4, flats_length, h1]
              by_cases hlt : j < vals.length
              · rw [List.getElem?_append_left hlt] at hj; exact h3 j v hj
              · rw [List.getElem?_append_right (by omega)] at hj
                have hj2 := (List.getElem?_eq_some_iff.1 hj).1
                have := k2 (j - vals.length) (by omega)
                rw [hspot (by omega), Addr.add_mid, Addr.add_mid] at this
                rw [show ad.off + q * τ.sz + (j - vals.length) = ad.off + j by omega] at this
                rw [this]; exact hj
            · have : flats τ (xs ++ [z]) = flats τ xs ++ τ.flat z := by simp [flats]
              rw [this]; exact All2.append h4 k3
        obtain ⟨xs, h1, h2, h3⟩ := row len (Nat.le_refl _)
        let l : Loc := ⟨ad.block, ad.off, cap, len, []⟩
        refine ⟨[.ro τ xs], (Blk.flat false τ none xs).shw l ++ [], ⟨[], [], (Blk.flat false τ none xs).shw l, [], ⟨l, some ad, ⟨rfl, (fun e => by cases e), fun hc => by rw [hspot hc]⟩, ⟨h1.symm, hlc, (fun _ e => by cases e), h3, fun e => by cases e⟩, rfl, rfl⟩, ⟨rfl, rfl⟩, rfl, rfl⟩,
          ⟨⟨xs, rfl, h2, by rw [h1]; exact Nat.le_trans hlc (Nat.le_trans hcm (by decide))⟩, trivial⟩, fun g hg => ?_⟩
        rw [List.append_nil] at hg
        simp only [Blk.shw] at hg
        split at hg
        · rename_i hp
          have hp : 0 < len := hp
          have hg : g = ad.block := by simpa using hg
          subst hg
          exact h3.lt (by
            cases xs with
            | nil => simp at h1; omega
            | cons y r =>
              intro e
              have := congrArg List.length e
              rw [flats_length] at this
              have h0 : 0 < (y :: r).length * τ.sz := Nat.mul_pos (by simp) hpos
              simp only [List.length_nil] at this
              omega)
        · cases hg
    · rename_i fs hu
      simp only [Bool.and_eq_true] at h
      obtain ⟨hlen, hgo⟩ := h
      have hlen := Nat.eq_of_beq_eq_true hlen
      obtain ⟨xs, m, _, _, hcl, hxl, hel⟩ := DataW.trod_struct hu hx
      have key : ∀ (l : List Field) (i off : Nat) (sh : List CK), (∀ j f, l[j]? = some f → fs[i + j]? = some f) → i + l.length = fs.size → goOk P (ckOk P n) l off sh = true → (cs.drop off).length = sh.length →
          ∃ ts G, RepTCs w ts (cs.drop off) [] G ∧ CKs sh ts ∧ ∀ g ∈ G, g < w.heap.size := by
        intro l
        induction l with
        | nil =>
          intro i off sh _ _ hgo hl
          cases sh with
          | nil => rw [List.eq_nil_of_length_eq_zero hl]; exact ⟨[], [], ⟨rfl, rfl⟩, trivial, fun g hg => by cases hg⟩
          | cons _ _ => cases hgo
        | cons f l ihl =>
          intro i off sh hfl hil hgo hl
          simp only [goOk, Bool.and_eq_true] at hgo
          obtain ⟨⟨⟨hoff, hle⟩, hrec⟩, hrest⟩ := hgo
          have hoff := Nat.eq_of_beq_eq_true hoff
          have hle := Nat.le_of_ble_eq_true hle
          have hf := hfl 0 f rfl
          have hil' : i < fs.size := by simp at hil; omega
          have h0 := hel i f hf
          rw [List.getElem?_eq_getElem (by omega)] at h0
          obtain ⟨t1, G1, r1, s1, b1⟩ := ih f.type _ hrec m _ _ h0
          rw [hoff] at r1
          obtain ⟨t2, G2, r2, s2, b2⟩ := ihl (i + 1) (off + P.cellsOf f.type) _ (fun j g hj => by rw [show i + 1 + j = i + (j + 1) by omega]; exact hfl (j + 1) g (by simpa using hj)) (by simp at hil; omega) hrest (by
            simp only [List.length_drop] at hl ⊢
            omega)
          refine ⟨t1 ++ t2, G1 ++ G2, ?_, ?_, fun g hg => ?_⟩
          · have e : cs.drop off = (cs.drop off).take (P.cellsOf f.type) ++ cs.drop (off + P.cellsOf f.type) := by
              rw [← List.drop_drop, List.take_append_drop]
            rw [e]
            exact Reps_append r1 r2
          · rw [← List.take_append_drop (P.cellsOf f.type) sh]; exact All2.append s1 s2
          · rcases List.mem_append.1 hg with hg | hg
            · exact b1 g hg
            · exact b2 g hg
      have := key fs.toList 0 0 sh (fun j f hj => by simpa using hj) (by simp) hgo (by simpa [hcl] using hlen)
      simpa using this
    · cases h
end
end Go.Pi
