/- A law's arguments as plain values: from what their cells are to structures, with what is known of the numbers. No conditions. -/
import Derived.Test.YtgpchgakonpcfaaGreatDoorPiKit
namespace Go.Pi
set_option linter.unusedVariables false
set_option linter.unusedSimpArgs false
set_option linter.constructorNameAsVariable false

def WKey (k : Key) : Prop := wfI .i64 k.base ∧ wfI .i64 k.top ∧ wfI .i64 k.perms ∧ wfI .i64 k.sealed
def WWord (w : Word) : Prop := wfI .i64 w.n ∧ WKey w.key
def WInst (x : Inst) : Prop := wfI .i64 x.op ∧ wfI .i64 x.r ∧ wfI .i64 x.a ∧ wfI .i64 x.b ∧ wfI .i64 x.n
def WEff (e : Eff) : Prop := wfI .i64 e.trap ∧ wfI .i64 e.r ∧ WWord e.val ∧ WWord e.next ∧ wfI .i64 e.addr ∧ WWord e.put ∧ wfI .i64 e.drop
def WEntry (e : Entry) : Prop := WWord e.pc ∧ WInst e.x ∧ WEff e.e ∧ WWord e.guess
def WPick (p : Pick) : Prop := wfI .i64 p.kind ∧ wfI .i64 p.n
def WSpan (p : Span) : Prop := wfI .i64 p.at_ ∧ wfI .i64 p.len
def WSeen (p : Seen) : Prop := wfI .i64 p.at_ ∧ wfI .i64 p.r ∧ wfI .i64 p.addr ∧ wfI .i64 p.trap
def WEl : (τ : FT) → τ.Ty → Prop
  | .int k, n => wfI k n | .bool, _ => True | .str, _ => True | .word, w => WWord w | .inst, x => WInst x | .entry, e => WEntry e | .pick, p => WPick p | .span, p => WSpan p | .seen, p => WSeen p
def WL (τ : FT) (xs : List τ.Ty) : Prop := (∀ x ∈ xs, WEl τ x) ∧ xs.length ≤ 9223372036854775807
def WMem (m : Mem) : Prop := WL .word m.words ∧ WL .bool m.gone
def WState (s : State) : Prop := WL .word s.regs ∧ WWord s.pc ∧ WMem s.mem ∧ wfI .i64 s.trap
def WCore (c : Core) : Prop := WState c.s ∧ WL .entry c.rob ∧ WWord c.next ∧ WL (.int .i64) c.guesses
def WDesk (d : Desk) : Prop := WL .inst d.list ∧ WCore d.c ∧ WL (.int .i64) d.order
theorem wfc_cons {k : IntKind} {n : Int} {r : List Cell} (h : WfCells (.int k n :: r)) : wfI k n ∧ WfCells r := ⟨h k n (by simp), fun j m hm => h j m (by simp [hm])⟩
theorem wfc_b {b : Bool} {r : List Cell} (h : WfCells (.bool b :: r)) : WfCells r := fun j m hm => h j m (by simp [hm])
theorem wfc_key {k : Key} {r : List Cell} (h : WfCells (k.flat r)) : WKey k ∧ WfCells r := by
  obtain ⟨a, h⟩ := wfc_cons h
  obtain ⟨b, h⟩ := wfc_cons h
  obtain ⟨c, h⟩ := wfc_cons h
  obtain ⟨d, h⟩ := wfc_cons h
  exact ⟨⟨a, b, c, d⟩, h⟩
theorem wfc_word {w : Word} {r : List Cell} (h : WfCells (w.flat r)) : WWord w ∧ WfCells r := by
  obtain ⟨a, h⟩ := wfc_cons h
  obtain ⟨k, h⟩ := wfc_key (wfc_b h)
  exact ⟨⟨a, k⟩, h⟩
theorem wfc_inst {w : Inst} {r : List Cell} (h : WfCells (w.flat r)) : WInst w ∧ WfCells r := by
  obtain ⟨a, h⟩ := wfc_cons h
  obtain ⟨b, h⟩ := wfc_cons h
  obtain ⟨c, h⟩ := wfc_cons h
  obtain ⟨d, h⟩ := wfc_cons h
  obtain ⟨e, h⟩ := wfc_cons h
  exact ⟨⟨a, b, c, d, e⟩, h⟩
theorem wfc_eff {w : Eff} {r : List Cell} (h : WfCells (w.flat r)) : WEff w ∧ WfCells r := by
  obtain ⟨a, h⟩ := wfc_cons h
  obtain ⟨b, h⟩ := wfc_cons h
  obtain ⟨c, h⟩ := wfc_word h
  obtain ⟨d, h⟩ := wfc_word h
  obtain ⟨e, h⟩ := wfc_cons h
  obtain ⟨f, h⟩ := wfc_word h
  obtain ⟨g, h⟩ := wfc_cons h
  exact ⟨⟨a, b, c, d, e, f, g⟩, h⟩
theorem wel_of : ∀ {τ : FT} {x : τ.Ty}, Wf τ x → WEl τ x := fun {τ x} h => by
  cases τ with
  | int k => exact (wfc_cons h).1
  | bool => trivial
  | str => trivial
  | word => exact (wfc_word h).1
  | inst => exact (wfc_inst h).1
  | entry =>
    have h : WfCells (Entry.flat x []) := h
    obtain ⟨a, h⟩ := wfc_word h
    obtain ⟨b, h⟩ := wfc_inst h
    obtain ⟨c, h⟩ := wfc_eff (wfc_b h)
    obtain ⟨d, h⟩ := wfc_word h
    exact ⟨a, b, c, d⟩
  | pick => have h : WfCells (Pick.flat x []) := h; obtain ⟨a, h⟩ := wfc_cons h; obtain ⟨b, h⟩ := wfc_cons h; exact ⟨a, b⟩
  | span => have h : WfCells (Span.flat x []) := h; obtain ⟨a, h⟩ := wfc_cons h; obtain ⟨b, h⟩ := wfc_cons h; exact ⟨a, b⟩
  | seen =>
    have h : WfCells (Seen.flat x []) := h
    obtain ⟨a, h⟩ := wfc_cons h
    obtain ⟨b, h⟩ := wfc_cons h
    obtain ⟨c, h⟩ := wfc_cons h
    obtain ⟨d, h⟩ := wfc_cons h
    exact ⟨a, b, c, d⟩

def UT {α : Type} (sh : List CK) (enc : α → List TC → List TC) (W : α → Prop) : Prop := ∀ r ts, CKs (sh ++ r) ts → ∃ x ts2, ts = enc x ts2 ∧ W x ∧ CKs r ts2
theorem ut_int (k : IntKind) : UT [.int k] (fun n r => .int k n :: r) (wfI k) := fun r ts h => by
  obtain ⟨t, ts, rfl, ⟨n, rfl, hw⟩, h2⟩ := All2.cons_left h
  exact ⟨n, ts, rfl, hw, h2⟩
theorem ut_b : UT [.b] (fun n r => .bool n :: r) (fun _ => True) := fun r ts h => by
  obtain ⟨t, ts, rfl, ⟨n, rfl⟩, h2⟩ := All2.cons_left h
  exact ⟨n, ts, rfl, trivial, h2⟩
theorem ut_l (τ : FT) : UT [.sl τ] (fun n r => tl false τ n :: r) (WL τ) := fun r ts h => by
  obtain ⟨t, ts, rfl, ⟨n, rfl, hw⟩, h2⟩ := All2.cons_left h
  exact ⟨n, ts, rfl, ⟨fun x hx => wel_of (hw.1 x hx), hw.2⟩, h2⟩
theorem UT.then {α β γ : Type} {s1 s2 : List CK} {f1 : α → List TC → List TC} {f2 : β → List TC → List TC} {W1 : α → Prop} {W2 : β → Prop} {f : γ → List TC → List TC} {W : γ → Prop} (h1 : UT s1 f1 W1) (h2 : UT s2 f2 W2) (mk : α → β → γ)
    (hf : ∀ a b r, f (mk a b) r = f1 a (f2 b r)) (hw : ∀ a b, W1 a → W2 b → W (mk a b)) : UT (s1 ++ s2) f W := fun r ts h => by
  rw [List.append_assoc] at h
  obtain ⟨x, t2, rfl, w1, h3⟩ := h1 _ _ h
  obtain ⟨y, t3, rfl, w2, h4⟩ := h2 _ _ h3
  exact ⟨mk x y, t3, by rw [hf], hw x y w1 w2, h4⟩
theorem ut_two : UT [.int .i64, .int .i64] (fun (p : Int × Int) r => .int .i64 p.1 :: .int .i64 p.2 :: r) (fun p => wfI .i64 p.1 ∧ wfI .i64 p.2) := (ut_int .i64).then (ut_int .i64) (fun a b => (a, b)) (fun _ _ _ => rfl) (fun _ _ a b => ⟨a, b⟩)
theorem ut_key : UT ckKey Key.tc WKey := ut_two.then ut_two (fun a b => ⟨a.1, a.2, b.1, b.2⟩) (fun _ _ _ => rfl) (fun _ _ a b => ⟨a.1, a.2, b.1, b.2⟩)
theorem ut_word : UT ckWord Word.tc WWord := (ut_int .i64).then (s2 := .b :: ckKey) (f2 := fun (p : Bool × Key) r => .bool p.1 :: p.2.tc r) (W2 := fun p => WKey p.2) (ut_b.then ut_key (fun a b => (a, b)) (fun _ _ _ => rfl) (fun _ _ _ b => b)) (fun a b => ⟨a, b.1, b.2⟩) (fun _ _ _ => rfl) (fun _ _ a b => ⟨a, b⟩)
def ckMem : List CK := [.sl .word, .sl .bool]
def ckState : List CK := .sl .word :: (ckWord ++ (ckMem ++ [.int .i64]))
def ckCore : List CK := ckState ++ (.sl .entry :: (ckWord ++ (.b :: [.sl (.int .i64)])))
def ckDesk : List CK := .sl .inst :: (ckCore ++ [.sl (.int .i64)])
theorem ut_mem : UT ckMem (Mem.tc false) WMem := (ut_l .word).then (ut_l .bool) (fun a b => ⟨a, b⟩) (fun _ _ _ => rfl) (fun _ _ a b => ⟨a, b⟩)
theorem ut_state : UT ckState (State.tc false) WState := by
  have a : UT (ckMem ++ [.int .i64]) (fun (p : Mem × Int) r => p.1.tc false (.int .i64 p.2 :: r)) (fun p => WMem p.1 ∧ wfI .i64 p.2) := ut_mem.then (ut_int .i64) (fun a b => (a, b)) (fun _ _ _ => rfl) (fun _ _ a b => ⟨a, b⟩)
  have b : UT (ckWord ++ (ckMem ++ [.int .i64])) (fun (p : Word × Mem × Int) r => p.1.tc (p.2.1.tc false (.int .i64 p.2.2 :: r))) (fun p => WWord p.1 ∧ WMem p.2.1 ∧ wfI .i64 p.2.2) := ut_word.then a (fun a b => (a, b)) (fun _ _ _ => rfl) (fun _ _ a b => ⟨a, b⟩)
  exact (ut_l .word).then b (fun a b => (⟨a, b.1, b.2.1, b.2.2⟩ : State)) (fun _ _ _ => rfl) (fun _ _ a b => ⟨a, b.1, b.2.1, b.2.2⟩)
theorem ut_core : UT ckCore (Core.tc false) WCore := by
  have a : UT (.b :: [.sl (.int .i64)]) (fun (p : Bool × List Int) r => .bool p.1 :: tl false (.int .i64) p.2 :: r) (fun p => WL (.int .i64) p.2) := ut_b.then (ut_l (.int .i64)) (fun a b => (a, b)) (fun _ _ _ => rfl) (fun _ _ _ b => b)
  have b : UT (ckWord ++ (.b :: [.sl (.int .i64)])) (fun (p : Word × Bool × List Int) r => p.1.tc (.bool p.2.1 :: tl false (.int .i64) p.2.2 :: r)) (fun p => WWord p.1 ∧ WL (.int .i64) p.2.2) := ut_word.then a (fun a b => (a, b)) (fun _ _ _ => rfl) (fun _ _ a b => ⟨a, b⟩)
  have c : UT ([.sl .entry] ++ (ckWord ++ (.b :: [.sl (.int .i64)]))) (fun (p : List Entry × Word × Bool × List Int) r => tl false .entry p.1 :: p.2.1.tc (.bool p.2.2.1 :: tl false (.int .i64) p.2.2.2 :: r)) (fun p => WL .entry p.1 ∧ WWord p.2.1 ∧ WL (.int .i64) p.2.2.2) :=
    (ut_l .entry).then b (fun a b => (a, b)) (fun _ _ _ => rfl) (fun _ _ a b => ⟨a, b⟩)
  exact ut_state.then c (fun a b => (⟨a, b.1, b.2.1, b.2.2.1, b.2.2.2⟩ : Core)) (fun _ _ _ => rfl) (fun _ _ a b => ⟨a, b.1, b.2.1, b.2.2⟩)
theorem ut_desk : UT ckDesk (Desk.tc false) WDesk := by
  have a : UT (ckCore ++ [.sl (.int .i64)]) (fun (p : Core × List Int) r => p.1.tc false (tl false (.int .i64) p.2 :: r)) (fun p => WCore p.1 ∧ WL (.int .i64) p.2) := ut_core.then (ut_l (.int .i64)) (fun a b => (a, b)) (fun _ _ _ => rfl) (fun _ _ a b => ⟨a, b⟩)
  exact (ut_l .inst).then a (fun a b => (⟨a, b.1, b.2⟩ : Desk)) (fun _ _ _ => rfl) (fun _ _ a b => ⟨a, b.1, b.2⟩)
theorem areG {α : Type} {sh : List CK} {enc : α → List TC → List TC} {W : α → Prop} (h : UT sh enc W) {T : Tree} (ht : TreeIs (true, sh) T) : ∃ x, T = tG (enc x []) ∧ W x := by
  obtain ⟨ts, rfl, hc⟩ := ht
  obtain ⟨x, t2, rfl, hw, h2⟩ := h [] ts (by rw [List.append_nil]; exact hc)
  cases All2.nil_left h2
  exact ⟨x, rfl, hw⟩
theorem isS {T : Tree} (ht : TreeIs (false, [.s]) T) : ∃ s, T = .v (.c (.str s)) ∧ s.size ≤ maxLen := by
  obtain ⟨x, rfl, ⟨n, rfl, hw⟩, _⟩ := ht; exact ⟨n, rfl, hw⟩
theorem areNil {Ts : List Tree} (h : TreesAre [] Ts) : Ts = [] := All2.nil_left h
theorem areCons {p : Bool × List CK} {ps : List (Bool × List CK)} {Ts : List Tree} (h : TreesAre (p :: ps) Ts) : ∃ T Ts', Ts = T :: Ts' ∧ TreeIs p T ∧ TreesAre ps Ts' := All2.cons_left h
end Go.Pi
