/- Decoding and encoding of deep values for contracts; a function's contract out of its runs. No conditions. -/
import Derived.Test.YtgpchgakonpcfaaGreatDoorPiRow
namespace Go.Pi
set_option linter.unusedVariables false
set_option linter.unusedSimpArgs false
set_option linter.constructorNameAsVariable false

structure Packed where
  e : Int
  b : Int
  l : Int
  deriving DecidableEq
structure Mem where
  words : List Word
  gone : List Bool
  deriving DecidableEq
structure State where
  regs : List Word
  pc : Word
  mem : Mem
  trap : Int
  deriving DecidableEq
structure Core where
  s : State
  rob : List Entry
  next : Word
  stop : Bool
  guesses : List Int
  deriving DecidableEq
structure Desk where
  list : List Inst
  c : Core
  order : List Int
  deriving DecidableEq
structure Side where
  regs : List Word
  pc : Word
  trap : Int
  deriving DecidableEq
structure Two where
  mem : Mem
  a : Side
  b : Side
  deriving DecidableEq
structure Heap where
  mem : Mem
  live : List Span
  waits : List Span
  deriving DecidableEq
structure Cost where
  pulled : Int
  done : Int
  kept : Int
  back : Int
  swept : Int
  deriving DecidableEq

abbrev tl (w : Bool) (τ : FT) (xs : List τ.Ty) : TC := match w with | true => .ow τ xs | false => .ro τ xs
def Key.tc (k : Key) (r : List TC) : List TC := .int .i64 k.base :: .int .i64 k.top :: .int .i64 k.perms :: .int .i64 k.sealed :: r
def Word.tc (w : Word) (r : List TC) : List TC := .int .i64 w.n :: .bool w.is :: w.key.tc r
def Inst.tc (w : Inst) (r : List TC) : List TC := .int .i64 w.op :: .int .i64 w.r :: .int .i64 w.a :: .int .i64 w.b :: .int .i64 w.n :: r
def Eff.tc (e : Eff) (r : List TC) : List TC := .int .i64 e.trap :: .int .i64 e.r :: e.val.tc (e.next.tc (.int .i64 e.addr :: e.put.tc (.int .i64 e.drop :: r)))
def Entry.tc (e : Entry) (r : List TC) : List TC := e.pc.tc (e.x.tc (.bool e.done :: e.e.tc (e.guess.tc r)))
def Pick.tc (p : Pick) (r : List TC) : List TC := .int .i64 p.kind :: .int .i64 p.n :: r
def Span.tc (p : Span) (r : List TC) : List TC := .int .i64 p.at_ :: .int .i64 p.len :: r
def Seen.tc (p : Seen) (r : List TC) : List TC := .int .i64 p.at_ :: .int .i64 p.r :: .int .i64 p.addr :: .int .i64 p.trap :: r
def Packed.tc (p : Packed) (r : List TC) : List TC := .int .i64 p.e :: .int .i64 p.b :: .int .i64 p.l :: r
def Cost.tc (p : Cost) (r : List TC) : List TC := .int .i64 p.pulled :: .int .i64 p.done :: .int .i64 p.kept :: .int .i64 p.back :: .int .i64 p.swept :: r
def Mem.tc (w : Bool) (m : Mem) (r : List TC) : List TC := tl w .word m.words :: tl w .bool m.gone :: r
def State.tc (w : Bool) (s : State) (r : List TC) : List TC := tl w .word s.regs :: s.pc.tc (s.mem.tc w (.int .i64 s.trap :: r))
def Core.tc (w : Bool) (c : Core) (r : List TC) : List TC := c.s.tc w (tl w .entry c.rob :: c.next.tc (.bool c.stop :: tl w (.int .i64) c.guesses :: r))
def Desk.tc (w : Bool) (d : Desk) (r : List TC) : List TC := tl w .inst d.list :: d.c.tc w (tl w (.int .i64) d.order :: r)
def Side.tc (w : Bool) (s : Side) (r : List TC) : List TC := tl w .word s.regs :: s.pc.tc (.int .i64 s.trap :: r)
def Two.tc (w : Bool) (t : Two) (r : List TC) : List TC := t.mem.tc w (t.a.tc w (t.b.tc w r))
def Heap.tc (w : Bool) (h : Heap) (r : List TC) : List TC := h.mem.tc w (tl w .span h.live :: tl w .span h.waits :: r)

abbrev tI (k : IntKind) (n : Int) : Tree := .v (.c (.int k n))
abbrev tN (n : Int) : Tree := .v (.c (.int .i64 n))
abbrev tB (b : Bool) : Tree := .v (.c (.bool b))
abbrev tL (w : Bool) (τ : FT) (xs : List τ.Ty) : Tree := .v (.c (tl w τ xs))
abbrev tG (l : List TC) : Tree := .v (.g l)

def castL : (σ τ : FT) → List σ.Ty → (List τ.Ty → Prop) → Prop
  | .int j, .int k, xs, f => match ikEq j k with | true => f xs | false => False
  | .bool, .bool, xs, f => f xs
  | .str, .str, xs, f => f xs
  | .word, .word, xs, f => f xs
  | .inst, .inst, xs, f => f xs
  | .entry, .entry, xs, f => f xs
  | .pick, .pick, xs, f => f xs
  | .span, .span, xs, f => f xs
  | .seen, .seen, xs, f => f xs
  | _, _, _, _ => False
theorem castL_out {σ τ : FT} {xs : List σ.Ty} {f : List τ.Ty → Prop} (h : castL σ τ xs f) : ∃ ys, TC.ro σ xs = TC.ro τ ys ∧ f ys := by
  cases σ <;> cases τ <;> first
    | exact ⟨xs, rfl, h⟩
    | exact h.elim
    | (rename_i j k
       simp only [castL] at h
       split at h
       · rename_i hj; have := ikEq_eq hj; subst this; exact ⟨xs, rfl, h⟩
       · exact h.elim)
abbrev Prs (α : Type) := List TC → (α → List TC → Prop) → Prop
def pI (k : IntKind) : Prs Int := fun l f => match l with | .int j n :: r => (match ikEq j k with | true => f n r | false => False) | _ => False
def pB : Prs Bool := fun l f => match l with | .bool b :: r => f b r | _ => False
def pS : Prs ByteArray := fun l f => match l with | .str b :: r => f b r | _ => False
def pL (τ : FT) : Prs (List τ.Ty) := fun l f => match l with | .ro σ xs :: r => castL σ τ xs fun ys => f ys r | _ => False
def pO (τ : FT) : Prs (List τ.Ty) := fun l f => match l with | .ow σ xs :: r => castL σ τ xs fun ys => f ys r | _ => False
abbrev pN : Prs Int := pI .i64
def pKeyT : Prs Key := fun l f => pN l fun a l => pN l fun b l => pN l fun c l => pN l fun d l => f ⟨a, b, c, d⟩ l
def pWordT : Prs Word := fun l f => pN l fun a l => pB l fun b l => pKeyT l fun c l => f ⟨a, b, c⟩ l
def pInstT : Prs Inst := fun l f => pN l fun a l => pN l fun b l => pN l fun c l => pN l fun d l => pN l fun e l => f ⟨a, b, c, d, e⟩ l
def pEffT : Prs Eff := fun l f => pN l fun a l => pN l fun b l => pWordT l fun c l => pWordT l fun d l => pN l fun e l => pWordT l fun g l => pN l fun h l => f ⟨a, b, c, d, e, g, h⟩ l
def pEntryT : Prs Entry := fun l f => pWordT l fun a l => pInstT l fun b l => pB l fun c l => pEffT l fun d l => pWordT l fun e l => f ⟨a, b, c, d, e⟩ l
def pPickT : Prs Pick := fun l f => pN l fun a l => pN l fun b l => f ⟨a, b⟩ l
def pPackedT : Prs Packed := fun l f => pN l fun a l => pN l fun b l => pN l fun c l => f ⟨a, b, c⟩ l
def pMemT : Prs Mem := fun l f => pL .word l fun a l => pL .bool l fun b l => f ⟨a, b⟩ l
def pStateT : Prs State := fun l f => pL .word l fun a l => pWordT l fun b l => pMemT l fun c l => pN l fun d l => f ⟨a, b, c, d⟩ l
def pCoreT : Prs Core := fun l f => pStateT l fun a l => pL .entry l fun b l => pWordT l fun c l => pB l fun d l => pL (.int .i64) l fun e l => f ⟨a, b, c, d, e⟩ l
def pDeskT : Prs Desk := fun l f => pL .inst l fun a l => pCoreT l fun b l => pL (.int .i64) l fun c l => f ⟨a, b, c⟩ l
def Rd {α : Type} (p : Prs α) (enc : α → List TC → List TC) : Prop := ∀ l f, p l f → ∃ x r, l = enc x r ∧ f x r
theorem rd_int (k : IntKind) : Rd (pI k) (fun n r => .int k n :: r) := fun l f h => by
  unfold pI at h
  split at h
  · split at h
    · rename_i hj; rw [ikEq_eq hj]; exact ⟨_, _, rfl, h⟩
    · exact h.elim
  · exact h.elim
theorem rd_b : Rd pB (fun n r => .bool n :: r) := fun l f h => by
  unfold pB at h
  split at h
  · exact ⟨_, _, rfl, h⟩
  · exact h.elim
theorem rd_s : Rd pS (fun n r => .str n :: r) := fun l f h => by
  unfold pS at h
  split at h
  · exact ⟨_, _, rfl, h⟩
  · exact h.elim
theorem rd_l (τ : FT) : Rd (pL τ) (fun n r => tl false τ n :: r) := fun l f h => by
  unfold pL at h
  split at h
  · obtain ⟨ys, e, h⟩ := castL_out h; exact ⟨ys, _, by rw [e], h⟩
  · exact h.elim
theorem castO_out {σ τ : FT} {xs : List σ.Ty} {f : List τ.Ty → Prop} (h : castL σ τ xs f) : ∃ ys, TC.ow σ xs = TC.ow τ ys ∧ f ys := by
  cases σ <;> cases τ <;> first
    | exact ⟨xs, rfl, h⟩
    | exact h.elim
    | (rename_i j k
       simp only [castL] at h
       split at h
       · rename_i hj; have := ikEq_eq hj; subst this; exact ⟨xs, rfl, h⟩
       · exact h.elim)
theorem rd_o (τ : FT) : Rd (pO τ) (fun n r => tl true τ n :: r) := fun l f h => by
  unfold pO at h
  split at h
  · obtain ⟨ys, e, h⟩ := castO_out h; exact ⟨ys, _, by rw [e], h⟩
  · exact h.elim
theorem rd_key : Rd pKeyT Key.tc := fun l f h0 => by
  obtain ⟨a, _, rfl, h1⟩ := rd_int .i64 _ _ h0
  obtain ⟨b, _, rfl, h2⟩ := rd_int .i64 _ _ h1
  obtain ⟨c, _, rfl, h3⟩ := rd_int .i64 _ _ h2
  obtain ⟨d, _, rfl, h4⟩ := rd_int .i64 _ _ h3
  exact ⟨_, _, rfl, h4⟩
theorem rd_word : Rd pWordT Word.tc := fun l f h0 => by
  obtain ⟨a, _, rfl, h1⟩ := rd_int .i64 _ _ h0
  obtain ⟨b, _, rfl, h2⟩ := rd_b _ _ h1
  obtain ⟨c, _, rfl, h3⟩ := rd_key _ _ h2
  exact ⟨_, _, rfl, h3⟩
theorem rd_inst : Rd pInstT Inst.tc := fun l f h0 => by
  obtain ⟨a, _, rfl, h1⟩ := rd_int .i64 _ _ h0
  obtain ⟨b, _, rfl, h2⟩ := rd_int .i64 _ _ h1
  obtain ⟨c, _, rfl, h3⟩ := rd_int .i64 _ _ h2
  obtain ⟨d, _, rfl, h4⟩ := rd_int .i64 _ _ h3
  obtain ⟨e, _, rfl, h5⟩ := rd_int .i64 _ _ h4
  exact ⟨_, _, rfl, h5⟩
theorem rd_eff : Rd pEffT Eff.tc := fun l f h0 => by
  obtain ⟨a, _, rfl, h1⟩ := rd_int .i64 _ _ h0
  obtain ⟨b, _, rfl, h2⟩ := rd_int .i64 _ _ h1
  obtain ⟨c, _, rfl, h3⟩ := rd_word _ _ h2
  obtain ⟨d, _, rfl, h4⟩ := rd_word _ _ h3
  obtain ⟨e, _, rfl, h5⟩ := rd_int .i64 _ _ h4
  obtain ⟨g, _, rfl, h6⟩ := rd_word _ _ h5
  obtain ⟨i, _, rfl, h7⟩ := rd_int .i64 _ _ h6
  exact ⟨⟨a, b, c, d, e, g, i⟩, _, rfl, h7⟩
theorem rd_entry : Rd pEntryT Entry.tc := fun l f h0 => by
  obtain ⟨a, _, rfl, h1⟩ := rd_word _ _ h0
  obtain ⟨b, _, rfl, h2⟩ := rd_inst _ _ h1
  obtain ⟨c, _, rfl, h3⟩ := rd_b _ _ h2
  obtain ⟨d, _, rfl, h4⟩ := rd_eff _ _ h3
  obtain ⟨e, _, rfl, h5⟩ := rd_word _ _ h4
  exact ⟨⟨a, b, c, d, e⟩, _, rfl, h5⟩
theorem rd_pick : Rd pPickT Pick.tc := fun l f h0 => by
  obtain ⟨a, _, rfl, h1⟩ := rd_int .i64 _ _ h0
  obtain ⟨b, _, rfl, h2⟩ := rd_int .i64 _ _ h1
  exact ⟨_, _, rfl, h2⟩
theorem rd_packed : Rd pPackedT Packed.tc := fun l f h0 => by
  obtain ⟨a, _, rfl, h1⟩ := rd_int .i64 _ _ h0
  obtain ⟨b, _, rfl, h2⟩ := rd_int .i64 _ _ h1
  obtain ⟨c, _, rfl, h3⟩ := rd_int .i64 _ _ h2
  exact ⟨_, _, rfl, h3⟩
theorem rd_mem : Rd pMemT (Mem.tc false) := fun l f h0 => by
  obtain ⟨a, _, rfl, h1⟩ := rd_l .word _ _ h0
  obtain ⟨b, _, rfl, h2⟩ := rd_l .bool _ _ h1
  exact ⟨⟨a, b⟩, _, rfl, h2⟩
theorem rd_state : Rd pStateT (State.tc false) := fun l f h0 => by
  obtain ⟨a, _, rfl, h1⟩ := rd_l .word _ _ h0
  obtain ⟨b, _, rfl, h2⟩ := rd_word _ _ h1
  obtain ⟨c, _, rfl, h3⟩ := rd_mem _ _ h2
  obtain ⟨d, _, rfl, h4⟩ := rd_int .i64 _ _ h3
  exact ⟨⟨a, b, c, d⟩, _, rfl, h4⟩
theorem rd_core : Rd pCoreT (Core.tc false) := fun l f h0 => by
  obtain ⟨a, _, rfl, h1⟩ := rd_state _ _ h0
  obtain ⟨b, _, rfl, h2⟩ := rd_l .entry _ _ h1
  obtain ⟨c, _, rfl, h3⟩ := rd_word _ _ h2
  obtain ⟨d, _, rfl, h4⟩ := rd_b _ _ h3
  obtain ⟨e, _, rfl, h5⟩ := rd_l (.int .i64) _ _ h4
  exact ⟨⟨a, b, c, d, e⟩, _, rfl, h5⟩
theorem rd_desk : Rd pDeskT (Desk.tc false) := fun l f h0 => by
  obtain ⟨a, _, rfl, h1⟩ := rd_l .inst _ _ h0
  obtain ⟨b, _, rfl, h2⟩ := rd_core _ _ h1
  obtain ⟨c, _, rfl, h3⟩ := rd_l (.int .i64) _ _ h2
  exact ⟨⟨a, b, c⟩, _, rfl, h3⟩
def pMemO : Prs Mem := fun l f => pO .word l fun a l => pO .bool l fun b l => f ⟨a, b⟩ l
def pStateO : Prs State := fun l f => pO .word l fun a l => pWordT l fun b l => pMemO l fun c l => pN l fun d l => f ⟨a, b, c, d⟩ l
def pCoreO : Prs Core := fun l f => pStateO l fun a l => pO .entry l fun b l => pWordT l fun c l => pB l fun d l => pO (.int .i64) l fun e l => f ⟨a, b, c, d, e⟩ l
def pDeskO : Prs Desk := fun l f => pO .inst l fun a l => pCoreO l fun b l => pO (.int .i64) l fun c l => f ⟨a, b, c⟩ l
theorem rd_memO : Rd pMemO (Mem.tc true) := fun l f h0 => by
  obtain ⟨a, _, rfl, h1⟩ := rd_o .word _ _ h0
  obtain ⟨b, _, rfl, h2⟩ := rd_o .bool _ _ h1
  exact ⟨⟨a, b⟩, _, rfl, h2⟩
theorem rd_stateO : Rd pStateO (State.tc true) := fun l f h0 => by
  obtain ⟨a, _, rfl, h1⟩ := rd_o .word _ _ h0
  obtain ⟨b, _, rfl, h2⟩ := rd_word _ _ h1
  obtain ⟨c, _, rfl, h3⟩ := rd_memO _ _ h2
  obtain ⟨d, _, rfl, h4⟩ := rd_int .i64 _ _ h3
  exact ⟨⟨a, b, c, d⟩, _, rfl, h4⟩
theorem rd_coreO : Rd pCoreO (Core.tc true) := fun l f h0 => by
  obtain ⟨a, _, rfl, h1⟩ := rd_stateO _ _ h0
  obtain ⟨b, _, rfl, h2⟩ := rd_o .entry _ _ h1
  obtain ⟨c, _, rfl, h3⟩ := rd_word _ _ h2
  obtain ⟨d, _, rfl, h4⟩ := rd_b _ _ h3
  obtain ⟨e, _, rfl, h5⟩ := rd_o (.int .i64) _ _ h4
  exact ⟨⟨a, b, c, d, e⟩, _, rfl, h5⟩
theorem rd_deskO : Rd pDeskO (Desk.tc true) := fun l f h0 => by
  obtain ⟨a, _, rfl, h1⟩ := rd_o .inst _ _ h0
  obtain ⟨b, _, rfl, h2⟩ := rd_coreO _ _ h1
  obtain ⟨c, _, rfl, h3⟩ := rd_o (.int .i64) _ _ h2
  exact ⟨⟨a, b, c⟩, _, rfl, h3⟩
def arC {α : Type} (p : Prs α) (t : Tree) (f : α → Prop) : Prop := match t with | .v (.c x) => p [x] (fun a r => match r with | [] => f a | _ :: _ => False) | _ => False
def arG {α : Type} (p : Prs α) (t : Tree) (f : α → Prop) : Prop := match t with | .v (.g l) => p l (fun a r => match r with | [] => f a | _ :: _ => False) | _ => False
theorem arC_out {α : Type} {p : Prs α} {cell : α → TC} (hp : Rd p (fun x r => cell x :: r)) {t : Tree} {f : α → Prop} (h : arC p t f) : ∃ x, t = .v (.c (cell x)) ∧ f x := by
  unfold arC at h
  split at h
  · rename_i y
    obtain ⟨x, r, e, h1⟩ := hp _ _ h
    cases r with
    | nil => cases e; exact ⟨x, rfl, h1⟩
    | cons _ _ => exact h1.elim
  · exact h.elim
theorem arG_out {α : Type} {p : Prs α} {enc : α → List TC → List TC} (hp : Rd p enc) {t : Tree} {f : α → Prop} (h : arG p t f) : ∃ x, t = .v (.g (enc x [])) ∧ f x := by
  unfold arG at h
  split at h
  · obtain ⟨x, r, e, h1⟩ := hp _ _ h
    subst e
    cases r with
    | nil => exact ⟨x, rfl, h1⟩
    | cons _ _ => exact h1.elim
  · exact h.elim
def as0 (ts : List Tree) (f : Prop) : Prop := match ts with | [] => f | _ => False
def as1 (ts : List Tree) (f : Tree → Prop) : Prop := match ts with | [a] => f a | _ => False
def as2 (ts : List Tree) (f : Tree → Tree → Prop) : Prop := match ts with | [a, b] => f a b | _ => False
def as3 (ts : List Tree) (f : Tree → Tree → Tree → Prop) : Prop := match ts with | [a, b, c] => f a b c | _ => False
def as4 (ts : List Tree) (f : Tree → Tree → Tree → Tree → Prop) : Prop := match ts with | [a, b, c, d] => f a b c d | _ => False
def as5 (ts : List Tree) (f : Tree → Tree → Tree → Tree → Tree → Prop) : Prop := match ts with | [a, b, c, d, e] => f a b c d e | _ => False
theorem as0_out {ts : List Tree} {f : Prop} (h : as0 ts f) : ts = [] ∧ f := by
  unfold as0 at h; split at h <;> first | exact ⟨rfl, h⟩ | exact h.elim
theorem as1_out {ts : List Tree} {f : Tree → Prop} (h : as1 ts f) : ∃ a, ts = [a] ∧ f a := by
  unfold as1 at h; split at h <;> first | exact ⟨_, rfl, h⟩ | exact h.elim
theorem as2_out {ts : List Tree} {f : Tree → Tree → Prop} (h : as2 ts f) : ∃ a b, ts = [a, b] ∧ f a b := by
  unfold as2 at h; split at h <;> first | exact ⟨_, _, rfl, h⟩ | exact h.elim
theorem as3_out {ts : List Tree} {f : Tree → Tree → Tree → Prop} (h : as3 ts f) : ∃ a b c, ts = [a, b, c] ∧ f a b c := by
  unfold as3 at h; split at h <;> first | exact ⟨_, _, _, rfl, h⟩ | exact h.elim
theorem as4_out {ts : List Tree} {f : Tree → Tree → Tree → Tree → Prop} (h : as4 ts f) : ∃ a b c d, ts = [a, b, c, d] ∧ f a b c d := by
  unfold as4 at h; split at h <;> first | exact ⟨_, _, _, _, rfl, h⟩ | exact h.elim
theorem as5_out {ts : List Tree} {f : Tree → Tree → Tree → Tree → Tree → Prop} (h : as5 ts f) : ∃ a b c d e, ts = [a, b, c, d, e] ∧ f a b c d e := by
  unfold as5 at h; split at h <;> first | exact ⟨_, _, _, _, _, rfl, h⟩ | exact h.elim

structure Cnd (p : Prop) : Prop where
  out : p
theorem chk_c {p x : Prop} (h1 : Cnd p) (h2 : x) : chk p x := chk_i h1.out h2
theorem loop {α : Type} {body : St → (Ex → St → Prop) → Prop} {L : List Nat} {K : Ex → St → Prop} (S : α → St) (I : α → Prop) (μ : α → Nat)
    (h : ∀ x (R : St → Prop), I x → (∀ y, I y → μ y < μ x → R (S y)) → body (S x) (kseq (fun st => norm L st R) K)) :
    ∀ (x : α) (n : Nat), I x → μ x < n → iterN body L n (S x) K := by
  intro x n
  induction n generalizing x with
  | zero => intro _ hn; omega
  | succ n ih =>
    intro hI hn
    exact h x _ hI fun y hy hlt => ih y hy (by omega)
theorem wrap_id {n : Int} (h1 : -9223372036854775808 ≤ n) (h2 : n ≤ 9223372036854775807) : IntKind.i64.wrap n = n := by rw [IntKind.wrap_i64]; omega
theorem take_step {α : Type} {a b : List α} {i : Nat} {z : α} (h : a.take i = b.take i) (h1 : i < a.length) (h2 : i < b.length) (he : a.getD i z = b.getD i z) : a.take (i + 1) = b.take (i + 1) := by
  rw [List.take_succ_eq_append_getElem h1, List.take_succ_eq_append_getElem h2, h]
  simp [List.getD_eq_getElem?_getD, h1, h2] at he
  rw [he]
theorem take_all {α : Type} {a b : List α} {i : Nat} (h : a.take i = b.take i) (h1 : a.length ≤ i) (h2 : b.length ≤ i) : a = b := by
  rwa [List.take_of_length_le h1, List.take_of_length_le h2] at h
theorem nd_t {p : Prop} [Decidable p] (h : (!decide p) = false) : p := by simpa using h
theorem nd_f {p : Prop} [Decidable p] (h : (!decide p) = true) : ¬ p := by simpa using h
def hres (p : Prop) [Decidable p] (e : Int) : Int := if p then e else -1
theorem hres_yes {p : Prop} [Decidable p] {e : Int} (h : p) : hres p e = e := if_pos h
theorem hres_no {p : Prop} [Decidable p] {e : Int} (h : ¬ p) : hres p e = -1 := if_neg h
theorem hres_true {d : Decidable True} {e : Int} : @hres True d e = e := hres_yes trivial
theorem hres_t {p : Prop} [Decidable p] {e : Int} (he : 0 ≤ e) (h : decide (hres p e < 0) = true) : ¬ p := fun hp => by
  rw [hres_yes hp] at h; simp at h; omega
theorem hres_f {p : Prop} [Decidable p] {e : Int} (h : decide (hres p e < 0) = false) : p ∧ hres p e = e := by
  by_cases hp : p
  · exact ⟨hp, hres_yes hp⟩
  · rw [hres_no hp] at h; simp at h
theorem funOk {P : Program} {E : List Fun} {c : Fun} {fn : Func} {pf : PF} (hE : EnvOk P E) (hm : P.follows .mixedOrders = true) (hf : P.funcs[c.f]? = some fn) (hc : fnOk P fn pf = true)
    (h : ∀ ts K, c.go ts K → ∃ res os, K res os ∧ ts.length ≤ fn.ntmps ∧ ∃ fuel, runK E fuel c.lend pf ts (fun r o => r = res ∧ o = os)) : FunOk P c := by
  intro ts K hg
  obtain ⟨res, os, hK, hl, fuel, hr⟩ := h ts K hg
  refine SpecQ.x (callable_of hf hc) ?_
  exact (spec_of_run hE hm hf hc hr (fun w vs F G hrep => by rw [← Reps_length hrep]; exact hl)).mono fun r o e => by rw [e.1, e.2]; exact hK
theorem envOk_nil {P : Program} : EnvOk P [] := fun c hc => by cases hc
theorem envOk_cons {P : Program} {c : Fun} {E : List Fun} (h : FunOk P c) (k : EnvOk P E) : EnvOk P (c :: E) := fun d hd => by
  rcases List.mem_cons.1 hd with rfl | hd
  · exact h
  · exact k d hd
theorem eN {P : Program} : EnvOk P [] := envOk_nil
theorem eK {P : Program} {c : Fun} {E : List Fun} (h : FunOk P c) (k : EnvOk P E) : EnvOk P (c :: E) := envOk_cons h k
theorem nb (a : Nat) (f : Func) (h : Nat.ble a f.ntmps = true) : a ≤ f.ntmps := Nat.le_of_ble_eq_true h
abbrev Arg.i (n : Int) : Arg := .k (.v (.c (.int .i64 n)))
abbrev Arg.F : Arg := .k (.v (.c .ff))
abbrev Arg.T : Arg := .k (.v (.c .tt))
instance (n : Nat) : OfNat Arg n := ⟨.t n⟩
abbrev Step.m (a b : Nat) : Step := .s (.mv a (.t b))
abbrev Step.f (a b c : Nat) : Step := .s (.fa a (.t b) c)
abbrev Step.l (a n b : Nat) : Step := .s (.load a false n (.t b))
abbrev Step.L (a n b : Nat) : Step := .s (.load a true n (.t b))
abbrev Step.o (n a b : Nat) : Step := .s (.store n (.t a) (.t b))
abbrev Step.y (a b : Nat) (i : In) : Step := .g a true (some b) i
abbrev Step.n (a b : Nat) (i : In) : Step := .g a false (some b) i
abbrev Step.mv (d : Nat) (x : Arg) : Step := .s (.mv d x)
abbrev Step.bin (d : Nat) (op : BinOp) (x y : Arg) : Step := .s (.bin d op x y)
abbrev Step.ext (d : Nat) (x : Arg) (i : Nat) : Step := .s (.ext d x i)
abbrev Step.ia (d : Nat) (τ : FT) (x i : Arg) : Step := .s (.ia d τ x i)
abbrev Step.box (d : Nat) (x : Arg) : Step := .s (.box d x)
abbrev Step.pick (d : Nat) (c a b : Arg) : Step := .s (.pick d c a b)
abbrev Step.len (d : Nat) (str : Bool) (x : Arg) : Step := .s (.len d str x)
abbrev Step.bnot (d : Nat) (x : Arg) : Step := .s (.bnot d x)
abbrev Step.c (d f : Nat) (xs : List Arg) : Step := .s (.call (some d) f xs)
abbrev zcD : List Cell := [.nils .inst, .nils .word, .int .i64 0, .ff, .int .i64 0, .int .i64 0, .int .i64 0, .int .i64 0, .nils .word, .nils .bool, .int .i64 0, .nils .entry, .int .i64 0, .ff, .int .i64 0, .int .i64 0, .int .i64 0, .int .i64 0, .ff, .nils (.int .i64), .nils (.int .i64)]
abbrev zcC : List Cell := [.nils .word, .int .i64 0, .ff, .int .i64 0, .int .i64 0, .int .i64 0, .int .i64 0, .nils .word, .nils .bool, .int .i64 0, .nils .entry, .int .i64 0, .ff, .int .i64 0, .int .i64 0, .int .i64 0, .int .i64 0, .ff, .nils (.int .i64)]
abbrev zcE : List Cell := [.int .i64 0, .ff, .int .i64 0, .int .i64 0, .int .i64 0, .int .i64 0, .int .i64 0, .int .i64 0, .int .i64 0, .int .i64 0, .int .i64 0, .ff, .int .i64 0, .int .i64 0, .int .i64 0, .ff, .int .i64 0, .int .i64 0, .int .i64 0, .int .i64 0, .int .i64 0, .ff, .int .i64 0, .int .i64 0, .int .i64 0, .int .i64 0, .int .i64 0, .int .i64 0, .ff, .int .i64 0, .int .i64 0, .int .i64 0, .int .i64 0, .int .i64 0, .int .i64 0, .ff, .int .i64 0, .int .i64 0, .int .i64 0, .int .i64 0]
abbrev zcF : List Cell := [.int .i64 0, .int .i64 0, .int .i64 0, .ff, .int .i64 0, .int .i64 0, .int .i64 0, .int .i64 0, .int .i64 0, .ff, .int .i64 0, .int .i64 0, .int .i64 0, .int .i64 0, .int .i64 0, .int .i64 0, .ff, .int .i64 0, .int .i64 0, .int .i64 0, .int .i64 0, .int .i64 0]
abbrev zcS : List Cell := [.nils .word, .int .i64 0, .ff, .int .i64 0, .int .i64 0, .int .i64 0, .int .i64 0, .nils .word, .nils .bool, .int .i64 0]
abbrev zcW : List Cell := [.int .i64 0, .ff, .int .i64 0, .int .i64 0, .int .i64 0, .int .i64 0]
abbrev zcI : List Cell := [.int .i64 0, .int .i64 0, .int .i64 0, .int .i64 0, .int .i64 0]
abbrev zcM : List Cell := [.nils .word, .nils .bool]
abbrev zcK : List Cell := [.int .i64 0, .int .i64 0, .int .i64 0, .int .i64 0]
abbrev Step.alloc (d : Nat) (z : List Cell) : Step := .s (.alloc d z)
abbrev Step.build (d : Nat) (z : List Cell) (ps : List (Nat × Nat × Arg)) : Step := .s (.build d z ps)
abbrev Step.eqs (d : Nat) (agg : Bool) (sh : List EK) (neg : Bool) (x y : Arg) : Step := .s (.eqs d agg sh neg x y)
abbrev Step.app (d : Nat) (τ : FT) (x y : Arg) : Step := .s (.app d τ x y)
abbrev Step.bs (d : Nat) (τ : FT) (xs : List Arg) : Step := .s (.bs d τ xs)
abbrev Step.cat (d : Nat) (x y : Arg) : Step := .s (.cat d x y)
abbrev Step.nchk (d : Nat) (x : Arg) : Step := .s (.nchk d x)
abbrev PC.r (l : List Step) (p : PC) : PC := .seq (.reg l) p
abbrev RT.d : RT := .done none
def RT.ts : List Nat → RT → RT
  | [], r => r
  | i :: l, r => .tk i (.ts l r)
end Go.Pi
