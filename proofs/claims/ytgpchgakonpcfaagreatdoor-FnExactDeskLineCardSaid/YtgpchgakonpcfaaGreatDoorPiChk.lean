/- The checks that tie a compiled instruction to the program's operation. No conditions: definitions, and what each check says. -/
import Derived.Test.YtgpchgakonpcfaaGreatDoorPiCall2
import Derived.Laws.StructEq
import Derived.ChangeKeysEq
import Derived.Laws.Cover3
import Derived.Laws.Strings
import Derived.Laws.Strings2
import Derived.Laws.Strings3
namespace Go.Pi
set_option linter.unusedVariables false
set_option linter.unusedSimpArgs false
set_option linter.constructorNameAsVariable false

def vOk : Cell → Value → Bool
  | .int k n, .int j m => ikEq k j && decide (n = m)
  | .tt, .bool b => b
  | .ff, .bool b => !b
  | .bool a, .bool b => a == b
  | .str s, .string t => s.data.toList == t.data.toList
  | .nilp, .pointer none => true
  | .nils _, .slice none l c => Nat.beq l 0 && Nat.beq c 0
  | .nilz _, .slice none l c => Nat.beq l 0 && Nat.beq c 0
  | .nili, .nilIface => true
  | .unk, v => v.oneCell'
  | _, _ => false
def vsOk : List Cell → List Value → Bool
  | [], [] => true
  | c :: cs, v :: vs => vOk c v && vsOk cs vs
  | _, _ => false
theorem vOk_out {c : Cell} {v : Value} (h : vOk c v = true) : CellR none0 c v := by
  unfold vOk at h
  split at h
  · simp only [Bool.and_eq_true, decide_eq_true_eq] at h; rw [ikEq_eq h.1, h.2]; rfl
  · subst h; rfl
  · simp at h; subst h; rfl
  · simp at h; subst h; rfl
  · simp at h
    rename_i s t
    have : s = t := ByteArray.ext (Array.toList_inj.1 (by simpa using h))
    rw [this]; rfl
  · rfl
  · simp only [Bool.and_eq_true] at h
    rw [Nat.eq_of_beq_eq_true h.1, Nat.eq_of_beq_eq_true h.2]; rfl
  · simp only [Bool.and_eq_true] at h
    rw [Nat.eq_of_beq_eq_true h.1, Nat.eq_of_beq_eq_true h.2]; rfl
  · rfl
  · exact h
  · cases h
theorem vsOk_out : ∀ {cs : List Cell} {vs : List Value}, vsOk cs vs = true → CellsR none0 cs vs
  | [], [], _ => trivial
  | c :: cs, v :: vs, h => by simp only [vsOk, Bool.and_eq_true] at h; exact ⟨vOk_out h.1, vsOk_out h.2⟩
  | [], _ :: _, h => by cases h
  | _ :: _, [], h => by cases h

def argOk : Arg → Operand → Bool
  | .t n, .tmp m => Nat.beq n m
  | .k (.v (.c x)), .const v => vOk x v
  | .k (.fn f []), .func g => Nat.beq f g
  | .k .unk, _ => true
  | _, _ => false
def argsOk : List Arg → List Operand → Bool
  | [], [] => true
  | x :: xs, y :: ys => argOk x y && argsOk xs ys
  | _, _ => false
def dOk (N : Nat) (o : Oper) (d : Nat) : Bool := match o.dst with | some e => Nat.beq e d && Nat.ble (d + 1) N | none => false
def ddOk (N : Nat) (o : Oper) : Option Nat → Bool
  | some d => dOk N o d
  | none => match o.dst with | none => true | some _ => false
theorem dOk_out {N : Nat} {o : Oper} {d : Nat} (h : dOk N o d = true) : o.dst = some d ∧ d < N := by
  unfold dOk at h
  split at h
  · rename_i e he
    simp only [Bool.and_eq_true] at h
    rw [he, Nat.eq_of_beq_eq_true h.1]; exact ⟨rfl, Nat.le_of_ble_eq_true h.2⟩
  · cases h
theorem ddOk_out {N : Nat} {o : Oper} {d : Option Nat} (h : ddOk N o d = true) : o.dst = d ∧ ∀ e, d = some e → e < N := by
  cases d with
  | some d => obtain ⟨h1, h2⟩ := dOk_out h; exact ⟨h1, fun e he => by cases he; exact h2⟩
  | none =>
    simp only [ddOk] at h
    cases he : o.dst with
    | none => exact ⟨rfl, fun e h => by cases h⟩
    | some e => rw [he] at h; cases h
def szOk (P : Program) (t n : Nat) : Bool := match P.info? t with | some i => Nat.beq i.size n | none => false
theorem szOk_out {P : Program} {t n : Nat} (h : szOk P t n = true) : ∃ i, P.info? t = some i ∧ i.size = n := by
  unfold szOk at h
  split at h
  · rename_i i hi; exact ⟨i, hi, Nat.eq_of_beq_eq_true h⟩
  · cases h
def aggOk (P : Program) (t : Nat) (b : Bool) : Bool := match P.underlying t with | some (.struct _) => b | some (.array _ _) => b | some _ => !b | none => false
theorem aggOk_out {P : Program} {t : Nat} {b : Bool} (h : aggOk P t b = true) (w : World) : (isAgg t).run P w = .ok b w := by
  unfold aggOk at h
  split at h
  · rename_i hu; subst h; simp [isAgg, run_underlying hu]
  · rename_i hu; subst h; simp [isAgg, run_underlying hu]
  · rename_i d h1 h2 hu
    simp at h
    subst h
    cases d <;> simp_all [isAgg, run_underlying hu]
  · cases h
def fieldOf (P : Program) (t i : Nat) : Option Field := match P.underlying t with | some (.struct fs) => fs[i]? | _ => none
def slOk (P : Program) (t : Nat) (τ : FT) : Bool := match P.underlying t with | some (.slice e) => szOk P e τ.sz | _ => false
theorem slOk_out {P : Program} {t : Nat} {τ : FT} (h : slOk P t τ = true) : ∃ e i, P.underlying t = some (.slice e) ∧ P.info? e = some i ∧ i.size = τ.sz := by
  unfold slOk at h
  split at h
  · rename_i e he; obtain ⟨i, h1, h2⟩ := szOk_out h; exact ⟨e, i, he, h1, h2⟩
  · cases h
def zeroOk (P : Program) (t : Nat) (z : List Cell) : Bool := match P.info? t with | some i => (match i.zero with | some v => vsOk z v.cells.toList | none => false) | none => false
theorem zeroOk_out {P : Program} {t : Nat} {z : List Cell} (h : zeroOk P t z = true) : ∃ v, (∀ w, (zeroValue t).run P w = .ok v w) ∧ (∃ i, P.info? t = some i ∧ i.zero = some v) ∧ CellsR none0 z v.cells.toList := by
  unfold zeroOk at h
  split at h
  · rename_i i hi
    split at h
    · rename_i v hv; exact ⟨v, fun w => by simp [zeroValue, run_typeInfo w hi, hv], ⟨i, hi, hv⟩, vsOk_out h⟩
    · cases h
  · cases h
def eqGo (P : Program) (rec : Nat → Option (List EK)) : List Field → Nat → Option (List EK)
  | [], _ => some []
  | f :: fs, off => match Nat.beq f.offset off && !(f.name == "_") with
    | true => (match rec f.type with
      | some s => (match szOk P f.type s.length with | true => (match eqGo P rec fs (off + s.length) with | some r => some (s ++ r) | none => none) | false => none)
      | none => none)
    | false => none
def eqSh (P : Program) : Nat → Nat → Option (List EK)
  | 0, _ => none
  | n + 1, t => match P.underlying t with
    | some (.int _) => some [.i]
    | some .bool => some [.b]
    | some .string => some [.s]
    | some (.struct fs) => (match P.stoodInHeld t with | true => none | false => eqGo P (eqSh P n) fs.toList 0)
    | _ => none
def ekEq : EK → EK → Bool
  | .i, .i | .b, .b | .s, .s => true
  | _, _ => false
def eksEq : List EK → List EK → Bool
  | [], [] => true
  | a :: as, b :: bs => ekEq a b && eksEq as bs
  | _, _ => false
theorem eksEq_eq : ∀ {a b : List EK}, eksEq a b = true → a = b
  | [], [], _ => rfl
  | a :: as, b :: bs, h => by
    simp only [eksEq, Bool.and_eq_true] at h
    rw [eksEq_eq h.2]
    cases a <;> cases b <;> first | rfl | (cases h.1; done)
  | [], _ :: _, h => by cases h
  | _ :: _, [], h => by cases h
def eqOk (P : Program) (t : Nat) (sh : List EK) : Bool := (match eqSh P 8 t with | some s => eksEq s sh | none => false) && !(P.eqGuardType P.depth t)

def partsOk (P : Program) (fs : Array Field) : List (Nat × Nat × Arg) → List (Nat × Operand) → Bool
  | [], [] => true
  | (off, n, x) :: r, (i, y) :: s => (match fs[i]? with | some f => Nat.beq f.offset off && szOk P f.type n | none => false) && argOk x y && partsOk P fs r s
  | _, _ => false
def rowOk : List Arg → List (Nat × Operand) → Nat → Bool
  | [], [], _ => true
  | x :: xs, (j, y) :: ys, i => Nat.beq j i && argOk x y && rowOk xs ys (i + 1)
  | _, _, _ => false
def allInfo (P : Program) : List Field → Bool
  | [] => true
  | f :: fs => (match P.info? f.type with | some _ => true | none => false) && allInfo P fs
def optOk : Option Arg → Option Operand → Bool
  | none, none => true
  | some x, some y => argOk x y
  | _, _ => false

def u8Ok (P : Program) (e : TypeId) : Bool := match P.underlying e with | some (.int k) => ikEq k .u8 | _ => false
theorem u8Ok_out {P : Program} {e : TypeId} (h : u8Ok P e = true) : P.underlying e = some (.int .u8) := by
  unfold u8Ok at h
  split at h
  · rename_i k hk; rw [hk, ikEq_eq h]
  · cases h
def inOk (P : Program) (N : Nat) (o : Oper) (i : In) : Bool :=
  match i with
  | .mv d x => dOk N o d && (match o.op with | .move y => argOk x y | .assign y => argOk x y | _ => false)
  | .pick d c a b => dOk N o d && (match o.op with | .pick c' a' b' => argOk c c' && argOk a a' && argOk b b' | _ => false)
  | .alloc d z => dOk N o d && (match o.op with | .alloc t => zeroOk P t z | _ => false)
  | .box d x => dOk N o d && (match o.op with | .box _ y => argOk x y | _ => false)
  | .build d z ps => dOk N o d && (match o.op with
    | .build t qs => zeroOk P t z && (match P.underlying t with | some (.struct fs) => allInfo P fs.toList && partsOk P fs ps qs.toList | _ => false)
    | _ => false)
  | .bsr d xs => dOk N o d && (match o.op with
    | .buildSlice t n ps => Nat.beq n xs.length && Nat.ble n 16777216 && rowOk xs ps.toList 0 &&
        (match P.underlying t with | some (.slice e) => szOk P e 1 && zeroOk P e [.nils .bool] | _ => false)
    | _ => false)
  | .lenr d x => dOk N o d && (match o.op with
    | .call c => (match c.callee with | .builtin .len => true | _ => false) && argsOk [x] c.args.toList &&
        (match c.argTypes[0]? with | some t => (match P.underlying t with | some (.slice _) => true | _ => false) | none => false)
    | _ => false)
  | .iar d x i => dOk N o d && (match o.op with | .indexAddr t y j => argOk x y && argOk i j && (match P.underlying t with | some (.slice e) => szOk P e 1 | _ => false) | _ => false)
  | .slr d x i => dOk N o d && (match o.op with | .slice t y lo hi mx => argOk x y && optOk (some i) lo && optOk none hi && optOk none mx && (match P.underlying t with | some (.slice e) => szOk P e 1 | _ => false) | _ => false)
  | .cpy d τ x y => ddOk N o d && (match o.op with
    | .call c => (match c.callee with | .builtin .copy => true | _ => false) && argsOk [x, y] c.args.toList && (match c.argTypes.toList with | [t, u] => slOk P t τ && slOk P u τ | _ => false)
    | _ => false)
  | .clr τ x => ddOk N o none && (match o.op with
    | .call c => (match c.callee with | .builtin .clear => true | _ => false) && argsOk [x] c.args.toList &&
        (match c.argTypes.toList with | [t] => slOk P t τ && (match P.underlying t with | some (.slice e) => zeroOk P e (τ.flat τ.zero) | _ => false) | _ => false)
    | _ => false)
  | .appi d τ x y => dOk N o d && (match o.op with
    | .call c => (match c.callee with | .builtin .append => true | _ => false) && argsOk [x, y] c.args.toList && (match c.argTypes.toList with | [t, u] => slOk P t τ && slOk P u τ | _ => false)
    | _ => false)
  | .slcb d τ x lo hi => dOk N o d && (match o.op with | .slice t y lo' hi' mx => argOk x y && optOk (some lo) lo' && optOk (some hi) hi' && optOk none mx && slOk P t τ | _ => false)
  | .slcu d τ x lo hi m => dOk N o d && (match o.op with | .slice t y lo' hi' mx => argOk x y && optOk (some lo) lo' && optOk (some hi) hi' && optOk (some m) mx && slOk P t τ | _ => false)
  | .slc3 d τ x hi m => dOk N o d && (match o.op with | .slice t y lo' hi' mx => argOk x y && optOk none lo' && optOk (some hi) hi' && optOk (some m) mx && slOk P t τ | _ => false)
  | .no => true
  | .bs d τ xs => dOk N o d && (match o.op with
    | .buildSlice t n ps => Nat.beq n xs.length && Nat.ble (n * τ.sz) 16777216 && rowOk xs ps.toList 0 && slOk P t τ &&
        (match P.underlying t with | some (.slice e) => zeroOk P e (τ.flat τ.zero) | _ => false)
    | _ => false)
  | .load d agg sz a => dOk N o d && (match o.op with | .load t y => argOk a y && szOk P t sz && aggOk P t agg && (agg || Nat.beq sz 1) | _ => false)
  | .store sz a x => ddOk N o none && (match o.op with | .store t y z => argOk a y && argOk x z && szOk P t sz | _ => false)
  | .bin d op x y => dOk N o d && (match o.op with | .binOp op' _ x' y' _ => decide (op = op') && argOk x x' && argOk y y' | _ => false)
  | .eqs d agg sh neg x y => dOk N o d && (match o.op with
    | .binOp op t x' y' _ => (match op with | .eql => !neg | .neq => neg | _ => false) && eqOk P t sh && aggOk P t agg && argOk x x' && argOk y y'
    | _ => false)
  | .isnil d x => dOk N o d && (match o.op with
    | .binOp op t x' (.const (.slice none l c)) _ => decide (op = .eql) && Nat.beq l 0 && Nat.beq c 0 && argOk x x' && (match P.underlying t with | some (.slice _) => true | _ => false)
    | _ => false)
  | .inil d x => dOk N o d && (match o.op with
    | .binOp op t x' (.const .nilIface) _ => decide (op = .neq) && argOk x x' && (match P.underlying t with | some (.interface _) => true | _ => false)
    | _ => false)
  | .sidx d x i => dOk N o d && (match o.op with | .index t y j => argOk x y && argOk i j && (match P.underlying t with | some .string => true | _ => false) | _ => false)
  | .ssl d x lo hi => dOk N o d && (match o.op with | .slice t y lo' hi' mx => argOk x y && optOk lo lo' && optOk hi hi' && optOk none mx && (match P.underlying t with | some .string => true | _ => false) | _ => false)
  | .bnot d x => dOk N o d && (match o.op with | .unOp op _ y => decide (op = .not) && argOk x y | _ => false)
  | .conv d k x => dOk N o d && (match o.op with
    | .convert s t y => argOk x y && (match P.underlying s with | some _ => true | none => false) && (match P.underlying t with | some (.int k') => ikEq k k' | _ => false)
    | _ => false)
  | .mkS d τ n => dOk N o d && (match o.op with
    | .makeSlice t l c => argOk n l && argOk n c && slOk P t τ &&
        (match P.underlying t with | some (.slice e) => zeroOk P e (τ.flat τ.zero) && (match P.info? e with | some i => Nat.ble i.bytes 131072 | none => false) | _ => false)
    | _ => false)
  | .fa d x off => dOk N o d && (match o.op with
    | .fieldAddr s y f => argOk x y && (match fieldOf P s f with | some f => Nat.beq f.offset off && (match P.info? f.type with | some i => Nat.ble 1 i.size | none => false) | none => false)
    | _ => false)
  | .fld d x off sz agg => dOk N o d && (match o.op with
    | .field t y f => argOk x y && (match fieldOf P t f with | some f => Nat.beq f.offset off && szOk P f.type sz && aggOk P f.type agg && (agg || Nat.beq sz 1) | none => false)
    | _ => false)
  | .ia d τ x i => dOk N o d && (match o.op with | .indexAddr t y j => argOk x y && argOk i j && slOk P t τ | _ => false)
  | .ext d x i => dOk N o d && (match o.op with | .extract y j => argOk x y && Nat.beq i j | _ => false)
  | .call d f xs => ddOk N o d && (match o.op with
    | .call c => (match c.callee with | .value (.func g) => Nat.beq f g | _ => false) && argsOk xs c.args.toList
    | _ => false)
  | .callv d f xs => ddOk N o d && (match o.op with
    | .call c => (match c.callee with | .value g => argOk f g | _ => false) && argsOk xs c.args.toList
    | _ => false)
  | .len d str x => dOk N o d && (match o.op with
    | .call c => (match c.callee with | .builtin .len => true | _ => false) && argsOk [x] c.args.toList &&
        (match c.argTypes[0]? with | some t => (match P.underlying t with | some (.slice _) => !str | some .string => str | _ => false) | none => false)
    | _ => false)
  | .app d τ x y => dOk N o d && (match o.op with
    | .call c => (match c.callee with | .builtin .append => true | _ => false) && argsOk [x, y] c.args.toList &&
        (match c.argTypes.toList with
          | [t, u] => slOk P t τ && slOk P u τ && (match P.underlying t with | some (.slice e) => zeroOk P e (τ.flat τ.zero) && (match P.info? e with | some i => Nat.ble i.bytes 65536 | none => false) | _ => false)
          | _ => false)
    | _ => false)
  | .cap d x => dOk N o d && (match o.op with
    | .call c => (match c.callee with | .builtin .cap => true | _ => false) && argsOk [x] c.args.toList &&
        (match c.argTypes[0]? with | some t => (match P.underlying t with | some (.slice _) => true | _ => false) | none => false)
    | _ => false)
  | .bsw d τ => dOk N o d && (match o.op with
    | .buildSlice t n ps => Nat.beq n 0 && rowOk [] ps.toList 0 && (match P.underlying t with | some (.slice e) => szOk P e 1 | _ => false)
    | _ => false)
  | .appw d τ x y => dOk N o d && (match o.op with
    | .call c => (match c.callee with | .builtin .append => true | _ => false) && argsOk [x, y] c.args.toList &&
        (match c.argTypes.toList with
          | [t, u] => slOk P t .str && slOk P u .str && (match P.underlying t with | some (.slice e) => zeroOk P e [.nils .bool] && (match P.info? e with | some i => Nat.ble i.bytes 65536 | none => false) | _ => false)
          | _ => false)
    | _ => false)
  | .slcz d τ x n => dOk N o d && (match o.op with
    | .slice t y lo' (some hi') mx => argOk x y && argOk n hi' && (match lo' with | none => true | some _ => false) && (match mx with | none => true | some _ => false) && slOk P t τ
    | _ => false)
  | .appz d τ x n => dOk N o d && (match o.op with
    | .call c => (match c.callee with | .builtin .append => true | _ => false) && argsOk [x, n] c.args.toList &&
        (match c.argTypes.toList with
          | [t, u] => slOk P t τ && (match P.underlying u with | some (.int _) => true | _ => false) && (match P.underlying t with | some (.slice e) => zeroOk P e (τ.flat τ.zero) && (match P.info? e with | some i => Nat.ble i.bytes 65536 | none => false) | _ => false)
          | _ => false)
    | _ => false)
  | .slc d τ x lo hi => dOk N o d && (match o.op with
    | .slice t y lo' hi' mx => argOk x y && optOk lo lo' && optOk hi hi' && (match mx with | none => true | some _ => false) && slOk P t τ
    | _ => false)
  | .mkf d f cs => dOk N o d && (match o.op with | .makeFunc fn first caps => (match fn with | .func g => Nat.beq f g | _ => false) && Nat.beq first.size 0 && argsOk cs caps.toList | _ => false)
  | .mm d mx x y => dOk N o d && (match o.op with
    | .call c => (match c.callee with | .builtin .max => mx | .builtin .min => !mx | _ => false) && argsOk [x, y] c.args.toList
    | _ => false)
  | .cat d x y => dOk N o d && (match o.op with | .binOp op _ x' y' _ => decide (op = .add) && argOk x x' && argOk y y' | _ => false)
  | .nchk d x => dOk N o d && (match o.op with | .nilCheck y => argOk x y | _ => false)
  | .stri d x => dOk N o d && (match o.op with
    | .convert s t y => argOk x y && Nat.beq s t && (match P.underlying t with | some (.slice e) => u8Ok P e | _ => false)
    | _ => false)
  | .s2b d x => dOk N o d && (match o.op with
    | .convert s t y => argOk x y && (match P.underlying s with | some _ => true | none => false) && (match P.underlying t with | some (.slice e) => u8Ok P e | _ => false)
    | _ => false)
  | .b2s d x => dOk N o d && (match o.op with
    | .convert s t y => argOk x y && (match P.underlying t with | some .string => true | _ => false) && (match P.underlying s with | some (.slice e) => u8Ok P e | _ => false)
    | _ => false)

def Ev (ρ : Map) (st : St) (a : Act) : Prop := ∀ x y, argOk x y = true → TVR ρ (st.ev x) (a.eval y)
theorem Ev.of {ρ : Map} {st : St} {a : Act} (h : ∀ i v, aget st.tm i = some v → ∃ u, a.tmps[i]? = some u ∧ TVR ρ v u) : Ev ρ st a := fun x y hxy => by
  unfold argOk at hxy
  split at hxy
  · rename_i n m
    rw [← Nat.eq_of_beq_eq_true hxy]
    simp only [St.ev]
    split
    · rename_i v hv
      obtain ⟨u, hu, hr⟩ := h n v hv
      simp only [Act.eval, Array.getD_eq_getD_getElem?, hu, Option.getD_some]; exact hr
    · trivial
  · exact CellR.mono (none0_le ρ) (vOk_out hxy)
  · rename_i f g
    rw [← Nat.eq_of_beq_eq_true hxy]; exact ⟨[], rfl, trivial⟩
  · trivial
  · cases hxy
theorem evs_out {ρ : Map} {st : St} {a : Act} (h : Ev ρ st a) : ∀ {xs : List Arg} {ys : List Operand} {k : List TV → Prop}, argsOk xs ys = true → evs st xs k → ∃ vs, k vs ∧ TVsR ρ vs (ys.map a.eval)
  | [], [], k, _, hk => ⟨[], hk, trivial⟩
  | x :: xs, y :: ys, k, ha, hk => by
    simp only [argsOk, Bool.and_eq_true] at ha
    have hv := h x y ha.1
    simp only [evs] at hk
    cases he : st.ev x with
    | v z => rw [he] at hk hv; obtain ⟨vs, h1, h2⟩ := evs_out h ha.2 hk; exact ⟨_, h1, hv, h2⟩
    | tup z => rw [he] at hk hv; obtain ⟨vs, h1, h2⟩ := evs_out h ha.2 hk; exact ⟨_, h1, hv, h2⟩
    | fn f z => rw [he] at hk hv; obtain ⟨vs, h1, h2⟩ := evs_out h ha.2 hk; exact ⟨_, h1, hv, h2⟩
    | rows f z m => rw [he] at hk hv; obtain ⟨vs, h1, h2⟩ := evs_out h ha.2 hk; exact ⟨_, h1, hv, h2⟩
    | unk => rw [he] at hk hv; obtain ⟨vs, h1, h2⟩ := evs_out h ha.2 hk; exact ⟨_, h1, hv, h2⟩
  | [], _ :: _, _, ha, _ => by cases ha
  | _ :: _, [], _, ha, _ => by cases ha
end Go.Pi
