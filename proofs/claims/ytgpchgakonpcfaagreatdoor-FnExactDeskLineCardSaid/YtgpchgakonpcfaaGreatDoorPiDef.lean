/- The definitions of PI: an evaluator for the compiled form of Go functions, on abstract values. No conditions: definitions alone. -/
import GoSem.Core.Program
import GoSem.Core.View
namespace Go.Pi
set_option linter.unusedVariables false
set_option linter.unusedSimpArgs false

structure Key where
  base : Int
  top : Int
  perms : Int
  sealed : Int
  deriving DecidableEq
structure Word where
  n : Int
  is : Bool
  key : Key
  deriving DecidableEq
structure Inst where
  op : Int
  r : Int
  a : Int
  b : Int
  n : Int
  deriving DecidableEq
structure Eff where
  trap : Int
  r : Int
  val : Word
  next : Word
  addr : Int
  put : Word
  drop : Int
  deriving DecidableEq
structure Entry where
  pc : Word
  x : Inst
  done : Bool
  e : Eff
  guess : Word
  deriving DecidableEq
structure Pick where
  kind : Int
  n : Int
  deriving DecidableEq
structure Span where
  at_ : Int
  len : Int
  deriving DecidableEq
structure Seen where
  at_ : Int
  r : Int
  addr : Int
  trap : Int
  deriving DecidableEq

inductive FT | int (k : IntKind) | bool | str | word | inst | entry | pick | span | seen
  deriving DecidableEq

inductive Cell
  | int (k : IntKind) (n : Int)
  | tt | ff | bool (b : Bool)
  | str (s : ByteArray)
  | nilp
  | ptr (b c : Nat)
  | eptr (τ : FT) (b : Nat) (i : Nat) (c : Nat)
  | nils (τ : FT)
  | nilz (τ : FT)
  | sl (nn : Bool) (τ : FT) (b : Nat)
  | slp (nn : Bool) (τ : FT) (b : Nat) (off len : Nat)
  | rsl (τ : FT) (b i : Nat)
  | rel (τ : FT) (b i j c : Nat)
  | nili
  | ife
  | unk

inductive V1 | c (x : Cell) | g (cs : List Cell)
inductive TV | v (x : V1) | tup (vs : List V1) | fn (f : Nat) (caps : List V1) | rows (b off n : Nat) | unk

abbrev FT.Ty : FT → Type
  | .int _ => Int | .bool => Bool | .str => ByteArray | .word => Word | .inst => Inst | .entry => Entry | .pick => Pick | .span => Span | .seen => Seen
def FT.sz : FT → Nat
  | .int _ => 1 | .bool => 1 | .str => 1 | .word => 6 | .inst => 5 | .entry => 40 | .pick => 2 | .span => 2 | .seen => 4
def Key.flat (k : Key) (r : List Cell) : List Cell := .int .i64 k.base :: .int .i64 k.top :: .int .i64 k.perms :: .int .i64 k.sealed :: r
def Word.flat (w : Word) (r : List Cell) : List Cell := .int .i64 w.n :: .bool w.is :: w.key.flat r
def Inst.flat (w : Inst) (r : List Cell) : List Cell := .int .i64 w.op :: .int .i64 w.r :: .int .i64 w.a :: .int .i64 w.b :: .int .i64 w.n :: r
def Eff.flat (e : Eff) (r : List Cell) : List Cell :=
  .int .i64 e.trap :: .int .i64 e.r :: e.val.flat (e.next.flat (.int .i64 e.addr :: e.put.flat (.int .i64 e.drop :: r)))
def Entry.flat (e : Entry) (r : List Cell) : List Cell := e.pc.flat (e.x.flat (.bool e.done :: e.e.flat (e.guess.flat r)))
def Pick.flat (p : Pick) (r : List Cell) : List Cell := .int .i64 p.kind :: .int .i64 p.n :: r
def Span.flat (p : Span) (r : List Cell) : List Cell := .int .i64 p.at_ :: .int .i64 p.len :: r
def Seen.flat (p : Seen) (r : List Cell) : List Cell := .int .i64 p.at_ :: .int .i64 p.r :: .int .i64 p.addr :: .int .i64 p.trap :: r
def FT.flat : (τ : FT) → τ.Ty → List Cell
  | .int k, n => [.int k n] | .bool, b => [.bool b] | .str, s => [.str s] | .word, w => w.flat [] | .inst, w => w.flat []
  | .entry, e => e.flat [] | .pick, p => p.flat [] | .span, p => p.flat [] | .seen, p => p.flat []
def Key.zero : Key := ⟨0, 0, 0, 0⟩
def Word.zero : Word := ⟨0, false, Key.zero⟩
def Inst.zero : Inst := ⟨0, 0, 0, 0, 0⟩
def Eff.zero : Eff := ⟨0, 0, Word.zero, Word.zero, 0, Word.zero, 0⟩
def Entry.zero : Entry := ⟨Word.zero, Inst.zero, false, Eff.zero, Word.zero⟩
def FT.zero : (τ : FT) → τ.Ty
  | .int _ => (0 : Int) | .bool => false | .str => ByteArray.empty | .word => Word.zero | .inst => Inst.zero | .entry => Entry.zero
  | .pick => ⟨0, 0⟩ | .span => ⟨0, 0⟩ | .seen => ⟨0, 0, 0, 0⟩

def ikEq : IntKind → IntKind → Bool
  | .i64, .i64 | .u8, .u8 | .i32, .i32 | .u64, .u64 | .i8, .i8 | .i16, .i16 | .u16, .u16 | .u32, .u32 => true
  | _, _ => false
def ftEq : FT → FT → Bool
  | .int j, .int k => ikEq j k
  | .bool, .bool | .str, .str | .word, .word | .inst, .inst | .entry, .entry | .pick, .pick | .span, .span | .seen, .seen => true
  | _, _ => false

@[irreducible] def sel (b : Bool) (x y : Prop) : Prop := (b = true → x) ∧ (b = false → y)
@[irreducible] def chk (p x : Prop) : Prop := p ∧ x
theorem sel_i {b : Bool} {x y : Prop} (h1 : b = true → x) (h2 : b = false → y) : sel b x y := by unfold sel; exact ⟨h1, h2⟩
theorem sel_o {b : Bool} {x y : Prop} (h : sel b x y) : (b = true → x) ∧ (b = false → y) := by unfold sel at h; exact h
theorem chk_i {p x : Prop} (h1 : p) (h2 : x) : chk p x := by unfold chk; exact ⟨h1, h2⟩
theorem chk_o {p x : Prop} (h : chk p x) : p ∧ x := by unfold chk at h; exact h

def pInt (k : IntKind) (cs : List Cell) (f : Int → List Cell → Prop) : Prop :=
  match cs with
  | .int j n :: cs => match ikEq j k with | true => f n cs | false => False
  | _ => False
def pBool (cs : List Cell) (f : Bool → List Cell → Prop) : Prop :=
  match cs with
  | .tt :: cs => f true cs
  | .ff :: cs => f false cs
  | .bool b :: cs => f b cs
  | _ => False
def pStr (cs : List Cell) (f : ByteArray → List Cell → Prop) : Prop :=
  match cs with
  | .str s :: cs => f s cs
  | _ => False
def pKey (cs : List Cell) (f : Key → List Cell → Prop) : Prop :=
  pInt .i64 cs fun a cs => pInt .i64 cs fun b cs => pInt .i64 cs fun c cs => pInt .i64 cs fun d cs => f ⟨a, b, c, d⟩ cs
def pWord (cs : List Cell) (f : Word → List Cell → Prop) : Prop :=
  pInt .i64 cs fun n cs => pBool cs fun is cs => pKey cs fun k cs => f ⟨n, is, k⟩ cs
def pInst (cs : List Cell) (f : Inst → List Cell → Prop) : Prop :=
  pInt .i64 cs fun a cs => pInt .i64 cs fun b cs => pInt .i64 cs fun c cs => pInt .i64 cs fun d cs => pInt .i64 cs fun e cs => f ⟨a, b, c, d, e⟩ cs
def pEff (cs : List Cell) (f : Eff → List Cell → Prop) : Prop :=
  pInt .i64 cs fun t cs => pInt .i64 cs fun r cs => pWord cs fun v cs => pWord cs fun n cs => pInt .i64 cs fun a cs => pWord cs fun p cs =>
  pInt .i64 cs fun d cs => f ⟨t, r, v, n, a, p, d⟩ cs
def pEntry (cs : List Cell) (f : Entry → List Cell → Prop) : Prop :=
  pWord cs fun p cs => pInst cs fun x cs => pBool cs fun d cs => pEff cs fun e cs => pWord cs fun g cs => f ⟨p, x, d, e, g⟩ cs
def pTwo {α : Type} (mk : Int → Int → α) (cs : List Cell) (f : α → List Cell → Prop) : Prop :=
  pInt .i64 cs fun a cs => pInt .i64 cs fun b cs => f (mk a b) cs
def pSeen (cs : List Cell) (f : Seen → List Cell → Prop) : Prop :=
  pInt .i64 cs fun a cs => pInt .i64 cs fun b cs => pInt .i64 cs fun c cs => pInt .i64 cs fun d cs => f ⟨a, b, c, d⟩ cs
def FT.pars : (τ : FT) → List Cell → (τ.Ty → List Cell → Prop) → Prop
  | .int k => pInt k | .bool => pBool | .str => pStr | .word => pWord | .inst => pInst | .entry => pEntry
  | .pick => pTwo Pick.mk | .span => pTwo Span.mk | .seen => pSeen
def FT.parse (τ : FT) (cs : List Cell) (f : τ.Ty → Prop) : Prop :=
  τ.pars cs fun x r => match r with | [] => f x | _ :: _ => False

inductive Blk
  | box (rw : Bool) (cs : List Cell)
  | flat (rw : Bool) (τ : FT) (cap : Option Nat) (xs : List τ.Ty)
  | rows (rw : Bool) (τ : FT) (xss : List (List τ.Ty))

structure St where
  tm : List (Nat × TV)
  hp : List (Nat × Option Blk)
  nx : List Nat
  ar : List TV
  q : Bool
  fr : List Nat

inductive TC
  | int (k : IntKind) (n : Int)
  | bool (b : Bool)
  | str (s : ByteArray)
  | ro (τ : FT) (xs : List τ.Ty)
  | ow (τ : FT) (xs : List τ.Ty)
  | rn (τ : FT) (xs : List τ.Ty)
  | oc (τ : FT) (cap : Nat) (xs : List τ.Ty)
  | rows (rw : Bool) (τ : FT) (xss : List (List τ.Ty))
  | nl (τ : FT)
  | nili
  | ife
  | unk
inductive T1 | c (x : TC) | g (cs : List TC) | ptr (rw : Bool) (off : Nat) (cs : List TC)
inductive Tree | v (x : T1) | tup (vs : List T1) | fn (f : Nat) (caps : List T1) | rows (n : Nat) (cs : List TC)

structure Fun where
  f : Nat
  lend : List Bool
  go : List Tree → (Tree → List Tree → Prop) → Prop

inductive Arg | t (n : Nat) | k (v : TV)
inductive EK | i | b | s

inductive In
  | mv (d : Nat) (x : Arg)
  | pick (d : Nat) (c a b : Arg)
  | alloc (d : Nat) (z : List Cell)
  | box (d : Nat) (x : Arg)
  | build (d : Nat) (z : List Cell) (parts : List (Nat × Nat × Arg))
  | bs (d : Nat) (τ : FT) (xs : List Arg)
  | bsr (d : Nat) (xs : List Arg)
  | lenr (d : Nat) (x : Arg)
  | iar (d : Nat) (x i : Arg)
  | slr (d : Nat) (x i : Arg)
  | cpy (d : Option Nat) (τ : FT) (x y : Arg)
  | clr (τ : FT) (x : Arg)
  | appi (d : Nat) (τ : FT) (x y : Arg)
  | slcb (d : Nat) (τ : FT) (x lo hi : Arg)
  | slcu (d : Nat) (τ : FT) (x lo hi mx : Arg)
  | slc3 (d : Nat) (τ : FT) (x hi mx : Arg)
  | no
  | load (d : Nat) (agg : Bool) (sz : Nat) (a : Arg)
  | store (sz : Nat) (a x : Arg)
  | bin (d : Nat) (op : BinOp) (x y : Arg)
  | eqs (d : Nat) (agg : Bool) (sh : List EK) (neg : Bool) (x y : Arg)
  | isnil (d : Nat) (x : Arg)
  | bnot (d : Nat) (x : Arg)
  | conv (d : Nat) (k : IntKind) (x : Arg)
  | mkS (d : Nat) (τ : FT) (n : Arg)
  | fa (d : Nat) (x : Arg) (off : Nat)
  | fld (d : Nat) (x : Arg) (off sz : Nat) (agg : Bool)
  | ia (d : Nat) (τ : FT) (x i : Arg)
  | ext (d : Nat) (x : Arg) (i : Nat)
  | call (d : Option Nat) (f : Nat) (xs : List Arg)
  | callv (d : Option Nat) (f : Arg) (xs : List Arg)
  | len (d : Nat) (str : Bool) (x : Arg)
  | app (d : Nat) (τ : FT) (x y : Arg)
  | slc (d : Nat) (τ : FT) (x : Arg) (lo hi : Option Arg)
  | mkf (d : Nat) (f : Nat) (caps : List Arg)
  | mm (d : Nat) (mx : Bool) (x y : Arg)
  | cat (d : Nat) (x y : Arg)
  | s2b (d : Nat) (x : Arg)
  | b2s (d : Nat) (x : Arg)
  | nchk (d : Nat) (x : Arg)
  | stri (d : Nat) (x : Arg)
  | inil (d : Nat) (x : Arg)
  | sidx (d : Nat) (x i : Arg)
  | ssl (d : Nat) (x : Arg) (lo hi : Option Arg)
  | cap (d : Nat) (x : Arg)
  | appz (d : Nat) (τ : FT) (x n : Arg)
  | slcz (d : Nat) (τ : FT) (x n : Arg)
  | bsw (d : Nat) (τ : FT)
  | appw (d : Nat) (τ : FT) (x y : Arg)

inductive Step | s (i : In) | g (t : Nat) (w : Bool) (d : Option Nat) (i : In)

inductive RT | done (L : Option (List Nat)) | nil | tk (i : Nat) (r : RT) | one (i : Nat) (bar : Bool) (r : RT) | alt (i : Nat) (bar : Bool) (r more : RT) | any (i : Nat) (bar : Bool) (r more : RT) | fin (r : RT)

inductive PC
  | skip | reg (ss : List Step) | rgd (A : List Nat) (ss : List Step) (r : RT) | seq (a b : PC) | cond (c : Arg) (a b : PC)
  | blk (id : Nat) (b : PC) | loop (L : List Nat) (b : PC) | exit (id : Nat) | ret

inductive RV | t (n : Nat) | c (n : Nat) (agg : Bool) (sz : Nat)
structure PF where
  res : List RV
  body : PC

inductive Ex | normal | exit (id : Nat) | ret

def aget {α : Type} : List (Nat × α) → Nat → Option α
  | [], _ => none
  | (j, v) :: r, i => match Nat.beq i j with | true => some v | false => aget r i
def St.hget (st : St) (b : Nat) : Option Blk :=
  match aget st.hp b with | some (some B) => some B | _ => none
def St.ev (st : St) : Arg → TV
  | .t n => match aget st.tm n with | some v => v | none => .unk
  | .k v => v
def mem (x : Nat) : List Nat → Bool
  | [] => false
  | y :: ys => match Nat.beq x y with | true => true | false => mem x ys
def nodup : List Nat → Bool
  | [] => true
  | x :: xs => match mem x xs with | true => false | false => nodup xs
def disj : List Nat → List Nat → Bool
  | [], _ => true
  | x :: xs, ys => match mem x ys with | true => false | false => disj xs ys

def fC (x : Cell) (k : Cell → Prop) : Prop :=
  match x with
  | .int a b => k (.int a b) | .tt => k .tt | .ff => k .ff | .bool b => k (.bool b) | .str s => k (.str s) | .nilp => k .nilp
  | .ptr b c => k (.ptr b c) | .eptr τ b i c => k (.eptr τ b i c) | .nils τ => k (.nils τ) | .nilz τ => k (.nilz τ) | .sl nn τ b => k (.sl nn τ b)
  | .slp nn τ b o l => k (.slp nn τ b o l) | .rsl τ b i => k (.rsl τ b i) | .rel τ b i j c => k (.rel τ b i j c) | .nili => k .nili | .ife => k .ife | .unk => k .unk
def fL : List Cell → (List Cell → Prop) → Prop
  | [], k => k []
  | c :: cs, k => fC c fun c => fL cs fun cs => k (c :: cs)
def tk : List Cell → Nat → Nat → (List Cell → Prop) → Prop
  | _, 0, 0, k => k []
  | c :: cs, 0, n + 1, k => fC c fun c => tk cs 0 n fun cs => k (c :: cs)
  | _ :: cs, o + 1, n, k => tk cs o n k
  | [], _, _, _ => False
def sp : List Cell → Nat → List Cell → (List Cell → Prop) → Prop
  | cs, 0, [], k => k cs
  | _ :: cs, 0, v :: vs, k => sp cs 0 vs fun r => k (v :: r)
  | c :: cs, o + 1, vs, k => sp cs o vs fun r => k (c :: r)
  | [], _, _, _ => False
def lenIs : List Cell → Nat → Prop → Prop
  | [], 0, k => k
  | _ :: cs, n + 1, k => lenIs cs n k
  | _, _, _ => False

def cells1 (x : V1) (k : List Cell → Prop) : Prop := match x with | .c x => k [x] | .g cs => k cs
def mk1 (agg : Bool) (cs : List Cell) (k : V1 → Prop) : Prop :=
  match agg with
  | true => k (.g cs)
  | false => match cs with | [c] => k (.c c) | _ => False

def binK (op : BinOp) (x y : Cell) (k : Cell → Prop) : Prop :=
  match x, y with
  | .int kx a, .int ky b =>
    match op with
    | .shl => chk (0 ≤ b) (k (.int kx (kx.wrap (a * 2 ^ (min b.toNat kx.bits)))))
    | .shr => chk (0 ≤ b) (k (.int kx (a.fdiv (2 ^ (min b.toNat kx.bits)))))
    | _ => match ikEq kx ky with
      | false => False
      | true => match op with
        | .add => k (.int kx (kx.wrap (a + b)))
        | .sub => k (.int kx (kx.wrap (a - b)))
        | .mul => k (.int kx (kx.wrap (a * b)))
        | .quo => chk (b ≠ 0) (k (.int kx (kx.wrap (a.tdiv b))))
        | .rem => chk (b ≠ 0) (k (.int kx (a.tmod b)))
        | .and => k (.int kx (kx.wrap (BitVec.ofInt kx.bits a &&& BitVec.ofInt kx.bits b).toNat))
        | .or => k (.int kx (kx.wrap (BitVec.ofInt kx.bits a ||| BitVec.ofInt kx.bits b).toNat))
        | .xor => k (.int kx (kx.wrap (BitVec.ofInt kx.bits a ^^^ BitVec.ofInt kx.bits b).toNat))
        | .andNot => k (.int kx (kx.wrap (BitVec.ofInt kx.bits a &&& ~~~ BitVec.ofInt kx.bits b).toNat))
        | .eql => k (.bool (a == b))
        | .neq => k (.bool (a != b))
        | .lss => k (.bool (decide (a < b)))
        | .leq => k (.bool (decide (a ≤ b)))
        | .gtr => k (.bool (decide (a > b)))
        | .geq => k (.bool (decide (a ≥ b)))
        | _ => False
  | _, _ => False

def eqC (e : EK) (x y : Cell) (k : Bool → Prop) : Prop :=
  match e with
  | .i => match x, y with
    | .int j a, .int l b => match ikEq j l with | true => k (a == b) | false => False
    | _, _ => False
  | .b => match x, y with
    | .bool a, .bool b => k (a == b)
    | .tt, .bool b => k (true == b) | .ff, .bool b => k (false == b) | .bool a, .tt => k (a == true) | .bool a, .ff => k (a == false)
    | .tt, .tt => k true | .ff, .ff => k true | .tt, .ff => k false | .ff, .tt => k false
    | _, _ => False
  | .s => match x, y with
    | .str a, .str b => k (a == b)
    | _, _ => False
def eqL : List EK → List Cell → List Cell → (Bool → Prop) → Prop
  | [], [], [], k => k true
  | e :: es, x :: xs, y :: ys, k => eqC e x y fun a => match es with
    | [] => (match xs, ys with | [], [] => k a | _, _ => False)
    | _ => eqL es xs ys fun b => k (a && b)
  | _, _, _, _ => False

def aggIs (agg : Bool) (x : V1) (k : Prop) : Prop :=
  match agg with
  | true => (match x with | .g _ => k | .c _ => False)
  | false => (match x with | .c _ => k | .g _ => False)
def asV (v : TV) (k : V1 → Prop) : Prop := match v with | .v x => k x | _ => False
def asC (v : TV) (k : Cell → Prop) : Prop := match v with | .v (.c x) => k x | _ => False
def evs (st : St) : List Arg → (List TV → Prop) → Prop
  | [], k => k []
  | a :: as, k => match st.ev a with
    | .v x => evs st as fun vs => k (.v x :: vs)
    | .tup x => evs st as fun vs => k (.tup x :: vs)
    | .fn f c => evs st as fun vs => k (.fn f c :: vs)
    | .rows b f n => evs st as fun vs => k (.rows b f n :: vs)
    | .unk => evs st as fun vs => k (.unk :: vs)

def win {α : Type} (xs : List α) (off len : Nat) : List α := (xs.drop off).take len

def tc (own : Bool) (st : St) (x : Cell) (k : TC → Prop) : Prop :=
  match x with
  | .int a b => k (.int a b) | .tt => k (.bool true) | .ff => k (.bool false) | .bool b => k (.bool b) | .str s => k (.str s)
  | .nils τ => match own with | true => k (.ow τ []) | false => k (.ro τ [])
  | .nilz τ => k (.nl τ)
  | .nili => k .nili | .ife => k .ife | .unk => k .unk
  | .sl _ _ b => match st.hget b with
    | some (.flat rw τ _ xs) => match own with
      | true => match rw with | true => k (.ow τ xs) | false => k (.ro τ xs)
      | false => k (.ro τ xs)
    | some (.rows rw τ xss) => match own with
      | true => match rw with | true => k (.rows true τ xss) | false => k (.rows false τ xss)
      | false => k (.rows false τ xss)
    | _ => k .unk
  | .rsl _ b i => match own with
    | true => k .unk
    | false => match st.hget b with
      | some (.rows _ τ xss) => k (.ro τ (xss.getD i []))
      | _ => k .unk
  | .rel _ _ _ _ _ => k .unk
  | .slp _ σ b off len => match st.hget b with
    | some (.flat rw τ _ xs) => match ftEq σ τ with
      | true => match own with
        | true => match rw with | true => k (.ow τ (win xs off len)) | false => k (.ro τ (win xs off len))
        | false => k (.ro τ (win xs off len))
      | false => False
    | _ => k .unk
  | .nilp => k .unk | .ptr _ _ => k .unk | .eptr _ _ _ _ => k .unk
def tcs (own : Bool) (st : St) : List Cell → (List TC → Prop) → Prop
  | [], k => k []
  | c :: cs, k => tc own st c fun x => tcs own st cs fun xs => k (x :: xs)
def t1 (own : Bool) (st : St) (x : V1) (k : T1 → Prop) : Prop :=
  match x with
  | .c (.ptr b off) => match st.hget b with
    | some (.box rw cs) => tcs own st cs fun cs => match own with
      | true => match rw with | true => k (.ptr true off cs) | false => k (.ptr false off cs)
      | false => k (.ptr false off cs)
    | _ => False
  | .c x => tc own st x fun x => k (.c x)
  | .g cs => tcs own st cs fun cs => k (.g cs)
def t1s (own : Bool) (st : St) : List V1 → (List T1 → Prop) → Prop
  | [], k => k []
  | c :: cs, k => t1 own st c fun x => t1s own st cs fun xs => k (x :: xs)
def tr (own : Bool) (st : St) (x : TV) (k : Tree → Prop) : Prop :=
  match x with
  | .v x => t1 own st x fun x => k (.v x)
  | .tup xs => t1s own st xs fun xs => k (.tup xs)
  | .fn f xs => t1s own st xs fun xs => k (.fn f xs)
  | .rows b f n => (match own with
    | true => False
    | false => match f with
      | 0 => (match st.hget b with
        | some (.box _ cs) => tcs false st cs fun cs => k (.rows n cs)
        | _ => False)
      | _ + 1 => False)
  | .unk => False
def trs (st : St) : List Bool → List TV → (List Tree → Prop) → Prop
  | _, [], k => k []
  | [], v :: vs, k => tr false st v fun x => trs st [] vs fun xs => k (x :: xs)
  | m :: ms, v :: vs, k => tr m st v fun x => trs st ms vs fun xs => k (x :: xs)
def lends {α : Type} : List Bool → List α → List α
  | true :: ms, v :: vs => v :: lends ms vs
  | false :: ms, _ :: vs => lends ms vs
  | _, _ => []
def keeps {α : Type} : List Bool → List α → List α
  | true :: ms, _ :: vs => keeps ms vs
  | false :: ms, v :: vs => v :: keeps ms vs
  | [], vs => vs
  | _, [] => []

def new (st : St) (B : Blk) (k : St → Nat → Prop) : Prop :=
  match st with
  | ⟨tm, hp, i :: nx, ar, q, fr⟩ => k ⟨tm, (i, some B) :: hp, nx, ar, q, i :: fr⟩ i
  | ⟨_, _, [], _, _, _⟩ => False
def ic (st : St) (x : TC) (k : St → Cell → Prop) : Prop :=
  match x with
  | .int a b => k st (.int a b) | .bool b => k st (.bool b) | .str s => k st (.str s)
  | .nl τ => k st (.nils τ) | .nili => k st .nili | .ife => k st .ife | .unk => k st .unk
  | .ro τ xs => new st (.flat false τ none xs) fun st i => k st (.sl false τ i)
  | .ow τ xs => new st (.flat true τ none xs) fun st i => k st (.sl false τ i)
  | .rn τ xs => new st (.flat false τ none xs) fun st i => k st (.sl true τ i)
  | .oc τ cap xs => new st (.flat true τ (some cap) xs) fun st i => k st (.sl false τ i)
  | .rows rw τ xss => new st (.rows rw τ xss) fun st i => k st (.sl false .str i)
def ics (st : St) : List TC → (St → List Cell → Prop) → Prop
  | [], k => k st []
  | c :: cs, k => ic st c fun st x => ics st cs fun st xs => k st (x :: xs)
def i1 (st : St) (x : T1) (k : St → V1 → Prop) : Prop :=
  match x with
  | .c x => ic st x fun st x => k st (.c x)
  | .g cs => ics st cs fun st cs => k st (.g cs)
  | .ptr rw off cs => ics st cs fun st cs => new st (.box rw cs) fun st i => k st (.c (.ptr i off))
def i1s (st : St) : List T1 → (St → List V1 → Prop) → Prop
  | [], k => k st []
  | c :: cs, k => i1 st c fun st x => i1s st cs fun st xs => k st (x :: xs)
def itr (st : St) (x : Tree) (k : St → TV → Prop) : Prop :=
  match x with
  | .v x => i1 st x fun st x => k st (.v x)
  | .tup xs => i1s st xs fun st xs => k st (.tup xs)
  | .fn f xs => i1s st xs fun st xs => k st (.fn f xs)
  | .rows n cs => i1 st (.ptr false 0 cs) fun st x => match x with | .c (.ptr i 0) => k st (.rows i 0 n) | _ => False
def itrs (st : St) : List Tree → (St → List TV → Prop) → Prop
  | [], k => k st []
  | c :: cs, k => itr st c fun st x => itrs st cs fun st xs => k st (x :: xs)

def md (st : St) (b : Nat) (k : Prop) : Prop :=
  match st.q with
  | false => k
  | true => match mem b st.fr with | true => k | false => False
def setB (st : St) (b : Nat) (B : Option Blk) (k : St → Prop) : Prop :=
  match st with | ⟨tm, hp, nx, ar, q, fr⟩ => k ⟨tm, (b, B) :: hp, nx, ar, q, fr⟩
def kill : List Nat → St → (St → Prop) → Prop
  | [], st, k => k st
  | b :: bs, st, k => md st b (setB st b none fun st => kill bs st k)
def backC (s0 st : St) (v : Cell) (t : TC) (k : St → Prop) : Prop :=
  match v with
  | .sl _ _ b => match s0.hget b with
    | some (.flat true τ _ xs) => match t with
      | .ow σ ys => match ftEq σ τ with
        | true => chk (ys.length = xs.length) (setB st b (some (.flat true σ none ys)) k)
        | false => False
      | .unk => k st
      | _ => False
    | _ => k st
  | .slp _ _ _ _ _ => False
  | .rsl _ _ _ => False
  | _ => k st
def backL (s0 st : St) : List Cell → List TC → (St → Prop) → Prop
  | [], [], k => k st
  | c :: cs, t :: ts, k => backC s0 st c t fun st => backL s0 st cs ts k
  | _, _, _ => False
def back1 (s0 st : St) (v : V1) (t : T1) (k : St → Prop) : Prop :=
  match v with
  | .c (.ptr b off) => match s0.hget b with
    | some (.box true _) => match t with
      | .ptr true off' ts => match Nat.beq off off' with
        | true => ics st ts fun st cs' => setB st b (some (.box true cs')) k
        | false => False
      | _ => False
    | some (.box false _) => k st
    | _ => False
  | .c x => match t with | .c t => backC s0 st x t k | _ => False
  | .g cs => match t with | .g ts => backL s0 st cs ts k | _ => False
def backs1 (s0 st : St) : List V1 → List T1 → (St → Prop) → Prop
  | [], [], k => k st
  | v :: vs, t :: ts, k => back1 s0 st v t fun st => backs1 s0 st vs ts k
  | _, _, _ => False
def back (s0 st : St) (v : TV) (t : Tree) (k : St → Prop) : Prop :=
  match v with
  | .v v => match t with | .v t => back1 s0 st v t k | _ => False
  | .fn _ vs => match t with | .fn _ ts => backs1 s0 st vs ts k | _ => False
  | _ => False
def backs (s0 st : St) : List TV → List Tree → (St → Prop) → Prop
  | [], [], k => k st
  | v :: vs, t :: ts, k => back s0 st v t fun st => backs s0 st vs ts k
  | _, _, _ => False

def idC (st : St) (c : Cell) : List Nat :=
  match c with
  | .sl _ _ b => match st.hget b with | some _ => [b] | none => []
  | .slp _ _ b _ _ => match st.hget b with | some _ => [b] | none => []
  | .rsl _ b _ => match st.hget b with | some _ => [b] | none => []
  | _ => []
def idL (st : St) : List Cell → List Nat
  | [] => []
  | c :: cs => idC st c ++ idL st cs
def id1 (st : St) (v : V1) : List Nat :=
  match v with
  | .c (.ptr b _) => match st.hget b with | some (.box _ cs) => idL st cs ++ [b] | _ => [b]
  | .c (.eptr _ b _ _) => [b]
  | .c (.rel _ b _ _ _) => [b]
  | .c x => idC st x
  | .g cs => idL st cs
def id1s (st : St) : List V1 → List Nat
  | [] => []
  | v :: vs => id1 st v ++ id1s st vs
def idV (st : St) (v : TV) : List Nat :=
  match v with
  | .v v => id1 st v
  | .tup vs => id1s st vs
  | .fn _ vs => id1s st vs
  | .rows b _ _ => (match st.hget b with | some (.box _ cs) => idL st cs ++ [b] | _ => [b])
  | .unk => []
def idVs (st : St) : List TV → List Nat
  | [] => []
  | v :: vs => idV st v ++ idVs st vs
def isRw (st : St) (b : Nat) : Bool :=
  match st.hget b with | some (.box rw _) => rw | some (.flat rw _ _ _) => rw | some (.rows rw _ _) => rw | none => false
def rwIds (st : St) : List Nat → List Nat
  | [] => []
  | b :: bs => match isRw st b with | true => b :: rwIds st bs | false => rwIds st bs
def anyRw (st : St) : List Nat → Bool
  | [] => false
  | b :: bs => match isRw st b with | true => true | false => anyRw st bs

def roC : TC → Bool
  | .ro _ _ => true | .rn _ _ => true | .rows rw _ _ => (match rw with | true => false | false => true) | _ => false
def roL : List TC → Bool
  | [] => false
  | c :: cs => match roC c with | true => true | false => roL cs
def ro1 : T1 → Bool
  | .c x => roC x | .g cs => roL cs | .ptr rw _ cs => match rw with | true => roL cs | false => true
def ro1s : List T1 → Bool
  | [] => false
  | c :: cs => match ro1 c with | true => true | false => ro1s cs
def roT : Tree → Bool
  | .v x => ro1 x | .tup xs => ro1s xs | .fn _ xs => ro1s xs | .rows _ _ => true
def roTs : List Tree → Bool
  | [] => false
  | c :: cs => match roT c with | true => true | false => roTs cs

def put (st : St) (d : Nat) (v : TV) (k : St → Prop) : Prop :=
  match st with | ⟨tm, hp, nx, ar, q, fr⟩ => k ⟨(d, v) :: tm, hp, nx, ar, q, fr⟩
def putC (st : St) (d : Nat) (v : Cell) (k : St → Prop) : Prop := put st d (.v (.c v)) k
def putD (st : St) (d : Option Nat) (v : TV) (k : St → Prop) : Prop :=
  match d with | some d => put st d v k | none => k st

def fgo : List Fun → Nat → List Tree → (Tree → List Tree → Prop) → Prop
  | [], _, _, _ => False
  | c :: cs, f, ts, k => match Nat.beq c.f f with | true => c.go ts k | false => fgo cs f ts k
def flend : List Fun → Nat → List Bool
  | [], _ => []
  | c :: cs, f => match Nat.beq c.f f with | true => c.lend | false => flend cs f

def apart (st : St) (m : List Bool) (vs : List TV) (k : Prop) : Prop :=
  match lends m vs with
  | [] => k
  | ls => match nodup (rwIds st (idVs st ls)) with
    | false => False
    | true => match disj (rwIds st (idVs st ls)) (idVs st (keeps m vs)) with | true => k | false => False
def shown (st : St) (m : List Bool) (vs : List TV) (r : Tree) (os : List Tree) (k : Prop) : Prop :=
  match roT r || roTs os with
  | false => k
  | true => match anyRw st (idVs st (keeps m vs)) with | false => k | true => False
def castF : (σ τ : FT) → List σ.Ty → (List τ.Ty → Prop) → Prop
  | .int j, .int k, xs, f => match ikEq j k with | true => f xs | false => False
  | .bool, .bool, xs, f => f xs
  | .str, .str, xs, f => f xs
  | .word, .word, xs, f => f xs
  | .inst, .inst, xs, f => f xs
  | .entry, .entry, xs, f => f xs
  | .pick, .pick, xs, f => f xs
  | .span, .span, xs, f => f xs
  | .seen, .seen, xs, f => f xs
  | _, _, _, _ => False
def castR : (σ τ : FT) → List (List σ.Ty) → (List (List τ.Ty) → Prop) → Prop
  | .int j, .int k, xs, f => match ikEq j k with | true => f xs | false => False
  | .bool, .bool, xs, f => f xs
  | _, _, _, _ => False
def asN (x : TV) (k : Tree → Prop) : Prop :=
  match x with
  | .v (.c (.int kd n)) => k (.v (.c (.int kd n)))
  | _ => False
def plain : List TV → (List Tree → Prop) → Prop
  | [], k => k []
  | x :: xs, k => asN x fun t => plain xs fun ts => k (t :: ts)
def plainR (r : Tree) (k : TV → Prop) : Prop :=
  match r with
  | .v (.c (.int kd n)) => k (.v (.c (.int kd n)))
  | _ => False
def callS (E : List Fun) (st : St) (d : Option Nat) (f : Nat) (b : Nat) (i : Option Nat) (rest : List TV) (k : St → Prop) : Prop :=
  match flend E f with
  | true :: m => match lends m rest with
    | [] => match st.hget b with
      | some (.rows true τ xss) => plain rest fun ts => match i with
        | some i => fgo E f (.v (.c (.ow τ (xss.getD i []))) :: ts) fun r os => match os with
          | [.v (.c (.ow σ ys))] => castF σ τ ys fun ys => chk (ys.length = (xss.getD i []).length) (md st b (setB st b (some (.rows true τ (xss.set i ys))) fun st => plainR r fun x => putD st d x k))
          | _ => False
        | none => fgo E f (.v (.c (.rows true τ xss)) :: ts) fun r os => match os with
          | [.v (.c (.rows true σ yss))] => md st b (setB st b (some (.rows true σ yss)) fun st => plainR r fun x => putD st d x k)
          | _ => False
      | _ => False
    | _ => False
  | _ => False
def callO (E : List Fun) (st : St) (d : Option Nat) (f : Nat) (vs : List TV) (k : St → Prop) : Prop :=
  apart st (flend E f) vs (trs st (flend E f) vs fun ts => fgo E f ts fun r os => shown st (flend E f) vs r os
    (kill (rwIds st (idVs st (lends (flend E f) vs))) st fun s1 => backs st s1 (lends (flend E f) vs) os fun s2 => itr s2 r fun s3 v => putD s3 d v k))

def callK (E : List Fun) (st : St) (d : Option Nat) (f : Nat) (vs : List TV) (k : St → Prop) : Prop :=
  match flend E f with
  | true :: _ => (match vs with
    | .v (.c (.rsl _ b i)) :: rest => callS E st d f b (some i) rest k
    | .v (.c (.sl _ _ b)) :: rest => (match st.hget b with
      | some (.rows true _ _) => callS E st d f b none rest k
      | _ => callO E st d f vs k)
    | _ => callO E st d f vs k)
  | _ => callO E st d f vs k

def parts (st : St) : List (Nat × Nat × Arg) → List Cell → (List Cell → Prop) → Prop
  | [], cs, k => k cs
  | (o, n, a) :: r, cs, k => asV (st.ev a) fun v => cells1 v fun vs => lenIs vs n (sp cs o vs fun cs => parts st r cs k)
def rows (st : St) (τ : FT) : List Arg → (List τ.Ty → Prop) → Prop
  | [], k => k []
  | a :: as, k => asV (st.ev a) fun v => cells1 v fun vs => τ.parse vs fun x => rows st τ as fun xs => k (x :: xs)

def asW (st : St) (τ : FT) (x : Cell) (k : Bool → Nat → Option Nat → List τ.Ty → Nat → Nat → Prop) : Prop :=
  match x with
  | .sl nn ς b => match ftEq ς τ with
    | true => (match st.hget b with
      | some (.flat true σ cap xs) => castF σ τ xs fun xs => k nn b cap xs 0 xs.length
      | _ => False)
    | false => False
  | .slp nn ς b off len => match ftEq ς τ with
    | true => (match st.hget b with
      | some (.flat true σ cap xs) => castF σ τ xs fun xs => k nn b cap xs off len
      | _ => False)
    | false => False
  | _ => False
def over {α : Type} (xs : List α) (p : Nat) (zs : List α) : List α := xs.take p ++ zs ++ xs.drop (p + zs.length)
def rowsC (st : St) : List Arg → (Nat → List Cell → Prop) → Prop
  | [], k => k 0 []
  | a :: as, k => asV (st.ev a) fun v => match v with
    | .c x => rowsC st as fun n xs => k (n + 1) (x :: xs)
    | .g _ => False

def loadK (st : St) (agg : Bool) (sz : Nat) (p : Cell) (k : V1 → Prop) : Prop :=
  match p with
  | .ptr b c => match st.hget b with
    | some (.box _ cs) => tk cs c sz fun cs => mk1 agg cs k
    | _ => False
  | .eptr σ b i c => match st.hget b with
    | some (.flat _ τ _ xs) => match ftEq σ τ with
      | true => chk (i < xs.length) (fL (τ.flat (xs.getD i τ.zero)) fun cs => tk cs c sz fun cs => mk1 agg cs k)
      | false => False
    | some (.rows _ τ xss) => match σ with
      | .str => match c with
        | 0 => match sz with
          | 1 => match agg with
            | false => chk (i < xss.length) (k (.c (.rsl τ b i)))
            | true => False
          | _ => False
        | _ + 1 => False
      | _ => False
    | _ => False
  | .rel σ b i j c => match st.hget b with
    | some (.rows _ τ xss) => match ftEq σ τ with
      | true => chk (j < (xss.getD i []).length) (fL (τ.flat ((xss.getD i []).getD j τ.zero)) fun cs => tk cs c sz fun cs => mk1 agg cs k)
      | false => False
    | _ => False
  | _ => False
def storeK (st : St) (p : Cell) (vs : List Cell) (k : St → Prop) : Prop :=
  match p with
  | .ptr b c => match st.hget b with
    | some (.box true cs) => md st b (sp cs c vs fun cs => setB st b (some (.box true cs)) k)
    | _ => False
  | .eptr σ b i c => match st.hget b with
    | some (.flat true τ cap xs) => match ftEq σ τ with
      | true => chk (i < xs.length) (md st b (fL (τ.flat (xs.getD i τ.zero)) fun cs => sp cs c vs fun cs => τ.parse cs fun x =>
          setB st b (some (.flat true τ cap (xs.set i x))) k))
      | false => False
    | _ => False
  | .rel σ b i j c => match st.hget b with
    | some (.rows true τ xss) => match ftEq σ τ with
      | true => chk (j < (xss.getD i []).length) (md st b (fL (τ.flat ((xss.getD i []).getD j τ.zero)) fun cs => sp cs c vs fun cs => τ.parse cs fun x =>
          setB st b (some (.rows true τ (xss.set i ((xss.getD i []).set j x)))) k))
      | false => False
    | _ => False
  | _ => False
def faK (off : Nat) (p : Cell) (k : Cell → Prop) : Prop :=
  match p with
  | .ptr b c => k (.ptr b (c + off))
  | .eptr τ b i c => k (.eptr τ b i (c + off))
  | .rel τ b i j c => k (.rel τ b i j (c + off))
  | _ => False
def iaK (st : St) (τ : FT) (x : Cell) (i : Int) (k : Cell → Prop) : Prop :=
  match x with
  | .sl _ σ b => match ftEq σ τ with
    | true => match st.hget b with
      | some (.flat _ _ _ xs) => chk (0 ≤ i ∧ i < (xs.length : Int)) (k (.eptr σ b i.toNat 0))
      | some (.rows _ _ xss) => chk (0 ≤ i ∧ i < (xss.length : Int)) (k (.eptr σ b i.toNat 0))
      | _ => False
    | false => False
  | .rsl σ b r => match ftEq σ τ with
    | true => match st.hget b with
      | some (.rows _ ς xss) => chk (0 ≤ i ∧ i < ((xss.getD r []).length : Int)) (k (.rel σ b r i.toNat 0))
      | _ => False
    | false => False
  | .slp _ σ b off len => match ftEq σ τ with
    | true => chk (0 ≤ i ∧ i < (len : Int)) (k (.eptr σ b (off + i.toNat) 0))
    | false => False
  | _ => False
def lenK (st : St) (str : Bool) (x : Cell) (k : Cell → Prop) : Prop :=
  match str with
  | true => match x with
    | .str s => k (.int .i64 (s.size : Int))
    | _ => False
  | false => match x with
    | .nils _ => k (.int .i64 0)
    | .sl _ _ b => match st.hget b with
      | some (.flat _ _ _ xs) => k (.int .i64 (xs.length : Int))
      | some (.rows _ _ xss) => k (.int .i64 (xss.length : Int))
      | _ => False
    | .rsl _ b i => match st.hget b with
      | some (.rows _ _ xss) => k (.int .i64 ((xss.getD i []).length : Int))
      | _ => False
    | .slp _ _ _ _ len => k (.int .i64 (len : Int))
    | _ => False
def condK (c : TV) (t f : Prop) : Prop :=
  match c with
  | .v (.c .tt) => t
  | .v (.c .ff) => f
  | .v (.c (.bool b)) => sel b t f
  | _ => False
def elems (st : St) (τ : FT) (x : Cell) (k : List τ.Ty → Prop) : Prop :=
  match x with
  | .nils _ => k []
  | .sl _ _ b => match st.hget b with
    | some (.flat _ σ _ xs) => castF σ τ xs k
    | _ => False
  | .slp _ ς b off len => match ftEq ς τ with
    | true => (match st.hget b with
      | some (.flat _ σ _ xs) => castF σ τ xs fun xs => k (win xs off len)
      | _ => False)
    | false => False
  | _ => False
def appK (st : St) (τ : FT) (x : Cell) (ys : List τ.Ty) (k : St → Cell → Prop) : Prop :=
  match x with
  | .nils _ => chk (ys.length ≤ 2147483647) (new st (.flat true τ none ys) fun st i => k st (.sl false τ i))
  | .sl nn _ b => match st.hget b with
    | some (.flat true σ _ xs) => castF σ τ xs fun xs =>
        chk (xs.length + ys.length ≤ 2147483647) (md st b (setB st b none fun st => new st (.flat true τ none (xs ++ ys)) fun st i => k st (.sl nn τ i)))
    | _ => False
  | .slp nn ς b off len => match ftEq ς τ with
    | true => (match st.hget b with
      | some (.flat true σ _ xs) => castF σ τ xs fun xs =>
          chk (len + ys.length ≤ 2147483647) (md st b (setB st b none fun st => new st (.flat true τ none (win xs off len ++ ys)) fun st i => k st (.sl nn τ i)))
      | _ => False)
    | false => False
  | _ => False
def appwK (st : St) (τ : FT) (x : Cell) (y : TV) (k : St → Cell → Prop) : Prop :=
  match y with
  | .rows r 0 1 => match st.hget r with
    | some (.box true [.sl _ _ m]) => match st.hget m with
      | some (.flat true σ _ ys) => castF σ τ ys fun ys => md st m (setB st m none fun st => match x with
        | .nils _ => new st (.rows true τ [ys]) fun st i => k st (.sl false .str i)
        | .sl nn _ b => match st.hget b with
          | some (.rows true ς xss) => match ftEq ς τ with
            | true => castR ς τ xss fun xss => chk (xss.length + 1 ≤ 2147483647) (md st b (setB st b none fun st => new st (.rows true τ (xss ++ [ys])) fun st i => k st (.sl nn .str i)))
            | false => False
          | _ => False
        | _ => False)
      | _ => False
    | _ => False
  | _ => False
def slcK (st : St) (τ : FT) (x : Cell) (lo hi : Option Int) (k : Cell → Prop) : Prop :=
  match x with
  | .sl nn σ b => match ftEq σ τ with
    | true => match st.hget b with
      | some (.flat _ _ _ xs) => cut nn σ b 0 xs.length
      | _ => False
    | false => False
  | .slp nn σ b off len => match ftEq σ τ with
    | true => cut nn σ b off len
    | false => False
  | _ => False
where cut (nn : Bool) (σ : FT) (b off len : Nat) : Prop :=
  match lo, hi with
  | some l, some h => chk (0 ≤ l ∧ l ≤ h ∧ h ≤ (len : Int)) (k (.slp nn σ b (off + l.toNat) (h - l).toNat))
  | some l, none => chk (0 ≤ l ∧ l ≤ (len : Int)) (k (.slp nn σ b (off + l.toNat) ((len : Int) - l).toNat))
  | none, some h => chk (0 ≤ h ∧ h ≤ (len : Int)) (k (.slp nn σ b off h.toNat))
  | none, none => k (.slp nn σ b off len)
def asI (st : St) (a : Option Arg) (k : Option Int → Prop) : Prop :=
  match a with
  | none => k none
  | some a => asC (st.ev a) fun x => match x with | .int _ n => k (some n) | _ => False
def nthV : List V1 → Nat → (V1 → Prop) → Prop
  | v :: _, 0, k => k v
  | _ :: vs, n + 1, k => nthV vs n k
  | [], _, _ => False
def caps : List TV → (List V1 → Prop) → Prop
  | [], k => k []
  | v :: vs, k => asV v fun v => caps vs fun vs => k (v :: vs)
def toTV : List V1 → List TV
  | [] => []
  | v :: vs => .v v :: toTV vs

def bytesI (s : ByteArray) : List Int := s.data.toList.map fun b => (b.toNat : Int)
def strI (xs : List Int) : ByteArray := ⟨(xs.map fun n => UInt8.ofNat n.toNat).toArray⟩
def insK (E : List Fun) (i : In) (st : St) (k : St → Prop) : Prop :=
  match i with
  | .mv d x => match st.ev x with
    | .v x => put st d (.v x) k
    | .tup x => put st d (.tup x) k
    | .fn f c => put st d (.fn f c) k
    | .rows b f n => put st d (.rows b f n) k
    | .unk => put st d .unk k
  | .pick d c a b => condK (st.ev c) (asV (st.ev a) fun v => put st d (.v v) k) (asV (st.ev b) fun v => put st d (.v v) k)
  | .alloc d z => new st (.box true z) fun st b => putC st d (.ptr b 0) k
  | .box d x => asV (st.ev x) fun v => cells1 v fun cs => new st (.box true cs) fun st b => putC st d (.ptr b 0) k
  | .build d z ps => parts st ps z fun cs => put st d (.v (.g cs)) k
  | .bsr d xs => rowsC st xs fun n cs => new st (.box true cs) fun st b => put st d (.rows b 0 n) k
  | .lenr d x => (match st.ev x with
    | .rows _ _ n => putC st d (.int .i64 (n : Int)) k
    | _ => False)
  | .iar d x i => (match st.ev x with
    | .rows b f n => asC (st.ev i) fun i => match i with
      | .int _ z => chk (0 ≤ z ∧ z < (n : Int)) (putC st d (.ptr b (f + z.toNat)) k)
      | _ => False
    | _ => False)
  | .slr d x i => (match st.ev x with
    | .rows b f n => asC (st.ev i) fun i => match i with
      | .int _ z => chk (0 ≤ z ∧ z < (n : Int)) (put st d (.rows b (f + z.toNat) (n - z.toNat)) k)
      | _ => False
    | _ => False)
  | .cpy d τ x y => asC (st.ev x) fun x => asC (st.ev y) fun y => elems st τ y fun ys => asW st τ x fun _ b cap xs off len =>
      md st b (setB st b (some (.flat true τ cap (over xs off (ys.take len)))) fun st => putD st d (.v (.c (.int .i64 ((min ys.length len : Nat) : Int)))) k)
  | .clr τ x => asC (st.ev x) fun x => asW st τ x fun _ b cap xs off len => md st b (setB st b (some (.flat true τ cap (over xs off (List.replicate len τ.zero)))) k)
  | .appi d τ x y => asC (st.ev x) fun x => asC (st.ev y) fun y => elems st τ y fun ys => asW st τ x fun nn b cap xs off len =>
      chk (off + len + ys.length ≤ xs.length) (md st b (setB st b (some (.flat true τ cap (over xs (off + len) ys))) fun st => putC st d (.slp nn τ b off (len + ys.length)) k))
  | .slcb d τ x lo hi => asC (st.ev x) fun x => asC (st.ev lo) fun lo => asC (st.ev hi) fun hi => match lo with
    | .int _ l => (match hi with
      | .int _ h => asW st τ x fun nn b _ xs off _ => chk (0 ≤ l ∧ l ≤ h ∧ h ≤ (xs.length : Int) - off) (putC st d (.slp nn τ b (off + l.toNat) (h - l).toNat) k)
      | _ => False)
    | _ => False
  | .slcu d τ x lo hi mx => asC (st.ev x) fun x => asC (st.ev lo) fun lo => asC (st.ev hi) fun hi => asC (st.ev mx) fun mx => match lo with
    | .int _ l => (match hi with
      | .int _ h => (match mx with
        | .int _ m => asW st τ x fun _ _ _ _ _ len => chk (0 ≤ l ∧ l ≤ h ∧ h ≤ m ∧ m ≤ (len : Int)) (put st d .unk k)
        | _ => False)
      | _ => False)
    | _ => False
  | .slc3 d τ x hi mx => asC (st.ev x) fun x => asC (st.ev hi) fun hi => asC (st.ev mx) fun mx => match hi with
    | .int _ h => (match mx with
      | .int _ m => asW st τ x fun nn b _ xs off len => chk (off = 0 ∧ len = xs.length ∧ h = (len : Int) ∧ m = (len : Int)) (md st b (setB st b none fun st => new st (.flat true τ none xs) fun st i => putC st d (.sl nn τ i) k))
      | _ => False)
    | _ => False
  | .no => False
  | .bs d τ xs => rows st τ xs fun xs => new st (.flat true τ none xs) fun st b => putC st d (.sl true τ b) k
  | .load d agg sz a => asC (st.ev a) fun p => loadK st agg sz p fun v => put st d (.v v) k
  | .store sz a x => asC (st.ev a) fun p => asV (st.ev x) fun v => cells1 v fun cs => lenIs cs sz (storeK st p cs k)
  | .bin d op x y => asC (st.ev x) fun x => asC (st.ev y) fun y => binK op x y fun z => putC st d z k
  | .eqs d agg sh neg x y => asV (st.ev x) fun x => aggIs agg x (cells1 x fun xs => asV (st.ev y) fun y => aggIs agg y (cells1 y fun ys => eqL sh xs ys fun b =>
      match neg with | true => putC st d (.bool (!b)) k | false => putC st d (.bool b) k))
  | .isnil d x => asC (st.ev x) fun x => match x with
    | .nils _ => putC st d .tt k
    | .sl nn _ _ => match nn with | true => putC st d .ff k | false => False
    | _ => False
  | .inil d x => asC (st.ev x) fun x => match x with
    | .nili => putC st d .ff k
    | .ife => putC st d .tt k
    | _ => False
  | .sidx d x i => asC (st.ev x) fun x => asC (st.ev i) fun i => match x with
    | .str s => (match i with
      | .int _ n => chk (0 ≤ n ∧ n < s.size) (putC st d (.int .u8 ((bytesI s).getD n.toNat 0)) k)
      | _ => False)
    | _ => False
  | .ssl d x lo hi => asC (st.ev x) fun x => match x with
    | .str s => (match lo with
      | none => (match hi with
        | none => False
        | some hi => asC (st.ev hi) fun hi => match hi with
          | .int _ m => chk (0 ≤ m ∧ m ≤ s.size) (putC st d (.str (s.extract 0 m.toNat)) k)
          | _ => False)
      | some lo => asC (st.ev lo) fun lo => match lo with
        | .int _ n => (match hi with
          | none => chk (0 ≤ n ∧ n ≤ s.size) (putC st d (.str (s.extract n.toNat s.size)) k)
          | some hi => asC (st.ev hi) fun hi => match hi with
            | .int _ m => chk (0 ≤ n ∧ n ≤ m ∧ m ≤ s.size) (putC st d (.str (s.extract n.toNat m.toNat)) k)
            | _ => False)
        | _ => False)
    | _ => False
  | .bnot d x => asC (st.ev x) fun x => match x with
    | .tt => putC st d .ff k | .ff => putC st d .tt k | .bool b => putC st d (.bool (!b)) k | _ => False
  | .conv d kd x => asC (st.ev x) fun x => match x with
    | .int _ n => putC st d (.int kd (kd.wrap n)) k
    | _ => False
  | .mkS d τ n => asC (st.ev n) fun n => match n with
    | .int _ n => chk (0 ≤ n ∧ n ≤ 2147483647) (new st (.flat true τ none (List.replicate n.toNat τ.zero)) fun st b => putC st d (.sl true τ b) k)
    | _ => False
  | .fa d x off => asC (st.ev x) fun p => faK off p fun p => putC st d p k
  | .fld d x off sz agg => match st.ev x with
    | .v (.g cs) => tk cs off sz fun cs => mk1 agg cs fun v => put st d (.v v) k
    | _ => False
  | .ia d τ x i => asC (st.ev x) fun x => asC (st.ev i) fun i => match i with
    | .int _ i => iaK st τ x i fun p => putC st d p k
    | _ => False
  | .ext d x i => match st.ev x with
    | .tup vs => nthV vs i fun v => put st d (.v v) k
    | _ => False
  | .call d f xs => evs st xs fun vs => callK E st d f vs k
  | .callv d f xs => match st.ev f with
    | .fn g cs => evs st xs fun vs => callK E st d g (vs ++ toTV cs) k
    | _ => False
  | .len d str x => asC (st.ev x) fun x => lenK st str x fun n => putC st d n k
  | .app d τ x y => asC (st.ev x) fun x => asC (st.ev y) fun y => elems st τ y fun ys => appK st τ x ys fun st c => putC st d c k
  | .slc d τ x lo hi => asC (st.ev x) fun x => asI st lo fun lo => asI st hi fun hi => slcK st τ x lo hi fun c => putC st d c k
  | .mkf d f cs => evs st cs fun vs => caps vs fun vs => put st d (.fn f vs) k
  | .mm d mx x y => asC (st.ev x) fun x => asC (st.ev y) fun y => match x with
    | .int kx a => match y with
      | .int ky b => match ikEq kx ky with
        | true => match mx with | true => putC st d (.int kx (max a b)) k | false => putC st d (.int kx (min a b)) k
        | false => False
      | _ => False
    | _ => False
  | .cat d x y => asC (st.ev x) fun x => asC (st.ev y) fun y => match x with
    | .str a => match y with
      | .str b => chk (a.size + b.size ≤ 9223372036854775807) (putC st d (.str (a ++ b)) k)
      | _ => False
    | _ => False
  | .s2b d x => asC (st.ev x) fun x => match x with
    | .str s => new st (.flat true (.int .u8) none (bytesI s)) fun st i => putC st d (.sl true (.int .u8) i) k
    | _ => False
  | .b2s d x => asC (st.ev x) fun x => elems st (.int .u8) x fun ys => putC st d (.str (strI ys)) k
  | .nchk d x => asC (st.ev x) fun x => match x with
    | .ptr b c => putC st d (.ptr b c) k
    | .eptr τ b i c => putC st d (.eptr τ b i c) k
    | _ => False
  | .stri d x => asC (st.ev x) fun x => match x with
    | .sl nn σ b => match st.hget b with
      | some (.flat true τ cap xs) => match ftEq σ τ with
        | true => match ftEq τ (.int .u8) with
          | true => chk (0 < xs.length) (md st b (setB st b (some (.flat true τ cap xs)) fun st => putC st d (.sl nn τ b) k))
          | false => False
        | false => False
      | _ => False
    | _ => False
  | .cap d x => asC (st.ev x) fun x => match x with
    | .nils _ => putC st d (.int .i64 0) k
    | _ => False
  | .slcz d τ x n => asC (st.ev x) fun x => asC (st.ev n) fun n => match x with
    | .nils _ => match n with
      | .int _ n => chk (n = 0) (putC st d (.nils τ) k)
      | _ => False
    | _ => False
  | .appz d τ x n => asC (st.ev x) fun x => asC (st.ev n) fun n => match x with
    | .nils _ => match n with
      | .int _ n => chk (0 < n ∧ n ≤ 2147483647) (new st (.flat true τ none (List.replicate n.toNat τ.zero)) fun st b => putC st d (.sl false τ b) k)
      | _ => False
    | _ => False
  | .bsw d τ => new st (.rows true τ []) fun st b => putC st d (.sl true .str b) k
  | .appw d τ x y => asC (st.ev x) fun x => appwK st τ x (st.ev y) fun st c => putC st d c k

def stepK (E : List Fun) (s : Step) (st : St) (k : St → Prop) : Prop :=
  match s with
  | .s i => insK E i st k
  | .g t w d i => match st.ev (.t t) with
    | .v (.c .tt) => match w with | true => insK E i st k | false => putD st d (.tup []) k
    | .v (.c .ff) => match w with | false => insK E i st k | true => putD st d (.tup []) k
    | .v (.c (.bool b)) => match w with
      | true => sel b (putC st t .tt fun st => insK E i st k) (putC st t .ff fun st => putD st d (.tup []) k)
      | false => sel b (putC st t .tt fun st => putD st d (.tup []) k) (putC st t .ff fun st => insK E i st k)
    | .tup [] => putD st d (.tup []) k
    | _ => False
def stepsK (E : List Fun) : List Step → St → (St → Prop) → Prop
  | [], st, k => k st
  | s :: ss, st, k => stepK E s st fun st => stepsK E ss st k

def refC : Cell → Option Nat
  | .ptr b _ => some b | .eptr _ b _ _ => some b | .sl _ _ b => some b | .slp _ _ b _ _ => some b | .rsl _ b _ => some b | .rel _ b _ _ _ => some b | _ => none
def cellsV1 : V1 → List Cell
  | .c x => [x] | .g cs => cs
def cellsV1s : List V1 → List Cell
  | [] => [] | v :: vs => cellsV1 v ++ cellsV1s vs
def cellsV : TV → List Cell
  | .v x => cellsV1 x | .tup xs => cellsV1s xs | .fn _ xs => cellsV1s xs | .rows b _ _ => [.ptr b 0] | .unk => []
def cellsVs : List TV → List Cell
  | [] => [] | v :: vs => cellsV v ++ cellsVs vs
def liveCells (tm : List (Nat × TV)) : List Nat → List Cell
  | [] => []
  | l :: ls => match aget tm l with | some v => cellsV v ++ liveCells tm ls | none => liveCells tm ls
def reach (hp : List (Nat × Option Blk)) : Nat → List Cell → List (Nat × Nat) → List Nat → (List (Nat × Nat) → List Nat → Prop) → Prop
  | 0, _, _, _, _ => False
  | _ + 1, [], ac, ns, k => k ac ns
  | n + 1, c :: cs, ac, ns, k => match refC c with
    | none => reach hp n cs ac ns k
    | some b => match aget ac b with
      | some _ => reach hp n cs ac ns k
      | none => match ns with
        | [] => False
        | j :: ns => match aget hp b with
          | some (some (.box _ ds)) => reach hp n (ds ++ cs) ((b, j) :: ac) ns k
          | _ => reach hp n cs ((b, j) :: ac) ns k
def renC (ac : List (Nat × Nat)) (c : Cell) (k : Cell → Prop) : Prop :=
  match c with
  | .ptr b c => match aget ac b with | some b => k (.ptr b c) | none => False
  | .eptr τ b i c => match aget ac b with | some b => k (.eptr τ b i c) | none => False
  | .sl nn τ b => match aget ac b with | some b => k (.sl nn τ b) | none => False
  | .slp nn τ b o l => match aget ac b with | some b => k (.slp nn τ b o l) | none => False
  | .rsl τ b i => match aget ac b with | some b => k (.rsl τ b i) | none => False
  | .rel τ b i j c => match aget ac b with | some b => k (.rel τ b i j c) | none => False
  | c => k c
def renL (ac : List (Nat × Nat)) : List Cell → (List Cell → Prop) → Prop
  | [], k => k []
  | c :: cs, k => renC ac c fun c => renL ac cs fun cs => k (c :: cs)
def ren1 (ac : List (Nat × Nat)) (v : V1) (k : V1 → Prop) : Prop :=
  match v with
  | .c x => renC ac x fun x => k (.c x)
  | .g cs => renL ac cs fun cs => k (.g cs)
def ren1s (ac : List (Nat × Nat)) : List V1 → (List V1 → Prop) → Prop
  | [], k => k []
  | v :: vs, k => ren1 ac v fun v => ren1s ac vs fun vs => k (v :: vs)
def renV (ac : List (Nat × Nat)) (v : TV) (k : TV → Prop) : Prop :=
  match v with
  | .v x => ren1 ac x fun x => k (.v x)
  | .tup x => ren1s ac x fun x => k (.tup x)
  | .fn f x => ren1s ac x fun x => k (.fn f x)
  | .rows b f n => (match aget ac b with | some b => k (.rows b f n) | none => False)
  | .unk => k .unk
def renVs (ac : List (Nat × Nat)) : List TV → (List TV → Prop) → Prop
  | [], k => k []
  | v :: vs, k => renV ac v fun v => renVs ac vs fun vs => k (v :: vs)
def renT (ac : List (Nat × Nat)) (tm : List (Nat × TV)) : List Nat → (List (Nat × TV) → Prop) → Prop
  | [], k => k []
  | l :: ls, k => match aget tm l with
    | some v => renV ac v fun v => renT ac tm ls fun r => k ((l, v) :: r)
    | none => renT ac tm ls k
def renH (ac : List (Nat × Nat)) (hp : List (Nat × Option Blk)) : List (Nat × Nat) → (List (Nat × Option Blk) → Prop) → Prop
  | [], k => k []
  | (b, j) :: bs, k => match aget hp b with
    | some (some (.box rw cs)) => renL ac cs fun cs => renH ac hp bs fun r => k ((j, some (.box rw cs)) :: r)
    | some (some (.flat rw τ cap xs)) => renH ac hp bs fun r => k ((j, some (.flat rw τ cap xs)) :: r)
    | some (some (.rows rw τ xss)) => renH ac hp bs fun r => k ((j, some (.rows rw τ xss)) :: r)
    | _ => renH ac hp bs k
def numsC : List Nat := 80 :: 81 :: 82 :: 83 :: 84 :: 85 :: 86 :: 87 :: 88 :: 89 :: 90 :: 91 :: 92 :: 93 :: 94 :: 95 :: 96 :: 97 :: 98 :: 99 :: 100 :: 101 :: 102 :: 103 :: 104 :: 105 :: 106 :: 107 :: 108 :: 109 :: 110 :: 111 :: 112 :: 113 :: 114 :: 115 :: 116 :: 117 :: 118 :: 119 :: []
def numsB : List Nat := 40 :: 41 :: 42 :: 43 :: 44 :: 45 :: 46 :: 47 :: 48 :: 49 :: 50 :: 51 :: 52 :: 53 :: 54 :: 55 :: 56 :: 57 :: 58 :: 59 :: 60 :: 61 :: 62 :: 63 :: 64 :: 65 :: 66 :: 67 :: 68 :: 69 :: 70 :: 71 :: 72 :: 73 :: 74 :: 75 :: 76 :: 77 :: 78 :: 79 :: numsC
def nums : List Nat := 0 :: 1 :: 2 :: 3 :: 4 :: 5 :: 6 :: 7 :: 8 :: 9 :: 10 :: 11 :: 12 :: 13 :: 14 :: 15 :: 16 :: 17 :: 18 :: 19 :: 20 :: 21 :: 22 :: 23 :: 24 :: 25 :: 26 :: 27 :: 28 :: 29 :: 30 :: 31 :: 32 :: 33 :: 34 :: 35 :: 36 :: 37 :: 38 :: 39 :: numsB
def norm (L : List Nat) (st : St) (k : St → Prop) : Prop :=
  match st with
  | ⟨tm, hp, _, ar, _, _⟩ => reach hp 300 (cellsVs ar ++ liveCells tm L) [] nums fun ac ns =>
    renVs ac ar fun ar => renT ac tm L fun tm' => renH ac hp ac fun hp' => k ⟨tm', hp', ns, ar, false, []⟩

def nthS : List Step → Nat → (Step → Prop) → Prop
  | s :: _, 0, k => k s
  | _ :: ss, n + 1, k => nthS ss n k
  | [], _, _ => False
def quiet (q : Bool) (st : St) (k : St → Prop) : Prop :=
  match st with | ⟨tm, hp, nx, ar, _, fr⟩ => k ⟨tm, hp, nx, ar, q, fr⟩
def stretch (O : List Nat) (st : St) (k : St → Prop) : Prop :=
  match st with | ⟨tm, hp, nx, ar, _, _⟩ => k ⟨tm, hp, nx, ar, true, O⟩
def fN : List Nat → (List Nat → Prop) → Prop
  | [], k => k []
  | x :: xs, k => fN xs fun ys => k (x :: ys)
def far (O : List Nat) (p : Cell) (k : Prop) : Prop :=
  match p with
  | .ptr b _ => (match mem b O with | true => False | false => k)
  | .eptr _ b _ _ => (match mem b O with | true => False | false => k)
  | .rel _ b _ _ _ => (match mem b O with | true => False | false => k)
  | _ => k
def openIds (st : St) : List Nat → List Nat
  | [] => []
  | t :: ts => rwIds st (idV st (st.ev (.t t))) ++ openIds st ts
def pureI : In → Bool
  | .mv _ _ | .pick _ _ _ _ | .build _ _ _ | .bin _ _ _ _ | .eqs _ _ _ _ _ _ | .isnil _ _ | .bnot _ _ | .conv _ _ _ | .fa _ _ _ | .fld _ _ _ _ _ | .ia _ _ _ _
  | .ext _ _ _ | .len _ _ _ | .slc _ _ _ _ _ | .mkf _ _ _ | .mm _ _ _ _ | .cat _ _ _ | .nchk _ _ | .lenr _ _ | .iar _ _ _ | .slr _ _ _ | .inil _ _ | .sidx _ _ _ | .ssl _ _ _ _ => true
  | _ => false
def farS (O : List Nat) (p : Cell) (k : Prop) : Prop :=
  match p with
  | .sl _ _ b => (match mem b O with | true => False | false => k)
  | .slp _ _ b _ _ => (match mem b O with | true => False | false => k)
  | .rsl _ b _ => (match mem b O with | true => False | false => k)
  | _ => k
def takeI (O : List Nat) (h0 : List (Nat × Option Blk)) (i : In) (st : St) (k : St → Prop) : Prop :=
  match i with
  | .load d agg sz a => asC (st.ev a) fun p => far O p (loadK ⟨[], h0, [], [], false, []⟩ agg sz p fun v => put st d (.v v) k)
  | .b2s d x => asC (st.ev x) fun p => farS O p (elems ⟨[], h0, [], [], false, []⟩ (.int .u8) p fun ys => putC st d (.str (strI ys)) k)
  | i => match pureI i with | true => insK [] i st k | false => False
def takeK (O : List Nat) (h0 : List (Nat × Option Blk)) (s : Step) (st : St) (k : St → Prop) : Prop :=
  match s with
  | .s i => takeI O h0 i st k
  | .g t w d i => match st.ev (.t t) with
    | .v (.c .tt) => match w with | true => takeI O h0 i st k | false => putD st d (.tup []) k
    | .v (.c .ff) => match w with | false => takeI O h0 i st k | true => putD st d (.tup []) k
    | .v (.c (.bool b)) => match w with
      | true => sel b (putC st t .tt fun st => takeI O h0 i st k) (putC st t .ff fun st => putD st d (.tup []) k)
      | false => sel b (putC st t .tt fun st => putD st d (.tup []) k) (putC st t .ff fun st => takeI O h0 i st k)
    | .tup [] => putD st d (.tup []) k
    | _ => False
mutual
def rtK (E : List Fun) (ss : List Step) (O : List Nat) (h0 : List (Nat × Option Blk)) : RT → St → (St → Prop) → Prop
  | .done none, st, k => quiet false st k
  | .done (some L), st, k => norm L st k
  | .nil, _, _ => False
  | .tk i r, st, k => nthS ss i fun s => takeK O h0 s st fun st => rtK E ss O h0 r st k
  | .one i true r, st, k => nthS ss i fun s => quiet false st fun st => stepK E s st fun st => stretch O st fun st => match st with
    | ⟨tm, hp, nx, ar, q, fr⟩ => rtK E ss O hp r ⟨tm, hp, nx, ar, q, fr⟩ k
  | .one i false r, st, k => nthS ss i fun s => stepK E s st fun st => rtK E ss O h0 r st k
  | .alt i true r more, st, k => nthS ss i fun s => quiet false st fun st0 => stepK E s st0 fun st1 => stretch O st1 fun st1 => match st1 with
    | ⟨tm, hp, nx, ar, q, fr⟩ => rtK E ss O hp r ⟨tm, hp, nx, ar, q, fr⟩ fun st2 => rtAll E ss O h0 more st st2 ∧ k st2
  | .alt i false r more, st, k => nthS ss i fun s => stepK E s st fun st1 => rtK E ss O h0 r st1 fun st2 => rtAll E ss O h0 more st st2 ∧ k st2
  | .any i true r more, st, k => (nthS ss i fun s => quiet false st fun st0 => stepK E s st0 fun st1 => stretch O st1 fun st1 => match st1 with
    | ⟨tm, hp, nx, ar, q, fr⟩ => rtK E ss O hp r ⟨tm, hp, nx, ar, q, fr⟩ k) ∧ rtAny E ss O h0 more st k
  | .any i false r more, st, k => (nthS ss i fun s => stepK E s st fun st1 => rtK E ss O h0 r st1 k) ∧ rtAny E ss O h0 more st k
  | .fin r, st, k => ∃ F : St → Prop, rtK E ss O h0 r st F ∧ ∀ st, F st → k st
def rtAll (E : List Fun) (ss : List Step) (O : List Nat) (h0 : List (Nat × Option Blk)) : RT → St → St → Prop
  | .alt i true r more, st, st2 => (nthS ss i fun s => quiet false st fun st0 => stepK E s st0 fun st1 => stretch O st1 fun st1 => match st1 with
    | ⟨tm, hp, nx, ar, q, fr⟩ => rtK E ss O hp r ⟨tm, hp, nx, ar, q, fr⟩ fun st3 => st3 = st2) ∧ rtAll E ss O h0 more st st2
  | .alt i false r more, st, st2 => (nthS ss i fun s => stepK E s st fun st1 => rtK E ss O h0 r st1 fun st3 => st3 = st2) ∧ rtAll E ss O h0 more st st2
  | _, _, _ => True
def rtAny (E : List Fun) (ss : List Step) (O : List Nat) (h0 : List (Nat × Option Blk)) : RT → St → (St → Prop) → Prop
  | .any i true r more, st, k => (nthS ss i fun s => quiet false st fun st0 => stepK E s st0 fun st1 => stretch O st1 fun st1 => match st1 with
    | ⟨tm, hp, nx, ar, q, fr⟩ => rtK E ss O hp r ⟨tm, hp, nx, ar, q, fr⟩ k) ∧ rtAny E ss O h0 more st k
  | .any i false r more, st, k => (nthS ss i fun s => stepK E s st fun st1 => rtK E ss O h0 r st1 k) ∧ rtAny E ss O h0 more st k
  | _, _, _ => True
end

def kseq (f : St → Prop) (k : Ex → St → Prop) : Ex → St → Prop
  | .normal, st => f st
  | .exit j, st => k (.exit j) st
  | .ret, st => k .ret st
def kblk (id : Nat) (k : Ex → St → Prop) : Ex → St → Prop
  | .normal, st => k .normal st
  | .exit j, st => match Nat.beq j id with | true => k .normal st | false => k (.exit j) st
  | .ret, st => k .ret st
def iterN (body : St → (Ex → St → Prop) → Prop) (L : List Nat) : Nat → St → (Ex → St → Prop) → Prop
  | 0, _, _ => False
  | n + 1, st, k => body st (kseq (fun st => norm L st fun st => iterN body L n st k) k)
def execK (E : List Fun) (fuel : Nat) : PC → St → (Ex → St → Prop) → Prop
  | .skip, st, k => k .normal st
  | .reg ss, st, k => stepsK E ss st fun st => k .normal st
  | .rgd A ss r, st, k => fN (openIds st A) fun O => stretch O st fun st => match st with
    | ⟨tm, hp, nx, ar, q, fr⟩ => rtK E ss O hp r ⟨tm, hp, nx, ar, q, fr⟩ fun st => k .normal st
  | .seq a b, st, k => execK E fuel a st (kseq (fun st => execK E fuel b st k) k)
  | .cond c a b, st, k => condK (st.ev c) (execK E fuel a st k) (execK E fuel b st k)
  | .blk id b, st, k => execK E fuel b st (kblk id k)
  | .loop L b, st, k => norm L st fun st => iterN (execK E fuel b) L fuel st k
  | .exit id, st, k => k (.exit id) st
  | .ret, st, k => k .ret st

def resV (st : St) (r : RV) (k : V1 → Prop) : Prop :=
  match r with
  | .t n => asV (st.ev (.t n)) k
  | .c n agg sz => asC (st.ev (.t n)) fun p => loadK st agg sz p k
def resVs (st : St) : List RV → (List V1 → Prop) → Prop
  | [], k => k []
  | r :: rs, k => resV st r fun v => resVs st rs fun vs => k (v :: vs)
def ress (st : St) (rs : List RV) (k : TV → Prop) : Prop :=
  resVs st rs fun vs => match vs with
    | [v] => k (.v v)
    | vs => k (.tup vs)
def outs (st : St) : List TV → (List Tree → Prop) → Prop
  | [], k => k []
  | v :: vs, k => tr true st v fun x => outs st vs fun xs => k (x :: xs)
def kret (pf : PF) (k : Tree → List Tree → Prop) (e : Ex) (st : St) : Prop :=
  match e with
  | .exit _ => False
  | _ => ress st pf.res fun v => match nodup (rwIds st (idV st v)) with
    | true => tr true st v fun r => kill (rwIds st (idV st v)) st fun s => match nodup (rwIds s (idVs s s.ar)) with
      | true => outs s s.ar fun os => k r os
      | false => False
    | false => False
def zipT : List Nat → List TV → (List (Nat × TV) → Prop) → Prop
  | _, [], k => k []
  | i :: is, v :: vs, k => zipT is vs fun r => k ((i, v) :: r)
  | [], _ :: _, _ => False
def runK (E : List Fun) (fuel : Nat) (lend : List Bool) (pf : PF) (ain : List Tree) (k : Tree → List Tree → Prop) : Prop :=
  itrs ⟨[], [], nums, [], false, []⟩ ain fun st vs => match st with
    | ⟨_, hp, nx, _, _, _⟩ => zipT nums vs fun tm => execK E fuel pf.body ⟨tm, hp, nx, lends lend vs, false, []⟩ (kret pf k)
end Go.Pi
