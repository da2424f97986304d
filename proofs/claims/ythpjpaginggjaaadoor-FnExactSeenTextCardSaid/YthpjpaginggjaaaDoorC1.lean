/- Contracts of functions, each out of its run by PI. No conditions. -/
import Derived.Test.YthpjpaginggjaaaDoorPiFn
import Derived.KernelRfl
import Derived.ProofKit
import Derived.Test.YthpjpaginggjaaaDoorRows
import Derived.Test.YthpjpaginggjaaaDoorPiDoor
import Derived.Test.YthpjpaginggjaaaDoorShelf
namespace Go.Pi
open Go.Proofs
set_option linter.unusedVariables false
set_option linter.unusedSimpArgs false
set_option maxRecDepth 100000
attribute [local irreducible] iterN
theorem mixd : Tryd.prog.follows .mixedOrders = true := by kernel_rfl

def pf_laws_toCost : PF := ⟨[.c 2 true 5], .seq (.reg [.s (.box 1 (.t 0)), .s (.alloc 2 [.int .i64 0, .int .i64 0, .int .i64 0, .int .i64 0, .int .i64 0])]) (.seq (.reg [.s (.alloc 3 [.int .i64 0, .int .i64 0, .int .i64 0, .int .i64 0, .int .i64 0])]) (.seq (.reg [.s (.fa 4 (.t 1) 0), .s (.load 5 false 1 (.t 4)), .s (.fa 6 (.t 3) 0), .s (.store 1 (.t 6) (.t 5))]) (.seq (.reg [.s (.fa 7 (.t 1) 1), .s (.load 8 false 1 (.t 7)), .s (.fa 9 (.t 3) 1), .s (.store 1 (.t 9) (.t 8))]) (.seq (.reg [.s (.fa 10 (.t 1) 2), .s (.load 11 false 1 (.t 10)), .s (.fa 12 (.t 3) 2), .s (.store 1 (.t 12) (.t 11))]) (.seq (.reg [.s (.fa 13 (.t 1) 3), .s (.load 14 false 1 (.t 13)), .s (.fa 15 (.t 3) 3), .s (.store 1 (.t 15) (.t 14))]) (.seq (.reg [.s (.fa 16 (.t 1) 4), .s (.load 17 false 1 (.t 16)), .s (.fa 18 (.t 3) 4), .s (.store 1 (.t 18) (.t 17))]) (.seq (.reg [.s (.load 19 true 5 (.t 3)), .s (.store 5 (.t 2) (.t 19))]) (.ret))))))))⟩
def c_laws_toCost : Fun := ⟨6, [], fun ts K => as1 ts fun t0 => arG pCostT t0 fun a => K (tG (a.tc [])) []⟩
theorem run_laws_toCost (a : Cost) : runK [] (0) [] pf_laws_toCost [tG (a.tc [])] fun r o => r = tG (a.tc []) ∧ o = [] := by
  conv => whnf
  repeat' (first
    | exact rfl
    | exact trivial
    | (refine sel_i (fun h => ?_) (fun h => ?_) <;> conv => whnf)
    | (refine chk_c ?_ ?_ <;> conv => whnf)
    | (refine And.intro ?_ ?_ <;> conv => whnf))
theorem ok_laws_toCost : FunOk Tryd.prog c_laws_toCost := funOk (E := []) (envOk_nil) mixd Tryd.func6 (pf := pf_laws_toCost) (by kernel_rfl) fun ts K h => by
  obtain ⟨t0, e0, h⟩ := as1_out h
  subst e0
  obtain ⟨a, e1, hq⟩ := arG_out rd_cost h
  clear h
  subst e1
  have h := hq
  clear hq
  exact ⟨_, _, h, Nat.le_of_ble_eq_true (show Nat.ble 1 Tryd.f6.ntmps = true by kernel_rfl), _, run_laws_toCost a⟩

def inR (n lo hi : Int) : Bool := decide (lo ≤ n) && decide (n ≤ hi)

def pf_impl_in : PF := ⟨[.t 6], .seq (.reg [.s (.mv 6 (.k (.v (.c .ff))))]) (.seq (.reg [.s (.mv 7 (.t 0)), .s (.mv 8 (.t 1)), .s (.bin 9 .geq (.t 7) (.t 8)), .s (.mv 10 (.t 9)), .g 10 true (some 11) (.mv 11 (.t 0)), .g 10 true (some 12) (.mv 12 (.t 2)), .g 10 true (some 13) (.bin 13 .leq (.t 11) (.t 12)), .s (.pick 14 (.t 10) (.t 13) (.k (.v (.c .ff)))), .s (.mv 6 (.t 14))]) (.ret))⟩
def c_impl_in : Fun := ⟨19, [], fun ts K => as3 ts fun t0 t1 t2 => arC (pI .i64) t0 fun n => arC (pI .i64) t1 fun lo => arC (pI .i64) t2 fun hi => K (tB (inR n lo hi)) []⟩
theorem run_impl_in (n : Int) (lo : Int) (hi : Int) : runK [] (0) [] pf_impl_in [tI .i64 n, tI .i64 lo, tI .i64 hi] fun r o => r = tB (inR n lo hi) ∧ o = [] := by
  conv => whnf
  refine sel_i (fun h => ?_) (fun h => ?_) <;> conv => whnf
  all_goals (refine ⟨?_, rfl⟩; simp at h; simp [inR] <;> omega)
theorem ok_impl_in : FunOk Tryd.prog c_impl_in := funOk (E := []) (envOk_nil) mixd Tryd.func19 (pf := pf_impl_in) (by kernel_rfl) fun ts K h => by
  obtain ⟨t0, t1, t2, e0, h⟩ := as3_out h
  subst e0
  obtain ⟨n, e1, hq⟩ := arC_out (rd_int .i64) h
  clear h
  subst e1
  have h := hq
  clear hq
  obtain ⟨lo, e1, hq⟩ := arC_out (rd_int .i64) h
  clear h
  subst e1
  have h := hq
  clear hq
  obtain ⟨hi, e1, hq⟩ := arC_out (rd_int .i64) h
  clear h
  subst e1
  have h := hq
  clear hq
  exact ⟨_, _, h, Nat.le_of_ble_eq_true (show Nat.ble 3 Tryd.f19.ntmps = true by kernel_rfl), _, run_impl_in n lo hi⟩

def pf_spec_l1In : PF := ⟨[.t 6], .seq (.reg [.s (.mv 6 (.k (.v (.c .ff))))]) (.seq (.reg [.s (.mv 7 (.t 0)), .s (.mv 8 (.t 1)), .s (.bin 9 .geq (.t 7) (.t 8)), .s (.mv 10 (.t 9)), .g 10 true (some 11) (.mv 11 (.t 0)), .g 10 true (some 12) (.mv 12 (.t 2)), .g 10 true (some 13) (.bin 13 .leq (.t 11) (.t 12)), .s (.pick 14 (.t 10) (.t 13) (.k (.v (.c .ff)))), .s (.mv 6 (.t 14))]) (.ret))⟩
def c_spec_l1In : Fun := ⟨18, [], fun ts K => as3 ts fun t0 t1 t2 => arC (pI .i64) t0 fun n => arC (pI .i64) t1 fun lo => arC (pI .i64) t2 fun hi => K (tB (inR n lo hi)) []⟩
theorem run_spec_l1In (n : Int) (lo : Int) (hi : Int) : runK [] (0) [] pf_spec_l1In [tI .i64 n, tI .i64 lo, tI .i64 hi] fun r o => r = tB (inR n lo hi) ∧ o = [] := by
  conv => whnf
  refine sel_i (fun h => ?_) (fun h => ?_) <;> conv => whnf
  all_goals (refine ⟨?_, rfl⟩; simp at h; simp [inR] <;> omega)
theorem ok_spec_l1In : FunOk Tryd.prog c_spec_l1In := funOk (E := []) (envOk_nil) mixd Tryd.func18 (pf := pf_spec_l1In) (by kernel_rfl) fun ts K h => by
  obtain ⟨t0, t1, t2, e0, h⟩ := as3_out h
  subst e0
  obtain ⟨n, e1, hq⟩ := arC_out (rd_int .i64) h
  clear h
  subst e1
  have h := hq
  clear hq
  obtain ⟨lo, e1, hq⟩ := arC_out (rd_int .i64) h
  clear h
  subst e1
  have h := hq
  clear hq
  obtain ⟨hi, e1, hq⟩ := arC_out (rd_int .i64) h
  clear h
  subst e1
  have h := hq
  clear hq
  exact ⟨_, _, h, Nat.le_of_ble_eq_true (show Nat.ble 3 Tryd.f18.ntmps = true by kernel_rfl), _, run_spec_l1In n lo hi⟩



def LMem (m : Mem) (n : Nat) : Prop := m.words.length ≤ n ∧ m.gone.length ≤ n
def sideState (t : Two) (who : Int) : State :=
  if who = 0 then ⟨t.a.regs, t.a.pc, t.mem, t.a.trap⟩ else if who = 1 then ⟨t.b.regs, t.b.pc, t.mem, t.b.trap⟩ else ⟨[], ⟨0, false, ⟨0, 0, 0, 0⟩⟩, ⟨[], []⟩, 0⟩

def LState (s : State) (n : Nat) : Prop := s.regs.length ≤ n ∧ LMem s.mem n


def boundsOk (b t : Int) : Bool := decide (0 ≤ b) && decide (b ≤ t) && decide (t ≤ 4096)

def packB (b : Int) (e : Nat) : Int := b / 2 ^ e
def packL (b t : Int) (e : Nat) : Int := (t - b / 2 ^ e * 2 ^ e + 2 ^ e - 1) / 2 ^ e
theorem e_cases {e : Nat} (he : e ≤ 6) : e = 0 ∨ e = 1 ∨ e = 2 ∨ e = 3 ∨ e = 4 ∨ e = 5 ∨ e = 6 := by omega
def packOk (b t : Int) (e : Nat) : Bool := decide (packB b e ≤ 63) && decide (packL b t e ≤ 63)
def packGo (b t : Int) : Nat → Nat → Option Packed
  | 0, _ => none
  | n + 1, e => if packOk b t e then some ⟨e, packB b e, packL b t e⟩ else packGo b t n (e + 1)
def pack (b t : Int) : Option Packed := if boundsOk b t then packGo b t 7 0 else none
theorem pack_yes {b t : Int} (h : boundsOk b t = true) : pack b t = packGo b t 7 0 := by simp [pack, h]
theorem packGo_t {b t : Int} {n e : Nat} (h : packOk b t e = true) : packGo b t (n + 1) e = some ⟨e, packB b e, packL b t e⟩ := by simp [packGo, h]
theorem packGo_f {b t : Int} {n e : Nat} (h : packOk b t e = false) : packGo b t (n + 1) e = packGo b t n (e + 1) := by simp [packGo, h]
theorem bounds_n {b t : Int} (h : boundsOk b t = true) : 0 ≤ b ∧ b ≤ t ∧ t ≤ 4096 := by simp [boundsOk] at h; omega

def unpackOk (p : Packed) : Bool := inR p.e 0 6 && inR p.b 0 63 && inR p.l 0 63
def unpack (p : Packed) : Int × Int × Bool := if unpackOk p then (p.b * 2 ^ p.e.toNat, min 4096 ((p.b + p.l) * 2 ^ p.e.toNat), true) else (0, 0, false)
theorem unpack_yes {p : Packed} (h : unpackOk p = true) : unpack p = (p.b * 2 ^ p.e.toNat, min 4096 ((p.b + p.l) * 2 ^ p.e.toNat), true) := by simp [unpack, h]

def wide (b t : Int) : Int × Int := if boundsOk b t then (if (pack b t).isSome then ((unpack ((pack b t).getD ⟨0, 0, 0⟩)).1, (unpack ((pack b t).getD ⟨0, 0, 0⟩)).2.1) else (0, 4096)) else (0, 0)
def exact_ (b t : Int) : Bool := boundsOk b t && decide ((wide b t).1 = b) && decide ((wide b t).2 = t)
def keyOk (k : Key) : Bool := exact_ k.base k.top && inR k.perms 0 63 && inR k.sealed 0 7
def wordOk (w : Word) : Bool := inR w.n 0 65535 && (if w.is then keyOk w.key else decide (w.key = ⟨0, 0, 0, 0⟩))

def memoryOk (m : Mem) : Bool := decide (m.words.length = 24) && decide (m.gone.length = 24) && m.words.all wordOk
def stateOk (s : State) : Bool := decide (s.regs.length = 8) && s.regs.all wordOk && wordOk s.pc && memoryOk s.mem && inR s.trap 0 5

def twoOk (t : Two) : Bool := stateOk (sideState t 0) && stateOk (sideState t 1)

def andI (a b : Int) : Int := IntKind.i64.wrap (BitVec.ofInt IntKind.i64.bits a &&& BitVec.ofInt IntKind.i64.bits b).toNat
abbrev w0 : Word := ⟨0, false, ⟨0, 0, 0, 0⟩⟩
def hasKey (l : List Word) (k : Key) : Bool := l.any (fun x => decide (x.key = k))
def putW (out : List Word) (w : Word) : List Word := if w.is && wordOk w && !hasKey out w.key then out ++ [w] else out
def scan (ws : List Word) : Nat → Nat → List Word → List Word
  | 0, _, out => out
  | n + 1, c, out => scan ws n (c + 1) (putW out (ws.getD c (FT.zero .word)))
def opens (k : Key) : Bool := !(andI k.perms 1 == 0) && !(andI k.perms 8 == 0)
def closStep (ws out : List Word) (k : Key) : List Word := if opens k then scan ws (min k.top 24 - k.base).toNat k.base.toNat out else out
def closGo (ws : List Word) : Nat → Nat → List Word → List Word
  | 0, _, out => out
  | n + 1, i, out => if i < out.length then closGo ws n (i + 1) (closStep ws out (out.getD i (FT.zero .word)).key) else out
def closFirst (l : List Word) : List Word := l.foldl putW []
def closure (m : Mem) (l : List Word) : List Word := if memoryOk m then closGo m.words (l.length + 24) 0 (closFirst l) else []
theorem getD_mem {ws : List Word} {c : Nat} (h : c < ws.length) : ws.getD c (FT.zero .word) ∈ ws := by
  have e : ws.getD c (FT.zero .word) = ws[c] := by simp [List.getD_eq_getElem?_getD, h]
  rw [e]; exact List.getElem_mem h

def hasP (w : Word) (p : Int) : Bool := w.is && (andI w.key.perms p != 0)
def canSeal (m : Mem) (l : List Word) : Bool := (closure m l).any (fun w => hasP w 32)

def U8s (b : List Int) : Prop := ∀ x ∈ b, 0 ≤ x ∧ x ≤ 255
theorem U8s.at {b : List Int} (h : U8s b) (i : Nat) : 0 ≤ b.getD i 0 ∧ b.getD i 0 ≤ 255 := by
  rw [List.getD_eq_getElem?_getD]
  cases e : b[i]? with
  | none => simp
  | some x => exact h x (List.mem_of_getElem? e)
theorem wordOk_n {w : Word} (h : wordOk w = true) : 0 ≤ w.n ∧ w.n ≤ 65535 := by
  simp only [wordOk, Bool.and_eq_true] at h; simpa [inR] using h.1


def filt (f : Nat → Bool) (n : Nat) : List Int := ((List.range n).filter f).map (fun c : Nat => (c : Int))
def coverP (ws : List Word) (p : Int) (c : Nat) : Bool := ws.any (fun w => hasP w p && inR c w.key.base (w.key.top - 1))
def cellsBy (m : Mem) (l : List Word) (p : Int) : List Int := filt (coverP (closure m l) p) 24


def heldW (s : Side) : List Word := s.regs ++ [s.pc]
def meetI (a b : List Int) : Bool := a.any (fun n => b.any (fun x => n == x))
def crossesB (m : Mem) (a b : List Word) : Bool := meetI (cellsBy m a 2) (cellsBy m b 1 ++ cellsBy m b 2)
def apartB (t : Two) : Bool := twoOk t && !canSeal t.mem (heldW t.a) && !canSeal t.mem (heldW t.b) && (!crossesB t.mem (heldW t.a) (heldW t.b) && !crossesB t.mem (heldW t.b) (heldW t.a))

def LHeap (h : Heap) (n : Nat) : Prop := LMem h.mem n ∧ h.live.length ≤ n ∧ h.waits.length ≤ n
def inS (s : Span) (c : Nat) : Bool := inR c s.at_ (s.at_ + s.len - 1)
def spanOk (s : Span) : Bool := inR s.at_ 0 23 && inR s.len 1 (24 - s.at_)
def spanChk (l : List Span) (i : Nat) : Bool := spanOk (l.getD i (FT.zero .span)) && (i == 0 || decide ((l.getD (i - 1) (FT.zero .span)).at_ < (l.getD i (FT.zero .span)).at_))
def okTo (l : List Span) (i : Nat) : Bool := (List.range i).all (spanChk l)
def spansOk (l : List Span) : Bool := okTo l l.length
theorem inR_t {n lo hi : Int} : inR n lo hi = true ↔ lo ≤ n ∧ n ≤ hi := by simp [inR]
theorem spanChk_iff (l : List Span) (i : Nat) : spanChk l i = true ↔ (((0 ≤ (l.getD i (FT.zero .span)).at_ ∧ (l.getD i (FT.zero .span)).at_ ≤ 23) ∧ 1 ≤ (l.getD i (FT.zero .span)).len ∧ (l.getD i (FT.zero .span)).len ≤ 24 - (l.getD i (FT.zero .span)).at_) ∧ (i = 0 ∨ (l.getD (i - 1) (FT.zero .span)).at_ < (l.getD i (FT.zero .span)).at_)) := by
  simp only [spanChk, spanOk, Bool.and_eq_true, inR_t, Bool.or_eq_true, beq_iff_eq, decide_eq_true_eq]

def allR (f : Nat → Bool) (n : Nat) : Bool := (List.range n).all f
theorem allR_iff {f : Nat → Bool} {n : Nat} : allR f n = true ↔ ∀ c, c < n → f c = true := by simp [allR]
def cnt (l : List Span) (c : Nat) : Nat := l.countP (fun s => inS s c)
def heapOk (h : Heap) : Bool := memoryOk h.mem && spansOk h.live && spansOk h.waits && allR (fun c => decide (cnt h.live c + cnt h.waits c ≤ 1) && (h.mem.gone.getD c false == decide (0 < cnt h.waits c))) 24
theorem spanChk_ok {l : List Span} {i : Nat} (h : spanChk l i = true) : spanOk (l.getD i (FT.zero .span)) = true := by
  simp only [spanChk, Bool.and_eq_true] at h; exact h.1
theorem spansOk_iff {l : List Span} : spansOk l = true ↔ ∀ j, j < l.length → spanChk l j = true := by simp [spansOk, okTo]
theorem spansOk_mem {l : List Span} (h : spansOk l = true) : ∀ s ∈ l, spanOk s = true := fun s hs => by
  obtain ⟨i, hi, rfl⟩ := List.getElem_of_mem hs
  have := spanChk_ok (spansOk_iff.1 h i hi)
  rw [show l.getD i (FT.zero .span) = l[i] by simp [List.getD_eq_getElem?_getD, hi]] at this
  exact this

def plainW (n : Int) : Word := ⟨andI n 65535, false, ⟨0, 0, 0, 0⟩⟩
def gonB (g : List Bool) (w : Word) : Bool := w.is && inR w.key.base 0 (g.length - 1) && g.getD w.key.base.toNat false
def filterW (g : List Bool) (w : Word) : Word := if gonB g w then plainW w.n else w


def tryW (w : Word) (n p : Int) : Int := if w.is = false ∨ wordOk w = false then 1 else if w.key.sealed ≠ 0 then 2 else if andI w.key.perms p ≠ p then 3 else if n < w.key.base ∨ w.key.top ≤ n then 4 else 0
def takenW (y w : Word) : Word := if andI y.key.perms 8 = 0 then plainW w.n else w
def mayPut (y w : Word) : Bool := !w.is || andI y.key.perms 16 != 0
def openW (w : Word) : Bool := wordOk w && w.is && w.key.sealed == 0
def weakenW (w : Word) (m : Int) : Word := if openW w then { w with key := { w.key with perms := andI w.key.perms (andI m 63) } } else plainW w.n
def narrowW (w : Word) (n : Int) : Word :=
  if openW w && inR n 0 4096 && boundsOk w.n (IntKind.i64.wrap (w.n + n)) then
    (if (wide w.n (IntKind.i64.wrap (w.n + n))).1 < w.key.base ∨ w.key.top < (wide w.n (IntKind.i64.wrap (w.n + n))).2 then plainW w.n else { w with key := { w.key with base := (wide w.n (IntKind.i64.wrap (w.n + n))).1, top := (wide w.n (IntKind.i64.wrap (w.n + n))).2 } })
  else plainW w.n
def pointW (w : Word) (n : Int) : Word := if openW w then ⟨andI n 65535, true, w.key⟩ else plainW n
def sealsB (y : Word) : Bool := openW y && (andI y.key.perms 32 != 0) && decide (y.key.base ≤ y.n) && decide (y.n < y.key.top) && inR y.n 1 7
def sealBy (w y : Word) : Word := if openW w && sealsB y then { w with key := { w.key with sealed := y.n } } else plainW w.n
def openBy (w y : Word) : Word := if wordOk w && w.is && sealsB y && w.key.sealed == y.n then { w with key := { w.key with sealed := 0 } } else plainW w.n


def formS (op : Int) : ByteArray :=
  if op = 1 then ⟨#[82, 78]⟩ else if op = 2 ∨ op = 4 ∨ op = 5 ∨ op = 7 ∨ op = 8 then ⟨#[82, 65, 66]⟩ else if op = 3 ∨ op = 9 ∨ op = 12 then ⟨#[82, 65]⟩ else if op = 6 then ⟨#[82, 65, 66, 78]⟩ else
  if op = 10 then ⟨#[82, 65, 78]⟩ else if op = 11 then ⟨#[65, 66, 78]⟩ else if op = 13 then ⟨#[65, 78]⟩ else if op = 14 then ⟨#[65]⟩ else ⟨#[]⟩
def maskI (op : Int) : Int := if inR op 1 15 then ([0, 9, 7, 3, 7, 7, 15, 7, 7, 3, 11, 14, 3, 10, 2, 0] : List Int).getD op.toNat 0 else 0
def hasC (op c : Int) : Bool := (bytesI (formS op)).any (fun b => c == b)
def fld (v : Int) (b : Bool) : Bool := inR v 0 7 && (b || v == 0)
def insOk (x : Inst) : Bool := inR x.op 1 15 && fld x.r (andI (maskI x.op) 1 != 0) && fld x.a (andI (maskI x.op) 2 != 0) && fld x.b (andI (maskI x.op) 4 != 0) && inR x.n (-128) 127 && (andI (maskI x.op) 8 != 0 || x.n == 0)

abbrev zW : Word := ⟨0, false, ⟨0, 0, 0, 0⟩⟩
abbrev zI : Inst := ⟨0, 0, 0, 0, 0⟩
def readC (m : Mem) (y : Word) (n : Int) : Int := if tryW y n 1 ≠ 0 then tryW y n 1 else if inR n 0 (m.words.length - 1) then 0 else 4
def readM (m : Mem) (y : Word) (n : Int) : Word × Int := if readC m y n ≠ 0 then (zW, readC m y n) else (filterW m.gone (takenW y (m.words.getD n.toNat (FT.zero .word))), 0)
def writeC (m : Mem) (y : Word) (n : Int) (w : Word) : Int := if tryW y n 2 ≠ 0 then tryW y n 2 else if inR n 0 (m.words.length - 1) = false then 4 else if mayPut y w = false then 3 else 0
def fetchI (l : List Inst) (pc : Word) : Inst × Int := if tryW pc pc.n 4 ≠ 0 then (zI, tryW pc pc.n 4) else if inR pc.n 0 (l.length - 1) = false ∨ insOk (l.getD pc.n.toNat (FT.zero .inst)) = false then (zI, 4) else (l.getD pc.n.toNat (FT.zero .inst), 0)
def trapE (c : Int) (pc : Word) : Eff := ⟨c, -1, zW, pc, -1, zW, -1⟩
def madeW (x : Inst) (a b got : Word) : Word :=
  if x.op = 1 then plainW x.n else if x.op = 2 then plainW (IntKind.i64.wrap (a.n + b.n)) else if x.op = 3 then a else if x.op = 4 then weakenW a b.n else if x.op = 5 then narrowW a b.n else
  if x.op = 6 then pointW a (IntKind.i64.wrap (IntKind.i64.wrap (a.n + b.n) + x.n)) else if x.op = 7 then sealBy a b else if x.op = 8 then openBy a b else if x.op = 9 then (if a.is then plainW 1 else plainW 0) else got
def nextW (pc : Word) : Word := pointW pc (IntKind.i64.wrap (pc.n + 1))
def workE (x : Inst) (pc a b got : Word) : Eff :=
  if x.op = 11 then ⟨0, -1, zW, nextW pc, IntKind.i64.wrap (a.n + x.n), b, -1⟩ else
  if x.op = 12 then (if tryW a a.n 4 ≠ 0 then trapE (tryW a a.n 4) pc else ⟨0, x.r, nextW pc, a, -1, zW, -1⟩) else
  if x.op = 13 then ⟨0, -1, zW, if a.n = 0 then pointW pc (IntKind.i64.wrap (pc.n + x.n)) else nextW pc, -1, zW, -1⟩ else
  if x.op = 14 then (if tryW a a.n 32 ≠ 0 then trapE (tryW a a.n 32) pc else ⟨0, -1, zW, nextW pc, -1, zW, a.key.base⟩) else
  if x.op = 15 then trapE 5 pc else
  if hasC x.op 82 then ⟨0, x.r, if 0 ≤ x.r then madeW x a b got else zW, nextW pc, -1, zW, -1⟩ else ⟨0, -1, zW, nextW pc, -1, zW, -1⟩



def memE (m : Mem) (x : Inst) (a b : Word) : Word × Int :=
  if x.op = 10 then readM m a (IntKind.i64.wrap (a.n + x.n)) else if x.op = 11 then (zW, writeC m a (IntKind.i64.wrap (a.n + x.n)) b) else (zW, 0)
def effE (l : List Inst) (s : State) : Eff :=
  let x := (fetchI l s.pc).1
  let a := s.regs.getD x.a.toNat (FT.zero .word)
  let b := s.regs.getD x.b.toNat (FT.zero .word)
  if (fetchI l s.pc).2 ≠ 0 then trapE (fetchI l s.pc).2 s.pc else
  if (memE s.mem x a b).2 ≠ 0 then trapE (memE s.mem x a b).2 s.pc else workE x s.pc a b (memE s.mem x a b).1
def putE (s : State) (e : Eff) : State :=
  ⟨if inR e.r 0 7 then s.regs.set e.r.toNat e.val else s.regs, e.next,
   ⟨if inR e.addr 0 23 then s.mem.words.set e.addr.toNat e.put else s.mem.words, if inR e.drop 0 23 then s.mem.gone.set e.drop.toNat true else s.mem.gone⟩, s.trap⟩
abbrev zState : State := ⟨[], zW, ⟨[], []⟩, 0⟩
def stepS (l : List Inst) (s : State) : State :=
  if stateOk s = false then zState else if s.trap ≠ 0 then s else if (effE l s).trap ≠ 0 then ⟨s.regs, s.pc, s.mem, (effE l s).trap⟩ else putE s (effE l s)
def LenOk (s : State) : Prop := s.regs.length = 8 ∧ s.mem.words.length = 24 ∧ s.mem.gone.length = 24
theorem LenOk.l {s : State} (h : LenOk s) : LState s 2147483647 := by
  obtain ⟨h1, h2, h3⟩ := h; exact ⟨by omega, by omega, by omega⟩
theorem fetchI_ok {l : List Inst} {pc : Word} (h : (fetchI l pc).2 = 0) : insOk (fetchI l pc).1 = true := by
  unfold fetchI at h ⊢
  split at h
  · contradiction
  · rename_i h1
    rw [if_neg h1]
    split at h
    · cases h
    · rename_i h2
      rw [if_neg h2]
      cases e : insOk (l.getD pc.n.toNat (FT.zero .inst)) with
      | true => rfl
      | false => exact absurd (.inr e) h2
theorem memE_10 {m : Mem} {x : Inst} {a b : Word} (h : x.op = 10) : memE m x a b = readM m a (IntKind.i64.wrap (a.n + x.n)) := if_pos h
theorem memE_11 {m : Mem} {x : Inst} {a b : Word} (h0 : ¬ x.op = 10) (h : x.op = 11) : memE m x a b = (zW, writeC m a (IntKind.i64.wrap (a.n + x.n)) b) := by unfold memE; rw [if_neg h0, if_pos h]
theorem memE_x {m : Mem} {x : Inst} {a b : Word} (h0 : ¬ x.op = 10) (h : ¬ x.op = 11) : memE m x a b = (zW, 0) := by unfold memE; rw [if_neg h0, if_neg h]

theorem stepS_trap {l : List Inst} {s : State} (h : stateOk s = true) (h2 : ¬ s.trap = 0) : stepS l s = s := by
  unfold stepS; rw [if_neg (by rw [h]; decide), if_pos h2]
theorem stepS_e {l : List Inst} {s : State} (h : stateOk s = true) (h2 : s.trap = 0) (h3 : ¬ (effE l s).trap = 0) : stepS l s = ⟨s.regs, s.pc, s.mem, (effE l s).trap⟩ := by
  unfold stepS; rw [if_neg (by rw [h]; decide), if_neg (by simpa using h2), if_pos h3]
theorem stepS_0 {l : List Inst} {s : State} (h : stateOk s = true) (h2 : s.trap = 0) (h3 : (effE l s).trap = 0) : stepS l s = putE s (effE l s) := by
  unfold stepS; rw [if_neg (by rw [h]; decide), if_neg (by simpa using h2), if_neg (by simpa using h3)]











/-! words that are right, and what they are under -/
theorem wrap_bv (n : Int) : BitVec.ofInt IntKind.i64.bits (IntKind.i64.wrap n) = BitVec.ofInt IntKind.i64.bits n := by
  apply BitVec.eq_of_toNat_eq
  simp only [BitVec.toNat_ofInt, IntKind.wrap_i64]
  show (_ % (18446744073709551616 : Int)).toNat = (n % (18446744073709551616 : Int)).toNat
  omega
theorem andI_bv (a b : Int) : BitVec.ofInt IntKind.i64.bits (andI a b) = BitVec.ofInt IntKind.i64.bits a &&& BitVec.ofInt IntKind.i64.bits b := by
  unfold andI
  rw [wrap_bv, BitVec.ofInt_natCast, BitVec.ofNat_toNat, BitVec.setWidth_eq]
theorem andI_comm (a b : Int) : andI a b = andI b a := by unfold andI; rw [BitVec.and_comm]
theorem andI_assoc (a b c : Int) : andI (andI a b) c = andI a (andI b c) := by
  have h1 : andI (andI a b) c = IntKind.i64.wrap ((BitVec.ofInt IntKind.i64.bits a &&& BitVec.ofInt IntKind.i64.bits b) &&& BitVec.ofInt IntKind.i64.bits c).toNat := by rw [← andI_bv]; rfl
  have h2 : andI a (andI b c) = IntKind.i64.wrap (BitVec.ofInt IntKind.i64.bits a &&& (BitVec.ofInt IntKind.i64.bits b &&& BitVec.ofInt IntKind.i64.bits c)).toNat := by rw [← andI_bv]; rfl
  rw [h1, h2, BitVec.and_assoc]
theorem andI_zero (a : Int) : andI a 0 = 0 := by
  unfold andI
  rw [show BitVec.ofInt IntKind.i64.bits 0 = 0#_ from rfl, BitVec.and_zero]; rfl
theorem andI_nat {m n : Nat} (h : n < 9223372036854775808) : andI (m : Int) (n : Int) = ((m % 18446744073709551616 &&& n : Nat) : Int) := by
  unfold andI
  rw [BitVec.ofInt_natCast, BitVec.ofInt_natCast, BitVec.toNat_and, BitVec.toNat_ofNat, BitVec.toNat_ofNat]
  show IntKind.i64.wrap ((m % 18446744073709551616 &&& n % 18446744073709551616 : Nat) : Int) = _
  rw [Nat.mod_eq_of_lt (a := n) (by omega)]
  have : m % 18446744073709551616 &&& n ≤ n := Nat.and_le_right
  exact wrap_id (by omega) (by omega)
theorem andI_le (a : Int) {p : Int} (h : 0 ≤ p) (h2 : p < 9223372036854775808) : 0 ≤ andI a p ∧ andI a p ≤ p := by
  obtain ⟨n, rfl⟩ := Int.eq_ofNat_of_zero_le h
  unfold andI
  have h1 : (BitVec.ofInt IntKind.i64.bits a &&& BitVec.ofInt IntKind.i64.bits (n : Int)).toNat ≤ n := by
    rw [BitVec.toNat_and, BitVec.ofInt_natCast, BitVec.toNat_ofNat]
    refine Nat.le_trans Nat.and_le_right (Nat.mod_le _ _)
  rw [wrap_id (by omega) (by omega)]; omega
theorem andI_le' {p : Int} (a : Int) (h : 0 ≤ p) (h2 : p < 9223372036854775808) : 0 ≤ andI p a ∧ andI p a ≤ p := by rw [andI_comm]; exact andI_le a h h2
theorem andI_same (a b : Int) : andI a (andI a b) = andI a b := by
  rw [← andI_assoc]
  have h1 : andI (andI a a) b = IntKind.i64.wrap ((BitVec.ofInt IntKind.i64.bits a &&& BitVec.ofInt IntKind.i64.bits a) &&& BitVec.ofInt IntKind.i64.bits b).toNat := by rw [← andI_bv]; rfl
  rw [h1, BitVec.and_self]; rfl
theorem andI_self {a : Int} (h : 0 ≤ a) (h2 : a < 9223372036854775808) : andI a a = a := by
  obtain ⟨n, rfl⟩ := Int.eq_ofNat_of_zero_le h
  rw [andI_nat (by omega), Nat.mod_eq_of_lt (by omega), Nat.and_self]
theorem andI_bit {a b p : Int} (h : andI a b = b) (hp : ¬ andI b p = 0) : ¬ andI a p = 0 := fun h0 => hp (by
  rw [← h, andI_comm a b, andI_assoc, h0, andI_zero])

/-! ### bounds -/
theorem packGo_some {b t : Int} {p : Packed} : ∀ {n e0 : Nat}, packGo b t n e0 = some p → ∃ e : Nat, e0 ≤ e ∧ e < e0 + n ∧ p = ⟨e, packB b e, packL b t e⟩ ∧ packOk b t e = true
  | 0, e0, h => by cases h
  | n + 1, e0, h => by
    unfold packGo at h
    split at h
    · rename_i h1; cases h; exact ⟨e0, by omega, by omega, rfl, h1⟩
    · obtain ⟨e, h1, h2, h3, h4⟩ := packGo_some h; exact ⟨e, by omega, by omega, h3, h4⟩
theorem packGo_find {b t : Int} {e : Nat} (hp : packOk b t e = true) : ∀ {n e0 : Nat}, e0 ≤ e → e < e0 + n → ∃ f : Nat, e0 ≤ f ∧ f ≤ e ∧ packGo b t n e0 = some ⟨f, packB b f, packL b t f⟩ ∧ packOk b t f = true
  | 0, e0, h1, h2 => by omega
  | n + 1, e0, h1, h2 => by
    by_cases h : packOk b t e0 = true
    · exact ⟨e0, by omega, h1, packGo_t h, h⟩
    · have hne : e0 ≠ e := fun q => h (q ▸ hp)
      obtain ⟨f, g1, g2, g3, g4⟩ := packGo_find hp (n := n) (e0 := e0 + 1) (by omega) (by omega)
      exact ⟨f, by omega, g2, by rw [packGo_f (by simpa using h)]; exact g3, g4⟩
theorem packOk_n {b t : Int} {e : Nat} (h : packOk b t e = true) : packB b e ≤ 63 ∧ packL b t e ≤ 63 := by simpa [packOk] using h
theorem wide_e {b t : Int} (h : boundsOk b t = true) {e : Nat} (he : e ≤ 6) (hp : pack b t = some ⟨e, packB b e, packL b t e⟩) (ho : packOk b t e = true) :
    wide b t = (packB b e * 2 ^ e, min 4096 ((packB b e + packL b t e) * 2 ^ e)) := by
  obtain ⟨h0, h1, h2⟩ := bounds_n h
  obtain ⟨o1, o2⟩ := packOk_n ho
  have hu : unpackOk ⟨e, packB b e, packL b t e⟩ = true := by
    simp only [unpackOk, Bool.and_eq_true, inR_t]
    unfold packB packL at *
    rcases e_cases he with rfl | rfl | rfl | rfl | rfl | rfl | rfl <;> simp only [Int.reducePow, Int.pow_zero] at * <;> omega
  unfold wide
  rw [if_pos h, hp]
  simp only [Option.isSome_some, if_true, Option.getD_some]
  rw [unpack_yes hu]
  simp only [Int.toNat_natCast]
theorem wide_cases {b t : Int} (h : boundsOk b t = true) : wide b t = (0, 4096) ∨ ∃ e : Nat, e ≤ 6 ∧ packOk b t e = true ∧ wide b t = (packB b e * 2 ^ e, min 4096 ((packB b e + packL b t e) * 2 ^ e)) := by
  cases hp : pack b t with
  | none => left; unfold wide; rw [if_pos h, hp]; rfl
  | some p =>
    have hp2 := hp
    rw [pack_yes h] at hp2
    obtain ⟨e, h1, h2, rfl, h4⟩ := packGo_some hp2
    exact .inr ⟨e, by omega, h4, wide_e h (by omega) hp h4⟩
theorem wide_parts {e : Nat} (he : e ≤ 6) {lo hi B L : Int} (hB : 0 ≤ B ∧ B ≤ 63) (hL : 0 ≤ L ∧ L ≤ 63) (h1 : lo = B * 2 ^ e) (h2 : hi = min 4096 ((B + L) * 2 ^ e)) : boundsOk lo hi = true ∧ wide lo hi = (lo, hi) := by
  have hb : boundsOk lo hi = true := by
    simp only [boundsOk, Bool.and_eq_true, decide_eq_true_eq]
    rcases e_cases he with rfl | rfl | rfl | rfl | rfl | rfl | rfl <;> simp only [Int.reducePow, Int.pow_zero] at * <;> omega
  refine ⟨hb, ?_⟩
  have ho : packOk lo hi e = true := by
    simp only [packOk, Bool.and_eq_true, decide_eq_true_eq]
    unfold packB packL
    rcases e_cases he with rfl | rfl | rfl | rfl | rfl | rfl | rfl <;> simp only [Int.reducePow, Int.pow_zero] at * <;> omega
  obtain ⟨f, f1, f2, f3, f4⟩ := packGo_find ho (n := 7) (e0 := 0) (by omega) (by omega)
  rw [wide_e hb (e := f) (by omega) (by rw [pack_yes hb]; exact f3) f4]
  unfold packB packL
  rcases e_cases he with rfl | rfl | rfl | rfl | rfl | rfl | rfl <;> rcases e_cases (e := f) (by omega) with rfl | rfl | rfl | rfl | rfl | rfl | rfl <;>
    first
      | (exfalso; omega)
      | (simp only [Int.reducePow, Int.pow_zero, Prod.mk.injEq] at *; omega)
theorem wide_ok {b t : Int} (h : boundsOk b t = true) : 0 ≤ (wide b t).1 ∧ (wide b t).1 ≤ b ∧ t ≤ (wide b t).2 ∧ (wide b t).2 ≤ 4096 ∧ exact_ (wide b t).1 (wide b t).2 = true := by
  obtain ⟨h0, h1, h2⟩ := bounds_n h
  rcases wide_cases h with e | ⟨e, he, ho, hw⟩
  · rw [e]; exact ⟨by decide, by omega, by omega, by decide, by decide +kernel⟩
  · obtain ⟨o1, o2⟩ := packOk_n ho
    have hB : 0 ≤ packB b e ∧ packB b e ≤ 63 := ⟨by
      unfold packB
      rcases e_cases he with rfl | rfl | rfl | rfl | rfl | rfl | rfl <;> simp only [Int.reducePow, Int.pow_zero] <;> omega, o1⟩
    have hL : 0 ≤ packL b t e ∧ packL b t e ≤ 63 := ⟨by
      unfold packL
      rcases e_cases he with rfl | rfl | rfl | rfl | rfl | rfl | rfl <;> simp only [Int.reducePow, Int.pow_zero] <;> omega, o2⟩
    obtain ⟨g1, g2⟩ := wide_parts he hB hL rfl rfl
    rw [hw]
    refine ⟨?_, ?_, ?_, by dsimp only; omega, by simp only [exact_, g1, g2, decide_true, Bool.and_self]⟩
    all_goals
      dsimp only
      unfold packB packL at *
      rcases e_cases he with rfl | rfl | rfl | rfl | rfl | rfl | rfl <;> simp only [Int.reducePow, Int.pow_zero] at * <;> omega
/-! ### keys and words -/
theorem keyOk_n {k : Key} (h : keyOk k = true) : 0 ≤ k.base ∧ k.base ≤ k.top ∧ k.top ≤ 4096 ∧ 0 ≤ k.perms ∧ k.perms ≤ 63 ∧ 0 ≤ k.sealed ∧ k.sealed ≤ 7 := by
  simp only [keyOk, Bool.and_eq_true, exact_, inR_t] at h
  have := bounds_n h.1.1.1.1
  omega
theorem keyOk_mk {k : Key} (h : exact_ k.base k.top = true) (h1 : 0 ≤ k.perms ∧ k.perms ≤ 63) (h2 : 0 ≤ k.sealed ∧ k.sealed ≤ 7) : keyOk k = true := by
  simp only [keyOk, Bool.and_eq_true, inR_t]; exact ⟨⟨h, h1⟩, h2⟩
theorem keyOk_exact {k : Key} (h : keyOk k = true) : exact_ k.base k.top = true := by simp only [keyOk, Bool.and_eq_true] at h; exact h.1.1
theorem wordOk_is {w : Word} (h : wordOk w = true) (h2 : w.is = true) : keyOk w.key = true := by
  simp only [wordOk, h2, if_true, Bool.and_eq_true] at h; exact h.2
theorem wordOk_mk {n : Int} {k : Key} (h : 0 ≤ n ∧ n ≤ 65535) (h2 : keyOk k = true) : wordOk ⟨n, true, k⟩ = true := by
  simp only [wordOk, if_true, Bool.and_eq_true, inR_t]; exact ⟨h, h2⟩
theorem and65 (n : Int) : 0 ≤ andI n 65535 ∧ andI n 65535 ≤ 65535 := andI_le n (by decide) (by decide)
theorem plainW_ok (n : Int) : wordOk (plainW n) = true := by
  simp only [wordOk, plainW, Bool.and_eq_true, inR_t, Bool.false_eq_true, if_false, decide_true, and_true]
  exact and65 n
def coversK (a b : Key) : Bool := keyOk a && keyOk b && decide (a.base ≤ b.base) && decide (b.top ≤ a.top) && decide (andI a.perms b.perms = b.perms)
theorem coversK_iff {a b : Key} : coversK a b = true ↔ keyOk a = true ∧ keyOk b = true ∧ a.base ≤ b.base ∧ b.top ≤ a.top ∧ andI a.perms b.perms = b.perms := by
  simp only [coversK, Bool.and_eq_true, decide_eq_true_eq, and_assoc]
theorem coversK_refl {a : Key} (h : keyOk a = true) : coversK a a = true :=
  coversK_iff.2 ⟨h, h, Int.le_refl _, Int.le_refl _, andI_self (by have := keyOk_n h; omega) (by have := keyOk_n h; omega)⟩
theorem coversK_trans {a b c : Key} (h : coversK a b = true) (k : coversK b c = true) : coversK a c = true := by
  obtain ⟨h1, h2, h3, h4, h5⟩ := coversK_iff.1 h
  obtain ⟨k1, k2, k3, k4, k5⟩ := coversK_iff.1 k
  exact coversK_iff.2 ⟨h1, k2, by omega, by omega, by rw [← k5, ← andI_assoc, h5]⟩
def Und (C : List Word) (w : Word) : Prop := w.is = true → ∃ c ∈ C, c.is = true ∧ coversK c.key w.key = true
theorem und_bare (C : List Word) (n : Int) : Und C (plainW n) := fun h => by cases h
theorem und_zero (C : List Word) : Und C zW := fun h => by cases h
theorem und_of {C : List Word} {w v : Word} (h : Und C w) (hw : w.is = true) (hk : coversK w.key v.key = true) : Und C v := fun _ => by
  obtain ⟨c, h1, h2, h3⟩ := h hw
  exact ⟨c, h1, h2, coversK_trans h3 hk⟩
theorem openW_iff {w : Word} : openW w = true ↔ wordOk w = true ∧ w.is = true ∧ w.key.sealed = 0 := by
  simp only [openW, Bool.and_eq_true, beq_iff_eq, and_assoc]
theorem sealsB_n {y : Word} (h : sealsB y = true) : openW y = true ∧ ¬ andI y.key.perms 32 = 0 ∧ 1 ≤ y.n ∧ y.n ≤ 7 := by
  simp only [sealsB, Bool.and_eq_true, bne_iff_ne, inR_t] at h
  exact ⟨h.1.1.1.1, h.1.1.1.2, h.2.1, h.2.2⟩
def Fine (w v : Word) : Prop := wordOk v = true ∧ (v.is = true → w.is = true ∧ coversK w.key v.key = true)
theorem fine_bare (w : Word) (n : Int) : Fine w (plainW n) := ⟨plainW_ok n, fun h => by cases h⟩
theorem fine_self {w : Word} (h : wordOk w = true) : Fine w w := ⟨h, fun hi => ⟨hi, coversK_refl (wordOk_is h hi)⟩⟩
theorem Fine.und {C : List Word} {w v : Word} (h : Fine w v) (hu : Und C w) : Und C v := fun hi => by
  obtain ⟨h1, h2⟩ := h.2 hi
  exact und_of hu h1 h2 hi
theorem weakenW_fine (w : Word) (m : Int) : Fine w (weakenW w m) := by
  unfold weakenW
  split
  · rename_i h
    obtain ⟨h1, h2, h3⟩ := openW_iff.1 h
    have hk := wordOk_is h1 h2
    have hn := keyOk_n hk
    have hp := andI_le' (andI m 63) (p := w.key.perms) (by omega) (by omega)
    have hk' : keyOk { w.key with perms := andI w.key.perms (andI m 63) } = true := keyOk_mk (k := ⟨w.key.base, w.key.top, andI w.key.perms (andI m 63), w.key.sealed⟩) (keyOk_exact (k := w.key) hk) ⟨hp.1, by dsimp only; omega⟩ (by dsimp only; omega)
    refine ⟨?_, fun _ => ⟨h2, coversK_iff.2 ⟨hk, hk', Int.le_refl _, Int.le_refl _, andI_same _ _⟩⟩⟩
    have hw := wordOk_n h1
    simp only [wordOk, h2, if_true, Bool.and_eq_true, inR_t]
    exact ⟨hw, hk'⟩
  · exact fine_bare w _
theorem narrowW_fine (w : Word) (n : Int) : Fine w (narrowW w n) := by
  unfold narrowW
  split
  · rename_i h
    simp only [Bool.and_eq_true] at h
    obtain ⟨⟨h, _⟩, hb⟩ := h
    obtain ⟨h1, h2, h3⟩ := openW_iff.1 h
    have hk := wordOk_is h1 h2
    have hn := keyOk_n hk
    split
    · exact fine_bare w _
    · rename_i hr
      obtain ⟨w1, w2, w3, w4, w5⟩ := wide_ok hb
      have hk' : keyOk { w.key with base := (wide w.n (IntKind.i64.wrap (w.n + n))).1, top := (wide w.n (IntKind.i64.wrap (w.n + n))).2 } = true := keyOk_mk w5 (by dsimp only; omega) (by dsimp only; omega)
      refine ⟨?_, fun _ => ⟨h2, coversK_iff.2 ⟨hk, hk', by dsimp only; omega, by dsimp only; omega, andI_self (by omega) (by omega)⟩⟩⟩
      have hw := wordOk_n h1
      simp only [wordOk, h2, if_true, Bool.and_eq_true, inR_t]
      exact ⟨hw, hk'⟩
  · exact fine_bare w _
theorem pointW_fine (w : Word) (n : Int) : Fine w (pointW w n) := by
  unfold pointW
  split
  · rename_i h
    obtain ⟨h1, h2, h3⟩ := openW_iff.1 h
    exact ⟨wordOk_mk (and65 n) (wordOk_is h1 h2), fun _ => ⟨h2, coversK_refl (wordOk_is h1 h2)⟩⟩
  · exact fine_bare w _
theorem seal_fine {w : Word} (h1 : wordOk w = true) (h2 : w.is = true) {s : Int} (hs : 0 ≤ s ∧ s ≤ 7) : Fine w { w with key := { w.key with sealed := s } } := by
  have hk := wordOk_is h1 h2
  have hn := keyOk_n hk
  have hk' : keyOk { w.key with sealed := s } = true := keyOk_mk (k := ⟨w.key.base, w.key.top, w.key.perms, s⟩) (keyOk_exact (k := w.key) hk) (by dsimp only; omega) hs
  refine ⟨?_, fun _ => ⟨h2, coversK_iff.2 ⟨hk, hk', Int.le_refl _, Int.le_refl _, andI_self (by omega) (by omega)⟩⟩⟩
  have hw := wordOk_n h1
  simp only [wordOk, h2, if_true, Bool.and_eq_true, inR_t]
  exact ⟨hw, hk'⟩
theorem sealBy_fine (w y : Word) : Fine w (sealBy w y) := by
  unfold sealBy
  split
  · rename_i h
    simp only [Bool.and_eq_true] at h
    obtain ⟨h1, h2, h3⟩ := openW_iff.1 h.1
    exact seal_fine h1 h2 (by have := sealsB_n h.2; omega)
  · exact fine_bare w _
theorem openBy_fine (w y : Word) : Fine w (openBy w y) := by
  unfold openBy
  split
  · rename_i h
    simp only [Bool.and_eq_true] at h
    exact seal_fine h.1.1.1 h.1.1.2 (by decide)
  · exact fine_bare w _
theorem takenW_fine {y w : Word} (h : wordOk w = true) : Fine w (takenW y w) := by
  unfold takenW
  split
  · exact fine_bare w _
  · exact fine_self h
theorem filterW_fine {g : List Bool} {w : Word} (h : wordOk w = true) : Fine w (filterW g w) := by
  unfold filterW
  split
  · exact fine_bare w _
  · exact fine_self h
theorem zW_ok : wordOk zW = true := by decide
theorem tryW_0 {w : Word} {n p : Int} (h : tryW w n p = 0) : wordOk w = true ∧ w.is = true ∧ w.key.sealed = 0 ∧ andI w.key.perms p = p ∧ w.key.base ≤ n ∧ n < w.key.top := by
  unfold tryW at h
  split at h
  · cases h
  · rename_i h1
    split at h
    · cases h
    · rename_i h2
      split at h
      · cases h
      · rename_i h3
        split at h
        · cases h
        · rename_i h4
          exact ⟨by cases e : wordOk w with | true => rfl | false => exact absurd (.inr e) h1, by cases e : w.is with | true => rfl | false => exact absurd (.inl e) h1, by omega, by omega, by omega, by omega⟩
theorem tryW_in (w : Word) (n p : Int) : 0 ≤ tryW w n p ∧ tryW w n p ≤ 4 := by
  unfold tryW
  repeat' split
  all_goals omega
theorem getD_ok {ws : List Word} (h : ∀ w ∈ ws, wordOk w = true) (i : Nat) : wordOk (ws.getD i (FT.zero .word)) = true := by
  rw [List.getD_eq_getElem?_getD]
  cases e : ws[i]? with
  | none => exact zW_ok
  | some w => exact h w (List.mem_of_getElem? e)
theorem getD_und {C ws : List Word} (h : ∀ w ∈ ws, Und C w) (i : Nat) : Und C (ws.getD i (FT.zero .word)) := by
  rw [List.getD_eq_getElem?_getD]
  cases e : ws[i]? with
  | none => exact und_zero C
  | some w => exact h w (List.mem_of_getElem? e)

/-! states that are right stay so -/
theorem memoryOk_iff {m : Mem} : memoryOk m = true ↔ m.words.length = 24 ∧ m.gone.length = 24 ∧ ∀ w ∈ m.words, wordOk w = true := by
  simp only [memoryOk, Bool.and_eq_true, decide_eq_true_eq, List.all_eq_true, and_assoc]
theorem stateOk_iff {s : State} : stateOk s = true ↔ s.regs.length = 8 ∧ (∀ w ∈ s.regs, wordOk w = true) ∧ wordOk s.pc = true ∧ memoryOk s.mem = true ∧ 0 ≤ s.trap ∧ s.trap ≤ 5 := by
  simp only [stateOk, Bool.and_eq_true, decide_eq_true_eq, List.all_eq_true, inR_t, and_assoc]
theorem fine_zero (w : Word) : Fine w zW := ⟨zW_ok, fun h => by cases h⟩
def Made (pc a b got v : Word) : Prop := Fine pc v ∨ Fine a v ∨ Fine b v ∨ Fine got v
theorem Made.ok {pc a b got v : Word} (h : Made pc a b got v) : wordOk v = true := by rcases h with h | h | h | h <;> exact h.1
theorem Made.und {C : List Word} {pc a b got v : Word} (h : Made pc a b got v) (h1 : Und C pc) (h2 : Und C a) (h3 : Und C b) (h4 : Und C got) : Und C v := by
  rcases h with h | h | h | h
  · exact h.und h1
  · exact h.und h2
  · exact h.und h3
  · exact h.und h4
theorem madeW_made {x : Inst} {pc a b got : Word} (ha : wordOk a = true) (hg : wordOk got = true) : Made pc a b got (madeW x a b got) := by
  unfold madeW
  repeat' split
  · exact .inr (.inl (fine_bare _ _))
  · exact .inr (.inl (fine_bare _ _))
  · exact .inr (.inl (fine_self ha))
  · exact .inr (.inl (weakenW_fine _ _))
  · exact .inr (.inl (narrowW_fine _ _))
  · exact .inr (.inl (pointW_fine _ _))
  · exact .inr (.inl (sealBy_fine _ _))
  · exact .inr (.inl (openBy_fine _ _))
  · exact .inr (.inl (fine_bare _ _))
  · exact .inr (.inl (fine_bare _ _))
  · exact .inr (.inr (.inr (fine_self hg)))
theorem nextW_made {pc a b got : Word} : Made pc a b got (nextW pc) := .inl (pointW_fine _ _)
theorem made_zero {pc a b got : Word} : Made pc a b got zW := .inl (fine_zero _)
structure WorkSpec (x : Inst) (pc a b got : Word) (e : Eff) : Prop where
  val : Made pc a b got e.val
  next : Made pc a b got e.next
  put : Made pc a b got e.put
  addr : e.addr ≠ -1 → x.op = 11 ∧ e.addr = IntKind.i64.wrap (a.n + x.n) ∧ e.put = b
  drop : e.drop ≠ -1 → tryW a a.n 32 = 0 ∧ e.drop = a.key.base
theorem workE_spec {x : Inst} {pc a b got : Word} (ha : wordOk a = true) (hb : wordOk b = true) (hg : wordOk got = true) :
    (0 ≤ (workE x pc a b got).trap ∧ (workE x pc a b got).trap ≤ 5) ∧ ((workE x pc a b got).trap = 0 → WorkSpec x pc a b got (workE x pc a b got)) := by
  unfold workE
  split
  · rename_i h
    exact ⟨(show (0 : Int) ≤ 0 ∧ (0 : Int) ≤ 5 by decide), fun _ => ⟨made_zero, nextW_made, .inr (.inr (.inl (fine_self hb))), fun _ => ⟨h, rfl, rfl⟩, fun h => absurd rfl h⟩⟩
  split
  · split
    · have := tryW_in a a.n 4
      rename_i h2
      exact ⟨by show 0 ≤ tryW a a.n 4 ∧ tryW a a.n 4 ≤ 5; omega, fun h => absurd h h2⟩
    · exact ⟨(show (0 : Int) ≤ 0 ∧ (0 : Int) ≤ 5 by decide), fun _ => ⟨nextW_made, .inr (.inl (fine_self ha)), made_zero, fun h => absurd rfl h, fun h => absurd rfl h⟩⟩
  split
  · refine ⟨(show (0 : Int) ≤ 0 ∧ (0 : Int) ≤ 5 by decide), fun _ => ⟨made_zero, ?_, made_zero, fun h => absurd rfl h, fun h => absurd rfl h⟩⟩
    dsimp only
    split
    · exact .inl (pointW_fine _ _)
    · exact nextW_made
  split
  · split
    · have := tryW_in a a.n 32
      rename_i h2
      exact ⟨by show 0 ≤ tryW a a.n 32 ∧ tryW a a.n 32 ≤ 5; omega, fun h => absurd h h2⟩
    · rename_i h2
      exact ⟨(show (0 : Int) ≤ 0 ∧ (0 : Int) ≤ 5 by decide), fun _ => ⟨made_zero, nextW_made, made_zero, fun h => absurd rfl h, fun _ => ⟨by simpa using h2, rfl⟩⟩⟩
  split
  · exact ⟨(show (0 : Int) ≤ 5 ∧ (5 : Int) ≤ 5 by decide), fun h => by cases h⟩
  split
  · refine ⟨(show (0 : Int) ≤ 0 ∧ (0 : Int) ≤ 5 by decide), fun _ => ⟨?_, nextW_made, made_zero, fun h => absurd rfl h, fun h => absurd rfl h⟩⟩
    dsimp only
    split
    · exact madeW_made ha hg
    · exact made_zero
  · exact ⟨(show (0 : Int) ≤ 0 ∧ (0 : Int) ≤ 5 by decide), fun _ => ⟨made_zero, nextW_made, made_zero, fun h => absurd rfl h, fun h => absurd rfl h⟩⟩
theorem readC_00 {m : Mem} {y : Word} {n : Int} (h : readC m y n = 0) : tryW y n 1 = 0 ∧ 0 ≤ n ∧ n ≤ m.words.length - 1 := by
  unfold readC at h
  split at h
  · rename_i h1; exact absurd h h1
  · rename_i h1
    split at h
    · rename_i h2; exact ⟨by omega, by have := inR_t.1 h2; omega⟩
    · cases h
theorem writeC_00 {m : Mem} {y w : Word} {n : Int} (h : writeC m y n w = 0) : tryW y n 2 = 0 ∧ 0 ≤ n ∧ n ≤ m.words.length - 1 := by
  unfold writeC at h
  split at h
  · rename_i h1; exact absurd h h1
  · rename_i h1
    split at h
    · cases h
    · rename_i h2
      have h2 : inR n 0 (m.words.length - 1) = true := by simpa using h2
      exact ⟨by omega, by have := inR_t.1 h2; omega⟩
theorem readM_00 {m : Mem} {y : Word} {n : Int} (h : (readM m y n).2 = 0) : tryW y n 1 = 0 ∧ 0 ≤ n ∧ n ≤ m.words.length - 1 ∧ (readM m y n).1 = filterW m.gone (takenW y (m.words.getD n.toNat (FT.zero .word))) := by
  unfold readM at h ⊢
  split at h
  · rename_i h1; exact absurd h h1
  · rename_i h1
    rw [if_neg h1]
    have := readC_00 (m := m) (y := y) (n := n) (by omega)
    exact ⟨this.1, this.2.1, this.2.2, rfl⟩
theorem readM_ok {m : Mem} (hm : ∀ w ∈ m.words, wordOk w = true) (y : Word) (n : Int) : wordOk (readM m y n).1 = true := by
  unfold readM
  split
  · exact zW_ok
  · exact (filterW_fine (takenW_fine (getD_ok hm _)).1).1
theorem memE_ok {m : Mem} (hm : ∀ w ∈ m.words, wordOk w = true) (x : Inst) (a b : Word) : wordOk (memE m x a b).1 = true := by
  unfold memE
  repeat' split
  · exact readM_ok hm _ _
  · exact zW_ok
  · exact zW_ok
structure EffSpec (l : List Inst) (s : State) (x : Inst) (a b got : Word) : Prop where
  fetch : fetchI l s.pc = (x, 0)
  hx : insOk x = true
  ha : a = s.regs.getD x.a.toNat (FT.zero .word)
  hb : b = s.regs.getD x.b.toNat (FT.zero .word)
  mem : memE s.mem x a b = (got, 0)
  eff : effE l s = workE x s.pc a b got
theorem effE_parts {l : List Inst} {s : State} (h : (effE l s).trap = 0) : ∃ x a b got, EffSpec l s x a b got := by
  by_cases h1 : (fetchI l s.pc).2 = 0
  · by_cases h2 : (memE s.mem (fetchI l s.pc).1 (s.regs.getD (fetchI l s.pc).1.a.toNat (FT.zero .word)) (s.regs.getD (fetchI l s.pc).1.b.toNat (FT.zero .word))).2 = 0
    · refine ⟨(fetchI l s.pc).1, _, _, (memE s.mem (fetchI l s.pc).1 (s.regs.getD (fetchI l s.pc).1.a.toNat (FT.zero .word)) (s.regs.getD (fetchI l s.pc).1.b.toNat (FT.zero .word))).1, ?_, fetchI_ok h1, rfl, rfl, ?_, ?_⟩
      · rw [← h1]
      · rw [← h2]
      · unfold effE; simp only; rw [if_neg (by simpa using h1), if_neg (by simpa using h2)]
    · unfold effE at h; simp only at h; rw [if_neg (by simpa using h1), if_pos h2] at h; exact absurd h h2
  · unfold effE at h; simp only at h; rw [if_pos h1] at h; exact absurd h h1
theorem EffSpec.work {l : List Inst} {s : State} {x : Inst} {a b got : Word} (h : EffSpec l s x a b got) (hs : stateOk s = true) (h0 : (effE l s).trap = 0) : WorkSpec x s.pc a b got (effE l s) := by
  obtain ⟨h1, h2, h3, h4, h5, h6⟩ := stateOk_iff.1 hs
  obtain ⟨m1, m2, m3⟩ := memoryOk_iff.1 h4
  have hg := memE_ok m3 x a b
  rw [h.mem] at hg
  rw [h.eff] at h0 ⊢
  exact (workE_spec (by rw [h.ha]; exact getD_ok h2 _) (by rw [h.hb]; exact getD_ok h2 _) hg).2 h0
theorem EffSpec.store {l : List Inst} {s : State} {x : Inst} {a b got : Word} (h : EffSpec l s x a b got) (hs : stateOk s = true) (h0 : (effE l s).trap = 0) (ha : (effE l s).addr ≠ -1) :
    tryW a (effE l s).addr 2 = 0 ∧ 0 ≤ (effE l s).addr ∧ (effE l s).addr ≤ 23 ∧ (effE l s).put = b := by
  obtain ⟨w1, w2, w3⟩ := (h.work hs h0).addr ha
  have hm := h.mem
  rw [memE_11 (by omega) w1] at hm
  have := writeC_00 (congrArg Prod.snd hm)
  obtain ⟨h1, h2, h3, h4, h5, h6⟩ := stateOk_iff.1 hs
  obtain ⟨m1, m2, m3⟩ := memoryOk_iff.1 h4
  rw [← w2] at this
  exact ⟨this.1, this.2.1, by omega, w3⟩
theorem EffSpec.load {l : List Inst} {s : State} {x : Inst} {a b got : Word} (h : EffSpec l s x a b got) : got = zW ∨ ∃ n : Int, tryW a n 1 = 0 ∧ 0 ≤ n ∧ n ≤ s.mem.words.length - 1 ∧ got = filterW s.mem.gone (takenW a (s.mem.words.getD n.toNat (FT.zero .word))) := by
  have hm := h.mem
  by_cases h1 : x.op = 10
  · rw [memE_10 h1] at hm
    obtain ⟨r1, r2, r3, r4⟩ := readM_00 (congrArg Prod.snd hm)
    right
    refine ⟨_, r1, r2, r3, ?_⟩
    rw [← r4, hm]
  · left
    by_cases h2 : x.op = 11
    · rw [memE_11 h1 h2] at hm; exact (congrArg Prod.fst hm).symm
    · rw [memE_x h1 h2] at hm; exact (congrArg Prod.fst hm).symm
theorem mem_set {α : Type} {xs : List α} {i : Nat} {v x : α} (h : x ∈ xs.set i v) : x ∈ xs ∨ x = v := List.mem_or_eq_of_mem_set h
theorem stepS_cases {l : List Inst} {s : State} (hs : stateOk s = true) :
    (s.trap ≠ 0 ∧ stepS l s = s) ∨ (s.trap = 0 ∧ (effE l s).trap ≠ 0 ∧ stepS l s = ⟨s.regs, s.pc, s.mem, (effE l s).trap⟩) ∨ (s.trap = 0 ∧ (effE l s).trap = 0 ∧ stepS l s = putE s (effE l s)) := by
  by_cases h : s.trap = 0
  · by_cases h2 : (effE l s).trap = 0
    · exact .inr (.inr ⟨h, h2, stepS_0 hs h h2⟩)
    · exact .inr (.inl ⟨h, h2, stepS_e hs h h2⟩)
  · exact .inl ⟨h, stepS_trap hs h⟩

/-! a closure: it has its roots, what its words open, and no more -/
theorem putW_min {P : Word → Prop} {out : List Word} {w : Word} (h : ∀ x ∈ out, P x) (hw : w.is = true → wordOk w = true → P w) : ∀ x ∈ putW out w, P x := by
  intro x hx
  unfold putW at hx
  split at hx
  · rename_i hc
    simp only [Bool.and_eq_true] at hc
    rcases List.mem_append.1 hx with q | q
    · exact h x q
    · rw [List.mem_singleton.1 q]; exact hw hc.1.1 hc.1.2
  · exact h x hx
theorem foldPut_min {P : Word → Prop} : ∀ {l out : List Word}, (∀ x ∈ out, P x) → (∀ w ∈ l, w.is = true → wordOk w = true → P w) → ∀ x ∈ l.foldl putW out, P x
  | [], out, h, _ => h
  | v :: l, out, h, hl => foldPut_min (l := l) (putW_min h (hl v (by simp))) (fun w hw => hl w (by simp [hw]))
theorem scan_min {P : Word → Prop} {ws : List Word} : ∀ {n c : Nat} {out : List Word}, (∀ x ∈ out, P x) → (∀ j, c ≤ j → j < c + n → (ws.getD j (FT.zero .word)).is = true → P (ws.getD j (FT.zero .word))) → ∀ x ∈ scan ws n c out, P x
  | 0, c, out, h, _ => h
  | n + 1, c, out, h, hj => scan_min (n := n) (c := c + 1) (putW_min h fun hi _ => hj c (by omega) (by omega) hi) (fun j h1 h2 => hj j (by omega) (by omega))
theorem closGo_min {P : Word → Prop} {ws : List Word} (hk : ∀ k : Word, P k → opens k.key = true → ∀ j : Nat, k.key.base.toNat ≤ j → j < k.key.base.toNat + (min k.key.top 24 - k.key.base).toNat → (ws.getD j (FT.zero .word)).is = true → P (ws.getD j (FT.zero .word))) :
    ∀ {n i : Nat} {out : List Word}, (∀ x ∈ out, P x) → ∀ x ∈ closGo ws n i out, P x
  | 0, _, _, h => h
  | n + 1, i, out, h => by
    unfold closGo; split
    · rename_i hi
      refine closGo_min hk (n := n) ?_
      unfold closStep; split
      · rename_i ho
        exact scan_min h (fun j h1 h2 h3 => hk _ (h _ (getD_mem hi)) ho j h1 h2 h3)
      · exact h
    · exact h
theorem closure_min {P : Word → Prop} {m : Mem} {l : List Word} (hl : ∀ w ∈ l, w.is = true → wordOk w = true → P w)
    (hk : ∀ k : Word, P k → opens k.key = true → ∀ j : Nat, k.key.base.toNat ≤ j → j < k.key.base.toNat + (min k.key.top 24 - k.key.base).toNat → (m.words.getD j (FT.zero .word)).is = true → P (m.words.getD j (FT.zero .word))) : ∀ x ∈ closure m l, P x := by
  unfold closure; split
  · exact closGo_min hk (foldPut_min (fun x hx => by cases hx) hl)
  · intro x hx; cases hx
/-! ### what is under a closed set -/
def Reach (C : List Word) (m : Mem) : Prop := ∀ c ∈ C, c.is = true → opens c.key = true → ∀ j : Nat, c.key.base ≤ j → (j : Int) < c.key.top → j < 24 → Und C (m.words.getD j (FT.zero .word))
theorem opens_iff {k : Key} : opens k = true ↔ ¬ andI k.perms 1 = 0 ∧ ¬ andI k.perms 8 = 0 := by simp [opens]
theorem opens_up {a b : Key} (h : coversK a b = true) (ho : opens b = true) : opens a = true := by
  obtain ⟨h1, h2, h3, h4, h5⟩ := coversK_iff.1 h
  obtain ⟨o1, o2⟩ := opens_iff.1 ho
  exact opens_iff.2 ⟨andI_bit h5 o1, andI_bit h5 o2⟩
theorem closure_under {C : List Word} {m : Mem} {l : List Word} (hl : ∀ w ∈ l, Und C w) (hr : Reach C m) : ∀ x ∈ closure m l, Und C x := by
  intro x hx
  have hm : memoryOk m = true := by
    unfold closure at hx; split at hx
    · assumption
    · cases hx
  obtain ⟨m1, m2, m3⟩ := memoryOk_iff.1 hm
  refine (closure_min (P := fun x => (x.is = true ∧ wordOk x = true) ∧ Und C x) (fun w hw h1 h2 => ⟨⟨h1, h2⟩, hl w hw⟩) (fun k hk ho j h1 h2 h3 => ?_) x hx).2
  obtain ⟨⟨hki, hko⟩, hku⟩ := hk
  have hn := keyOk_n (wordOk_is hko hki)
  refine ⟨⟨h3, getD_ok m3 j⟩, ?_⟩
  obtain ⟨c, c1, c2, c3⟩ := hku hki
  obtain ⟨q1, q2, q3, q4, q5⟩ := coversK_iff.1 c3
  exact hr c c1 c2 (opens_up c3 ho) j (by omega) (by omega) (by omega)
theorem hasP_iff {w : Word} {p : Int} : hasP w p = true ↔ w.is = true ∧ ¬ andI w.key.perms p = 0 := by simp [hasP]
theorem mem_filt {f : Nat → Bool} {n : Nat} {c : Int} : c ∈ filt f n ↔ ∃ j : Nat, j < n ∧ f j = true ∧ c = j := by
  simp only [filt, List.mem_map, List.mem_filter, List.mem_range]
  constructor
  · rintro ⟨j, ⟨h1, h2⟩, rfl⟩; exact ⟨j, h1, h2, rfl⟩
  · rintro ⟨j, h1, h2, rfl⟩; exact ⟨j, ⟨h1, h2⟩, rfl⟩
theorem coverP_iff {ws : List Word} {p : Int} {c : Nat} : coverP ws p c = true ↔ ∃ w ∈ ws, hasP w p = true ∧ w.key.base ≤ c ∧ (c : Int) ≤ w.key.top - 1 := by
  simp only [coverP, List.any_eq_true, Bool.and_eq_true, inR_t]
theorem cover_up {C : List Word} {w : Word} {p : Int} {c : Nat} (h : Und C w) (hp : hasP w p = true) (h1 : w.key.base ≤ c) (h2 : (c : Int) ≤ w.key.top - 1) : coverP C p c = true := by
  obtain ⟨p1, p2⟩ := hasP_iff.1 hp
  obtain ⟨d, d1, d2, d3⟩ := h p1
  obtain ⟨q1, q2, q3, q4, q5⟩ := coversK_iff.1 d3
  exact coverP_iff.2 ⟨d, d1, hasP_iff.2 ⟨d2, andI_bit q5 p2⟩, by omega, by omega⟩
theorem mem_cellsBy {m : Mem} {l : List Word} {p c : Int} : c ∈ cellsBy m l p ↔ ∃ j : Nat, j < 24 ∧ coverP (closure m l) p j = true ∧ c = j := mem_filt
structure Inv (C : List Word) (s : State) : Prop where
  ok : stateOk s = true
  regs : ∀ w ∈ s.regs, Und C w
  pc : Und C s.pc
  mem : Reach C s.mem
def hold (s : State) : List Word := s.regs ++ [s.pc]
theorem Inv.under {C : List Word} {s : State} (h : Inv C s) : ∀ x ∈ closure s.mem (hold s), Und C x := closure_under (fun w hw => by
  rcases List.mem_append.1 hw with q | q
  · exact h.regs w q
  · rw [List.mem_singleton.1 q]; exact h.pc) h.mem
theorem Inv.got {C : List Word} {l : List Inst} {s : State} (h : Inv C s) {x : Inst} {a b got : Word} (he : EffSpec l s x a b got) : Und C a ∧ Und C b ∧ Und C got := by
  obtain ⟨r1, r2, r3, r4, r5, r6⟩ := stateOk_iff.1 h.ok
  obtain ⟨m1, m2, m3⟩ := memoryOk_iff.1 r4
  have ha : Und C a := by rw [he.ha]; exact getD_und h.regs _
  have hb : Und C b := by rw [he.hb]; exact getD_und h.regs _
  refine ⟨ha, hb, ?_⟩
  rcases he.load with rfl | ⟨n, h1, h2, h3, rfl⟩
  · exact und_zero C
  · obtain ⟨t1, t2, t3, t4, t5, t6⟩ := tryW_0 h1
    obtain ⟨j, rfl⟩ := Int.eq_ofNat_of_zero_le h2
    have hj : j < 24 := by omega
    rw [Int.toNat_natCast]
    by_cases h8 : andI a.key.perms 8 = 0
    · rw [show takenW a (s.mem.words.getD j (FT.zero .word)) = plainW (s.mem.words.getD j (FT.zero .word)).n from if_pos h8]
      exact (filterW_fine (plainW_ok _)).und (und_bare C _)
    · obtain ⟨c, c1, c2, c3⟩ := ha t2
      obtain ⟨q1, q2, q3, q4, q5⟩ := coversK_iff.1 c3
      have hu := h.mem c c1 c2 (opens_up c3 (opens_iff.2 ⟨by rw [t4]; decide, h8⟩)) j (by omega) (by omega) hj
      exact (filterW_fine (takenW_fine (getD_ok m3 j)).1).und ((takenW_fine (getD_ok m3 j)).und hu)
theorem Inv.gone {C : List Word} {l : List Inst} {s : State} (h : Inv C s) (hC : ∀ c ∈ C, hasP c 32 = false) : (stepS l s).mem.gone = s.mem.gone := by
  have hs := h.ok
  rcases stepS_cases (l := l) hs with ⟨h1, h2⟩ | ⟨h1, h2, h3⟩ | ⟨h1, h2, h3⟩
  · rw [h2]
  · rw [h3]
  · rw [h3]
    obtain ⟨x, a, b, got, he⟩ := effE_parts h2
    obtain ⟨u1, u2, u3⟩ := h.got he
    unfold putE; dsimp only
    split
    · rename_i hr
      have hr := inR_t.1 hr
      obtain ⟨d1, d2⟩ := (he.work hs h2).drop (by omega)
      obtain ⟨t1, t2, t3, t4, t5, t6⟩ := tryW_0 d1
      obtain ⟨d, e1, e2, e3⟩ := u1 t2
      obtain ⟨q1, q2, q3, q4, q5⟩ := coversK_iff.1 e3
      have := hC d e1
      rw [hasP_iff.2 ⟨e2, andI_bit q5 (by rw [t4]; decide)⟩] at this
      cases this
    · rfl


/-! what is kept is read as it was -/

/-! two that are apart -/
theorem twoOk_iff {t : Two} : twoOk t = true ↔ stateOk (sideState t 0) = true ∧ stateOk (sideState t 1) = true := by simp [twoOk]
theorem meetI_f {a b : List Int} : meetI a b = false ↔ ∀ c ∈ a, c ∉ b := by
  simp only [meetI, List.any_eq_false]
  constructor
  · intro h c hc hb
    exact h c hc (List.any_eq_true.2 ⟨c, hb, beq_iff_eq.2 rfl⟩)
  · intro h c hc hb
    obtain ⟨x, hx, e⟩ := List.any_eq_true.1 hb
    rw [beq_iff_eq.1 e] at hc
    exact h x hc hx
def Ap (C D : List Word) : Prop := ∀ j : Nat, j < 24 → coverP C 2 j = true → coverP D 1 j = false ∧ coverP D 2 j = false
def NoSeal (C : List Word) : Prop := ∀ c ∈ C, hasP c 32 = false
structure Both (A B : List Word) (t : Two) : Prop where
  a : Inv A (sideState t 0)
  b : Inv B (sideState t 1)
  ab : Ap A B
  ba : Ap B A
  na : NoSeal A
  nb : NoSeal B
theorem Both.ok {A B : List Word} {t : Two} (h : Both A B t) : twoOk t = true := twoOk_iff.2 ⟨h.a.ok, h.b.ok⟩
theorem Both.apart {A B : List Word} {t : Two} (h : Both A B t) (ha : ∀ x ∈ closure t.mem (heldW t.a), Und A x) (hb : ∀ x ∈ closure t.mem (heldW t.b), Und B x) : apartB t = true := by
  have hs : ∀ {C : List Word} {l : List Word}, (∀ x ∈ closure t.mem l, Und C x) → NoSeal C → canSeal t.mem l = false := fun {C l} hu hn => by
    cases e : canSeal t.mem l with
    | false => rfl
    | true =>
      simp only [canSeal, List.any_eq_true] at e
      obtain ⟨w, h1, h2⟩ := e
      obtain ⟨p1, p2⟩ := hasP_iff.1 h2
      obtain ⟨d, d1, d2, d3⟩ := hu w h1 p1
      obtain ⟨q1, q2, q3, q4, q5⟩ := coversK_iff.1 d3
      have := hn d d1
      rw [hasP_iff.2 ⟨d2, andI_bit q5 p2⟩] at this
      cases this
  have hcov : ∀ {C : List Word} {l : List Word} {p : Int} {j : Nat}, (∀ x ∈ closure t.mem l, Und C x) → coverP (closure t.mem l) p j = true → coverP C p j = true := fun {C l p j} hu hc => by
    obtain ⟨w, w1, w2, w3, w4⟩ := coverP_iff.1 hc
    exact cover_up (hu w w1) w2 w3 w4
  have hx : ∀ {C D : List Word} {l k : List Word}, (∀ x ∈ closure t.mem l, Und C x) → (∀ x ∈ closure t.mem k, Und D x) → Ap C D → crossesB t.mem l k = false := fun {C D l k} hu hv hap => by
    refine meetI_f.2 fun c hc hc2 => ?_
    obtain ⟨j, h1, h2, rfl⟩ := mem_cellsBy.1 hc
    have := hap j h1 (hcov hu h2)
    rcases List.mem_append.1 hc2 with q | q
    · obtain ⟨i, i1, i2, i3⟩ := mem_cellsBy.1 q
      have : i = j := by omega
      subst this
      have := hcov hv i2
      simp_all
    · obtain ⟨i, i1, i2, i3⟩ := mem_cellsBy.1 q
      have : i = j := by omega
      subst this
      have := hcov hv i2
      simp_all
  simp only [apartB, Bool.and_eq_true, Bool.not_eq_true']
  exact ⟨⟨⟨h.ok, hs ha h.na⟩, hs hb h.nb⟩, hx ha hb h.ab, hx hb ha h.ba⟩

structure Cur where
  b : List Int
  i : Int
  h : Int
def Cur.tc (c : Cur) (r : List TC) : List TC := tl false (.int .u8) c.b :: .int .i64 c.i :: .int .i64 c.h :: r



theorem U8s.put {a : List Int} (ha : U8s a) {i : Nat} {v : Int} (hv : 0 ≤ v ∧ v ≤ 255) : U8s (a.set i v) := fun x hx => by
  rcases mem_set hx with q | q
  · exact ha x q
  · rw [q]; exact hv















/-! what the small programs do -/






theorem spanD_mem {l : List Span} {i : Nat} (h : i < l.length) : l.getD i (FT.zero .span) ∈ l := by
  rw [List.getD_eq_getElem?_getD, List.getElem?_eq_getElem h]; exact List.getElem_mem h

def Ord (l : List Span) : Prop := l.Pairwise (fun a b => a.at_ < b.at_)
theorem ord_of {l : List Span} (h : ∀ j, 0 < j → j < l.length → (l.getD (j - 1) (FT.zero .span)).at_ < (l.getD j (FT.zero .span)).at_) : Ord l := by
  have key : ∀ d i : Nat, i + d + 1 < l.length → (l.getD i (FT.zero .span)).at_ < (l.getD (i + d + 1) (FT.zero .span)).at_ := by
    intro d
    induction d with
    | zero => intro i hi; have := h (i + 1) (by omega) hi; simpa using this
    | succ d ih =>
      intro i hi
      have h1 := ih i (by omega)
      have h2 := h (i + (d + 1) + 1) (by omega) hi
      rw [show i + (d + 1) + 1 - 1 = i + d + 1 by omega] at h2
      omega
  refine List.pairwise_iff_getElem.2 fun i j hi hj hij => ?_
  have := key (j - i - 1) i (by omega)
  rw [show i + (j - i - 1) + 1 = j by omega] at this
  simpa [List.getD_eq_getElem?_getD, hi, hj] using this
theorem ord_step {l : List Span} (h : Ord l) {j : Nat} (h0 : 0 < j) (hj : j < l.length) : (l.getD (j - 1) (FT.zero .span)).at_ < (l.getD j (FT.zero .span)).at_ := by
  have := List.pairwise_iff_getElem.1 h (j - 1) j (by omega) hj (by omega)
  simpa [List.getD_eq_getElem?_getD, hj, show j - 1 < l.length by omega] using this
theorem spansOk_ord {l : List Span} : spansOk l = true ↔ (∀ s ∈ l, spanOk s = true) ∧ Ord l := by
  rw [spansOk_iff]
  constructor
  · intro h
    refine ⟨spansOk_mem (spansOk_iff.2 h), ord_of fun j h0 hj => ?_⟩
    have := ((spanChk_iff l j).1 (h j hj)).2
    omega
  · rintro ⟨h1, h2⟩ j hj
    have hs := h1 _ (spanD_mem hj)
    rw [spanChk_iff]
    simp only [spanOk, Bool.and_eq_true, inR_t] at hs
    refine ⟨hs, ?_⟩
    by_cases h0 : j = 0
    · exact .inl h0
    · exact .inr (ord_step h2 (by omega) hj)


theorem ord_ge {l : List Span} (h : spansOk l = true) : ∀ j : Nat, j < l.length → (j : Int) ≤ (l.getD j (FT.zero .span)).at_ := by
  obtain ⟨h1, h2⟩ := spansOk_ord.1 h
  intro j
  induction j with
  | zero =>
    intro hj
    have hs := h1 _ (spanD_mem hj)
    simp only [spanOk, Bool.and_eq_true, inR_t] at hs
    omega
  | succ j ih =>
    intro hj
    have := ih (by omega)
    have := ord_step h2 (show 0 < j + 1 by omega) hj
    rw [Nat.add_sub_cancel] at this
    omega
theorem spansOk_len {l : List Span} (h : spansOk l = true) : l.length ≤ 24 := by
  by_cases h0 : l.length = 0
  · omega
  · have hj : l.length - 1 < l.length := by omega
    have := ord_ge h (l.length - 1) hj
    have hs := (spansOk_ord.1 h).1 _ (spanD_mem hj)
    simp only [spanOk, Bool.and_eq_true, inR_t] at hs
    omega
theorem heapOk_iff {h : Heap} : heapOk h = true ↔ memoryOk h.mem = true ∧ spansOk h.live = true ∧ spansOk h.waits = true ∧ ∀ c, c < 24 → cnt h.live c + cnt h.waits c ≤ 1 ∧ h.mem.gone.getD c false = decide (0 < cnt h.waits c) := by
  simp only [heapOk, Bool.and_eq_true, allR_iff, decide_eq_true_eq, beq_iff_eq, and_assoc]
theorem heapOk_len {h : Heap} (k : heapOk h = true) : LHeap h 24 := by
  obtain ⟨h1, h2, h3, h4⟩ := heapOk_iff.1 k
  obtain ⟨m1, m2, m3⟩ := memoryOk_iff.1 h1
  exact ⟨⟨by omega, by omega⟩, spansOk_len h2, spansOk_len h3⟩
def InSpan (l : List Span) (w : Word) : Prop := w.is = true → w.key.base < w.key.top → ∃ s ∈ l, s.at_ ≤ w.key.base ∧ w.key.top ≤ s.at_ + s.len
structure Good (h : Heap) (rs : List Word) : Prop where
  ok : heapOk h = true
  regs : ∀ w ∈ rs, wordOk w = true ∧ InSpan (h.live ++ h.waits) w
  mem : ∀ w ∈ h.mem.words, InSpan (h.live ++ h.waits) w
theorem Good.len {h : Heap} {rs : List Word} (g : Good h rs) : LHeap h 24 := heapOk_len g.ok










def pf_strconv_Itoa : PF := ⟨[.t 2], .seq (.reg [.s (.mv 2 (.k (.v (.c (.str ⟨#[]⟩)))))]) (.seq (.reg [.s (.mv 3 (.t 0)), .s (.call (some 4) 17 [(.t 3)]), .s (.mv 2 (.t 4))]) (.ret))⟩
def c_strconv_Itoa : Fun := itoaFun 12
theorem ok_strconv_Itoa : FunOk Tryd.prog c_strconv_Itoa := by
  obtain ⟨b, hb⟩ := Option.isSome_iff_exists.1 (show (Tryd.prog.globalNamed tabName).isSome = true by kernel_rfl)
  exact itoa_ok (callable_of Tryd.func12 (pf := pf_strconv_Itoa) (by kernel_rfl)) hb fun n h0 h1 w ht => Tryd.strconv_Itoa n h0 h1 w ht

theorem decDigits_small {m : Nat} (h : m < 10) : Lib.decDigits m = [UInt8.ofNat (48 + m)] := by rw [Lib.decDigits]; simp [h]
theorem decDigits_big {m : Nat} (h : 10 ≤ m) : Lib.decDigits m = Lib.decDigits (m / 10) ++ [UInt8.ofNat (48 + m % 10)] := by rw [Lib.decDigits]; simp [show ¬ m < 10 by omega]
def sgn (b : Bool) (m : Nat) : Int := if b then -(m : Int) else m
theorem sgn_abs (n : Int) : sgn (decide (n < 0)) n.natAbs = n := by
  unfold sgn
  by_cases h : n < 0
  · rw [decide_eq_true h, if_pos rfl]; omega
  · rw [decide_eq_false h, if_neg (by simp)]; omega
theorem sgn_quo (b : Bool) (m : Nat) : Int.tdiv (sgn b m) 10 = sgn b (m / 10) := by
  unfold sgn
  cases b
  · rw [if_neg (by simp), if_neg (by simp)]; exact Int.ofNat_tdiv m 10 |>.symm
  · rw [if_pos rfl, if_pos rfl, Int.neg_tdiv]; exact congrArg Neg.neg (Int.ofNat_tdiv m 10).symm
theorem sgn_rem (b : Bool) (m : Nat) : Int.tmod (sgn b m) 10 = sgn b (m % 10) := by
  unfold sgn
  cases b
  · rw [if_neg (by simp), if_neg (by simp)]; exact Int.ofNat_tmod m 10 |>.symm
  · rw [if_pos rfl, if_pos rfl, Int.neg_tmod]; exact congrArg Neg.neg (Int.ofNat_tmod m 10).symm
theorem sgn_ne (b : Bool) (m : Nat) : (sgn b m != 0) = decide (m ≠ 0) := by
  unfold sgn
  cases b
  · rw [if_neg (by simp)]; rw [Bool.eq_iff_iff]; simp
  · rw [if_pos rfl]; rw [Bool.eq_iff_iff]; simp
theorem itoaB_0 : itoaB 0 = ⟨#[48]⟩ := by
  unfold itoaB Lib.itoa
  rw [if_neg (by decide), show (0 : Int).toNat = 0 from rfl, decDigits_small (by decide)]
  rfl
theorem bcat (a b : List UInt8) : (⟨a.toArray⟩ : ByteArray) ++ ⟨b.toArray⟩ = ⟨(a ++ b).toArray⟩ := by
  apply ByteArray.ext
  rw [ByteArray.data_append]
  simp
theorem bsize (a : List UInt8) : (⟨a.toArray⟩ : ByteArray).size = a.length := by
  show a.toArray.size = _
  simp
theorem digit (b : Bool) (m : Nat) : strI [IntKind.u8.wrap (IntKind.i64.wrap (48 + ((m % 10 : Nat) : Int)))] = ⟨[UInt8.ofNat (48 + m % 10)].toArray⟩ := by
  have : ∀ k : Fin 10, strI [IntKind.u8.wrap (IntKind.i64.wrap (48 + ((k.1 : Nat) : Int)))] = ⟨[UInt8.ofNat (48 + k.1)].toArray⟩ := by decide +kernel
  exact this ⟨m % 10, Nat.mod_lt _ (by decide)⟩

def lb_spec_l7Digits_0 : PC := .seq (.seq (.reg [.s (.mv 10 (.t 0)), .s (.bin 11 .neq (.t 10) (.k (.v (.c (.int .i64 0)))))]) (.cond (.t 11) (.skip) (.exit 0))) (.blk 1 (.seq (.reg [.s (.mv 12 (.t 0)), .s (.bin 13 .rem (.t 12) (.k (.v (.c (.int .i64 10))))), .s (.mv 5 (.t 13))]) (.seq (.seq (.reg [.s (.mv 14 (.t 5)), .s (.bin 15 .lss (.t 14) (.k (.v (.c (.int .i64 0)))))]) (.cond (.t 15) (.reg [.s (.mv 16 (.t 5)), .s (.bin 17 .sub (.k (.v (.c (.int .i64 0)))) (.t 16)), .s (.mv 5 (.t 17))]) (.skip))) (.seq (.reg [.s (.mv 18 (.t 5)), .s (.bin 19 .add (.k (.v (.c (.int .i64 48)))) (.t 18)), .s (.conv 20 .u8 (.t 19)), .s (.bs 21 (.int .u8) [(.t 20)]), .s (.b2s 22 (.t 21)), .s (.mv 23 (.t 4)), .s (.cat 24 (.t 22) (.t 23)), .s (.mv 4 (.t 24))]) (.reg [.s (.mv 25 (.t 0)), .s (.bin 26 .quo (.t 25) (.k (.v (.c (.int .i64 10))))), .s (.mv 0 (.t 26))])))))
def pf_spec_l7Digits : PF := ⟨[.t 2], .seq (.reg [.s (.mv 2 (.k (.v (.c (.str ⟨#[]⟩)))))]) (.seq (.seq (.reg [.s (.mv 6 (.t 0)), .s (.bin 7 .eql (.t 6) (.k (.v (.c (.int .i64 0)))))]) (.cond (.t 7) (.seq (.reg [.s (.mv 2 (.k (.v (.c (.str ⟨#[48]⟩)))))]) (.ret)) (.skip))) (.seq (.reg [.s (.mv 8 (.t 0)), .s (.bin 9 .lss (.t 8) (.k (.v (.c (.int .i64 0))))), .s (.mv 3 (.t 9))]) (.seq (.reg [.s (.mv 4 (.k (.v (.c (.str ⟨#[]⟩)))))]) (.seq (.blk 0 (.loop [0, 3, 4] lb_spec_l7Digits_0)) (.seq (.seq (.reg [.s (.mv 27 (.t 3))]) (.cond (.t 27) (.seq (.reg [.s (.mv 28 (.t 4)), .s (.cat 29 (.k (.v (.c (.str ⟨#[45]⟩)))) (.t 28)), .s (.mv 2 (.t 29))]) (.ret)) (.skip))) (.seq (.reg [.s (.mv 30 (.t 4)), .s (.mv 2 (.t 30))]) (.ret)))))))⟩
def c_spec_l7Digits : Fun := ⟨11, [], fun ts K => as1 ts fun t0 => arC (pI .i64) t0 fun n => chk (-9223372036854775808 ≤ n ∧ n ≤ 9223372036854775807) (K (.v (.c (.str (itoaB n)))) [])⟩
theorem run_spec_l7Digits (n : Int) (hpre : -9223372036854775808 ≤ n ∧ n ≤ 9223372036854775807) : runK [] (30) [] pf_spec_l7Digits [tI .i64 n] fun r o => r = .v (.c (.str (itoaB n))) ∧ o = [] := by
  have hsg := sgn_abs n
  have hN : n.natAbs < 10 ^ 20 := by have : (10 : Nat) ^ 20 = 100000000000000000000 := by decide
                                     omega
  conv => whnf
  repeat' (first | (refine sel_i (fun h => ?_) (fun h => ?_) <;> conv => whnf) | (refine chk_c ?_ ?_ <;> conv => whnf) | (refine And.intro ?_ rfl) | (refine And.intro ?_ ?_ <;> conv => whnf))
  · have hn : n = 0 := by simpa using h
    subst hn
    rw [itoaB_0]
  have hn : n ≠ 0 := by simpa using h
  clear h
  have hN0 : n.natAbs ≠ 0 := by omega
  generalize hb : decide (n < 0) = b at *
  generalize hM : n.natAbs = M at *
  have hres : itoaB n = if b then ⟨(45 :: Lib.decDigits M).toArray⟩ else ⟨(Lib.decDigits M).toArray⟩ := by
    unfold itoaB Lib.itoa
    rw [← hb, ← hM]
    by_cases h : n < 0
    · rw [if_pos h, decide_eq_true h, if_pos rfl]
    · rw [if_neg h, decide_eq_false h, if_neg (by simp), show n.toNat = n.natAbs by omega]
  rw [hres]
  have hMb : (M : Int) ≤ 9223372036854775808 := by omega
  clear hres hb hM
  subst hsg
  refine loop (α := Nat × List UInt8 × Nat) (fun q => ⟨[(0, .v (.c (.int .i64 (sgn b q.1)))), (3, .v (.c (.bool b))), (4, .v (.c (.str ⟨q.2.1.toArray⟩)))], [], nums, [], false, []⟩)
      (fun q => (q.1 < 10 ^ q.2.2 ∧ q.1 ≤ M ∧ q.2.1.length + q.2.2 ≤ 20) ∧ ((q.1 = 0 ∧ q.2.1 = Lib.decDigits M) ∨ (q.1 ≠ 0 ∧ Lib.decDigits M = Lib.decDigits q.1 ++ q.2.1))) (fun q => q.2.2) (fun q R hI hR => ?_) (M, [], 20) _
      ⟨⟨hN, Nat.le_refl _, Nat.le_refl _⟩, .inr ⟨hN0, (List.append_nil _).symm⟩⟩ (by show 20 < 30; decide)
  obtain ⟨m, out, k⟩ := q
  obtain ⟨⟨i1, i2, i4⟩, i3⟩ := hI
  dsimp only at i1 i2 i3 i4 ⊢
  conv => whnf
  rw [sgn_ne]
  refine sel_i (fun h => ?_) (fun h => ?_)
  · have hm : m ≠ 0 := of_decide_eq_true h
    clear h
    obtain ⟨_, i3⟩ : m ≠ 0 ∧ Lib.decDigits M = Lib.decDigits m ++ out := by rcases i3 with ⟨h, _⟩ | h; exact absurd h hm; exact h
    have hk : k ≠ 0 := fun e => by subst e; simp at i1; exact hm i1
    obtain ⟨k, rfl⟩ : ∃ j, k = j + 1 := ⟨k - 1, by omega⟩
    have hd : m / 10 < 10 ^ k := Nat.div_lt_of_lt_mul (by rw [Nat.pow_succ] at i1; omega)
    have hm10 : m % 10 < 10 := Nat.mod_lt _ (by decide)
    have e1 : sgn b (m % 10) < 0 → IntKind.i64.wrap (0 - sgn b (m % 10)) = ((m % 10 : Nat) : Int) := fun h => by
      unfold sgn at h ⊢
      cases b
      · simp at h
        omega
      · rw [if_pos rfl, wrap_id (by omega) (by omega)]; omega
    have e2 : ¬ sgn b (m % 10) < 0 → sgn b (m % 10) = ((m % 10 : Nat) : Int) := fun h => by
      unfold sgn at h ⊢
      cases b
      · rw [if_neg (by simp)]
      · rw [if_pos rfl] at h ⊢; omega
    have e3 : IntKind.i64.wrap (sgn b (m / 10)) = sgn b (m / 10) := by
      unfold sgn
      cases b
      · rw [if_neg (by simp)]; exact wrap_id (by omega) (by omega)
      · rw [if_pos rfl]; exact wrap_id (by omega) (by omega)
    have hR := hR (m / 10, UInt8.ofNat (48 + m % 10) :: out, k) ⟨⟨hd, by dsimp only; omega, by simp only [List.length_cons]; omega⟩, by
      dsimp only
      by_cases h10 : m < 10
      · left
        exact ⟨by omega, by rw [i3, decDigits_small h10, show m % 10 = m by omega]; rfl⟩
      · right
        exact ⟨by omega, by rw [i3, decDigits_big (by omega), List.append_assoc]; rfl⟩⟩ (by dsimp only; omega)
    conv => whnf
    repeat' (first | (refine sel_i (fun h => ?_) (fun h => ?_) <;> conv => whnf) | (refine chk_c ?_ ?_ <;> conv => whnf) | (refine And.intro ?_ rfl) | (refine And.intro ?_ ?_ <;> conv => whnf))
    all_goals (try simp only [sgn_rem, sgn_quo, e3] at *)
    all_goals first
      | (refine ⟨?_⟩; decide)
      | (have h := of_decide_eq_true h; rw [e1 h, digit b m, bsize, bsize]; refine ⟨?_⟩; simp only [List.length_cons, List.length_nil]; omega)
      | (have h := of_decide_eq_false h; rw [e2 h, digit b m, bsize, bsize]; refine ⟨?_⟩; simp only [List.length_cons, List.length_nil]; omega)
      | (have h := of_decide_eq_true h; rw [e1 h, digit b m, bcat]; exact hR)
      | (have h := of_decide_eq_false h; rw [e2 h, digit b m, bcat]; exact hR)
      | trace_state
  · have hm : m = 0 := by simpa using of_decide_eq_false h
    obtain ⟨_, i3⟩ : m = 0 ∧ out = Lib.decDigits M := by rcases i3 with h | ⟨h, _⟩; exact h; exact absurd hm h
    clear h
    conv => whnf
    repeat' (first | (refine sel_i (fun h => ?_) (fun h => ?_) <;> conv => whnf) | (refine chk_c ?_ ?_ <;> conv => whnf) | (refine And.intro ?_ rfl) | (refine And.intro ?_ ?_ <;> conv => whnf))
    · refine ⟨?_⟩
      rw [show (⟨#[45]⟩ : ByteArray) = ⟨[45].toArray⟩ from rfl, bsize, bsize]
      simp only [List.length_cons, List.length_nil]
      omega
    · rw [h, if_pos rfl, show (⟨#[45]⟩ : ByteArray) = ⟨[45].toArray⟩ from rfl, bcat, i3]; rfl
    · rw [h, if_neg (by simp), i3]
theorem ok_spec_l7Digits : FunOk Tryd.prog c_spec_l7Digits := funOk (E := []) (envOk_nil) mixd Tryd.func11 (pf := pf_spec_l7Digits) (by kernel_rfl) fun ts K h => by
  obtain ⟨t0, e0, h⟩ := as1_out h
  subst e0
  obtain ⟨n, e1, hq⟩ := arC_out (rd_int .i64) h
  clear h
  subst e1
  have h := hq
  clear hq
  obtain ⟨hpre, h⟩ := chk_o h
  exact ⟨_, _, h, Nat.le_of_ble_eq_true (show Nat.ble 1 Tryd.f11.ntmps = true by kernel_rfl), _, run_spec_l7Digits n hpre⟩

theorem decLen : ∀ (k m : Nat), m < 10 ^ (k + 1) → (Lib.decDigits m).length ≤ k + 1
  | 0, m, h => by rw [decDigits_small (by simpa using h)]; simp
  | k + 1, m, h => by
    by_cases h10 : m < 10
    · rw [decDigits_small h10]; simp
    · rw [decDigits_big (by omega), List.length_append]
      have := decLen k (m / 10) (Nat.div_lt_of_lt_mul (by rw [Nat.pow_succ] at h; omega))
      simp only [List.length_singleton]
      omega
def InI (n : Int) : Prop := -9223372036854775808 ≤ n ∧ n ≤ 9223372036854775807
theorem itoaB_size {n : Int} (h : InI n) : (itoaB n).size ≤ 21 := by
  obtain ⟨h0, h1⟩ := h
  have e : (10 : Nat) ^ (19 + 1) = 100000000000000000000 := by decide
  unfold itoaB Lib.itoa
  rw [bsize]
  split
  · have := decLen 19 n.natAbs (by omega)
    simp only [List.length_cons]; omega
  · have := decLen 19 n.toNat (by omega)
    omega
def shownB (n : Int) : ByteArray := if n < 0 then ⟨#[45]⟩ else itoaB n
theorem bnil (b : ByteArray) : (⟨#[]⟩ : ByteArray) ++ b = b := by
  apply ByteArray.ext
  rw [ByteArray.data_append]
  simp
def spB : ByteArray := ⟨#[32]⟩
def costB (c : Cost) : ByteArray := itoaB c.pulled ++ spB ++ itoaB c.done ++ spB ++ itoaB c.kept ++ spB ++ itoaB c.back ++ spB ++ itoaB c.swept
def InC (c : Cost) : Prop := InI c.pulled ∧ InI c.done ∧ InI c.kept ∧ InI c.back ∧ InI c.swept
theorem spS : spB.size = 1 := rfl
theorem wfI_in {n : Int} (h : wfI .i64 n) : InI n := by
  have h : (decide (IntKind.i64.min ≤ n) && decide (n ≤ IntKind.i64.max)) = true := h
  rw [Bool.and_eq_true, decide_eq_true_eq, decide_eq_true_eq] at h
  have e1 : IntKind.i64.min = -9223372036854775808 := by decide
  have e2 : IntKind.i64.max = 9223372036854775807 := by decide
  rw [e1, e2] at h
  exact h
def costL (c : Cost) : List Int := [c.pulled, c.done, c.kept, c.back, c.swept]
def preB (c : Cost) : Nat → ByteArray
  | 0 => ⟨#[]⟩
  | 1 => itoaB c.pulled
  | 2 => itoaB c.pulled ++ spB ++ itoaB c.done
  | 3 => itoaB c.pulled ++ spB ++ itoaB c.done ++ spB ++ itoaB c.kept
  | 4 => itoaB c.pulled ++ spB ++ itoaB c.done ++ spB ++ itoaB c.kept ++ spB ++ itoaB c.back
  | _ => costB c
theorem fiveC {i : Nat} (h : i < 5) : i = 0 ∨ i = 1 ∨ i = 2 ∨ i = 3 ∨ i = 4 := by omega
theorem preB_all {c : Cost} (h : InC c) {i : Nat} (hi : i < 5) : InI ((costL c).getD i (FT.zero (.int .i64))) ∧ (preB c i).size ≤ 90 ∧ preB c (i + 1) = (if i = 0 then preB c i ++ itoaB ((costL c).getD i (FT.zero (.int .i64))) else preB c i ++ spB ++ itoaB ((costL c).getD i (FT.zero (.int .i64)))) := by
  obtain ⟨h1, h2, h3, h4, h5⟩ := h
  have s1 := itoaB_size h1
  have s2 := itoaB_size h2
  have s3 := itoaB_size h3
  have s4 := itoaB_size h4
  rcases fiveC hi with rfl | rfl | rfl | rfl | rfl
  · exact ⟨h1, Nat.zero_le _, (bnil _).symm⟩
  · exact ⟨h2, by show (itoaB c.pulled).size ≤ 90; omega, rfl⟩
  · exact ⟨h3, by show (itoaB c.pulled ++ spB ++ itoaB c.done).size ≤ 90; simp only [ByteArray.size_append, spS]; omega, rfl⟩
  · exact ⟨h4, by show (itoaB c.pulled ++ spB ++ itoaB c.done ++ spB ++ itoaB c.kept).size ≤ 90; simp only [ByteArray.size_append, spS]; omega, rfl⟩
  · exact ⟨h5, by show (itoaB c.pulled ++ spB ++ itoaB c.done ++ spB ++ itoaB c.kept ++ spB ++ itoaB c.back).size ≤ 90; simp only [ByteArray.size_append, spS]; omega, rfl⟩

def pf_spec_CostText : PF := ⟨[.t 2], .seq (.reg [.s (.box 1 (.t 0)), .s (.mv 2 (.k (.v (.c (.str ⟨#[]⟩)))))]) (.seq (.rgd [] [.s (.fa 3 (.t 1) 0), .s (.load 4 false 1 (.t 3)), .s (.call (some 5) 11 [(.t 4)]), .s (.cat 6 (.t 5) (.k (.v (.c (.str ⟨#[32]⟩))))), .s (.fa 7 (.t 1) 1), .s (.load 8 false 1 (.t 7)), .s (.call (some 9) 11 [(.t 8)]), .s (.cat 10 (.t 6) (.t 9)), .s (.cat 11 (.t 10) (.k (.v (.c (.str ⟨#[32]⟩))))), .s (.fa 12 (.t 1) 2), .s (.load 13 false 1 (.t 12)), .s (.call (some 14) 11 [(.t 13)]), .s (.cat 15 (.t 11) (.t 14)), .s (.cat 16 (.t 15) (.k (.v (.c (.str ⟨#[32]⟩))))), .s (.fa 17 (.t 1) 3), .s (.load 18 false 1 (.t 17)), .s (.call (some 19) 11 [(.t 18)]), .s (.cat 20 (.t 16) (.t 19)), .s (.cat 21 (.t 20) (.k (.v (.c (.str ⟨#[32]⟩))))), .s (.fa 22 (.t 1) 4), .s (.load 23 false 1 (.t 22)), .s (.call (some 24) 11 [(.t 23)]), .s (.cat 25 (.t 21) (.t 24)), .s (.mv 2 (.t 25))] (.tk 0 (.tk 1 (.tk 4 (.tk 5 (.tk 9 (.tk 10 (.tk 14 (.tk 15 (.tk 19 (.tk 20 (.one 2 false (.tk 3 (.one 6 false (.tk 7 (.tk 8 (.one 11 false (.tk 12 (.tk 13 (.one 16 false (.tk 17 (.tk 18 (.one 21 true (.tk 22 (.tk 23 (.done none)))))))))))))))))))))))))) (.ret))⟩
def c_spec_CostText : Fun := ⟨5, [], fun ts K => as1 ts fun t0 => arG pCostT t0 fun c => chk (InC c) (K (.v (.c (.str (costB c)))) [])⟩
theorem run_spec_CostText (c : Cost) (hpre : InC c) : runK [c_spec_l7Digits] (0) [] pf_spec_CostText [tG (c.tc [])] fun r o => r = .v (.c (.str (costB c))) ∧ o = [] := by
  obtain ⟨h1, h2, h3, h4, h5⟩ := hpre
  have s1 := itoaB_size h1
  have s2 := itoaB_size h2
  have s3 := itoaB_size h3
  have s4 := itoaB_size h4
  have s5 := itoaB_size h5
  conv => whnf
  repeat' (first | (refine sel_i (fun h => ?_) (fun h => ?_) <;> conv => whnf) | (refine chk_c ?_ ?_ <;> conv => whnf) | (refine And.intro ?_ rfl) | (refine And.intro ?_ ?_ <;> conv => whnf))
  all_goals (try simp only [← show spB = ⟨#[32]⟩ from rfl] at *)
  all_goals first
    | (refine ⟨?_⟩; assumption)
    | (refine ⟨?_⟩; simp only [ByteArray.size_append, spS]; omega)
    | rfl
    | trace_state
theorem ok_spec_CostText : FunOk Tryd.prog c_spec_CostText := funOk (E := [c_spec_l7Digits]) (envOk_cons ok_spec_l7Digits (envOk_nil)) mixd Tryd.func5 (pf := pf_spec_CostText) (by kernel_rfl) fun ts K h => by
  obtain ⟨t0, e0, h⟩ := as1_out h
  subst e0
  obtain ⟨c, e1, hq⟩ := arG_out rd_cost h
  clear h
  subst e1
  have h := hq
  clear hq
  obtain ⟨hpre, h⟩ := chk_o h
  exact ⟨_, _, h, Nat.le_of_ble_eq_true (show Nat.ble 1 Tryd.f5.ntmps = true by kernel_rfl), _, run_spec_CostText c hpre⟩

def lb_impl_CostText_0 : PC := .seq (.reg [.s (.bin 19 .lss (.t 18) (.t 17))]) (.seq (.cond (.t 19) (.skip) (.exit 0)) (.seq (.blk 1 (.seq (.reg [.s (.mv 20 (.t 18)), .s (.ia 21 (.int .i64) (.t 16) (.t 18)), .s (.load 22 false 1 (.t 21)), .s (.mv 4 (.t 20)), .s (.mv 5 (.t 22))]) (.seq (.seq (.reg [.s (.mv 23 (.t 4)), .s (.bin 24 .gtr (.t 23) (.k (.v (.c (.int .i64 0)))))]) (.cond (.t 24) (.reg [.s (.mv 25 (.t 3)), .s (.cat 26 (.t 25) (.k (.v (.c (.str ⟨#[32]⟩))))), .s (.mv 3 (.t 26))]) (.skip))) (.reg [.s (.mv 27 (.t 3)), .s (.mv 28 (.t 5)), .s (.call (some 29) 12 [(.t 28)]), .s (.cat 30 (.t 27) (.t 29)), .s (.mv 3 (.t 30))])))) (.reg [.s (.bin 31 .add (.t 18) (.k (.v (.c (.int .i64 1))))), .s (.mv 18 (.t 31))])))
def pf_impl_CostText : PF := ⟨[.t 2], .seq (.reg [.s (.box 1 (.t 0)), .s (.mv 2 (.k (.v (.c (.str ⟨#[]⟩)))))]) (.seq (.reg [.s (.mv 3 (.k (.v (.c (.str ⟨#[]⟩)))))]) (.seq (.seq (.reg [.s (.fa 6 (.t 1) 0), .s (.load 7 false 1 (.t 6)), .s (.fa 8 (.t 1) 1), .s (.load 9 false 1 (.t 8)), .s (.fa 10 (.t 1) 2), .s (.load 11 false 1 (.t 10)), .s (.fa 12 (.t 1) 3), .s (.load 13 false 1 (.t 12)), .s (.fa 14 (.t 1) 4), .s (.load 15 false 1 (.t 14)), .s (.bs 16 (.int .i64) [(.t 7), (.t 9), (.t 11), (.t 13), (.t 15)]), .s (.len 17 false (.t 16)), .s (.mv 18 (.k (.v (.c (.int .i64 0)))))]) (.blk 0 (.loop [3, 16, 17, 18] lb_impl_CostText_0))) (.seq (.reg [.s (.mv 32 (.t 3)), .s (.mv 2 (.t 32))]) (.ret))))⟩
def c_impl_CostText : Fun := ⟨7, [], fun ts K => as1 ts fun t0 => arG pCostT t0 fun c => chk (InC c) (K (.v (.c (.str (costB c)))) [])⟩
theorem run_impl_CostText (c : Cost) (hpre : InC c) : runK [c_strconv_Itoa] (10) [] pf_impl_CostText [tG (c.tc [])] fun r o => r = .v (.c (.str (costB c))) ∧ o = [] := by
  have hall := fun (i : Nat) (hi : i < 5) => preB_all hpre hi
  conv => whnf
  repeat' (first | (refine sel_i (fun h => ?_) (fun h => ?_) <;> conv => whnf) | (refine chk_c ?_ ?_ <;> conv => whnf) | (refine And.intro ?_ rfl) | (refine And.intro ?_ ?_ <;> conv => whnf))
  have hl : (costL c).length = 5 := rfl
  refine loop (α := Nat) (fun i => ⟨[(3, .v (.c (.str (preB c i)))), (16, .v (.c (.sl true (.int .i64) 0))), (17, .v (.c (.int .i64 5))), (18, .v (.c (.int .i64 (i : Int))))], [(0, some (.flat true (.int .i64) none (costL c)))], nums.tail, [], false, []⟩)
      (fun i => i ≤ 5) (fun i => 5 - i) (fun i R hI hR => ?_) 0 _ (Nat.zero_le _) (by show 5 - 0 < 10; decide)
  have hend : costB c = preB c 5 := rfl
  rw [hend]
  generalize preB c = pb at *
  generalize costL c = xs at *
  conv => whnf
  refine sel_i (fun h => ?_) (fun h => ?_)
  · have hlt : i < 5 := by have h := of_decide_eq_true h; omega
    clear h
    obtain ⟨q1, q2, q3⟩ := hall i hlt
    have q4 := itoaB_size q1
    have hR := hR (i + 1) hlt (by omega)
    conv => whnf
    repeat' (first | (refine sel_i (fun h => ?_) (fun h => ?_) <;> conv => whnf) | (refine chk_c ?_ ?_ <;> conv => whnf) | (refine And.intro ?_ rfl) | (refine And.intro ?_ ?_ <;> conv => whnf))
    all_goals (try simp only [Int.toNat_natCast, ← show spB = ⟨#[32]⟩ from rfl] at *)
    all_goals first
      | (refine ⟨?_⟩; omega)
      | (refine ⟨?_⟩; exact q1)
      | (refine ⟨?_⟩; simp only [ByteArray.size_append, spS]; omega)
      | (have h := of_decide_eq_true h; rw [q3, if_neg (by omega)] at hR; rw [wrap_id (n := (i : Int) + 1) (by omega) (by omega)]; exact hR)
      | (have h := of_decide_eq_false h; rw [q3, if_pos (by omega)] at hR; rw [wrap_id (n := (i : Int) + 1) (by omega) (by omega)]; exact hR)
      | trace_state
  · have e : i = 5 := by have h := of_decide_eq_false h; omega
    subst e
    conv => whnf
    exact ⟨rfl, rfl⟩
theorem ok_impl_CostText : FunOk Tryd.prog c_impl_CostText := funOk (E := [c_strconv_Itoa]) (envOk_cons ok_strconv_Itoa (envOk_nil)) mixd Tryd.func7 (pf := pf_impl_CostText) (by kernel_rfl) fun ts K h => by
  obtain ⟨t0, e0, h⟩ := as1_out h
  subst e0
  obtain ⟨c, e1, hq⟩ := arG_out rd_cost h
  clear h
  subst e1
  have h := hq
  clear hq
  obtain ⟨hpre, h⟩ := chk_o h
  exact ⟨_, _, h, Nat.le_of_ble_eq_true (show Nat.ble 1 Tryd.f7.ntmps = true by kernel_rfl), _, run_impl_CostText c hpre⟩

def pf_impl_shown : PF := ⟨[.t 2], .seq (.reg [.s (.mv 2 (.k (.v (.c (.str ⟨#[]⟩)))))]) (.seq (.seq (.reg [.s (.mv 3 (.t 0)), .s (.bin 4 .lss (.t 3) (.k (.v (.c (.int .i64 0)))))]) (.cond (.t 4) (.seq (.reg [.s (.mv 2 (.k (.v (.c (.str ⟨#[45]⟩)))))]) (.ret)) (.skip))) (.seq (.reg [.s (.mv 5 (.t 0)), .s (.call (some 6) 12 [(.t 5)]), .s (.mv 2 (.t 6))]) (.ret)))⟩
def c_impl_shown : Fun := ⟨15, [], fun ts K => as1 ts fun t0 => arC (pI .i64) t0 fun n => chk (InI n) (K (.v (.c (.str (shownB n)))) [])⟩
theorem run_impl_shown (n : Int) (hpre : InI n) : runK [c_strconv_Itoa] (0) [] pf_impl_shown [tI .i64 n] fun r o => r = .v (.c (.str (shownB n))) ∧ o = [] := by
  conv => whnf
  repeat' (first | (refine sel_i (fun h => ?_) (fun h => ?_) <;> conv => whnf) | (refine chk_c ?_ ?_ <;> conv => whnf) | (refine And.intro ?_ rfl) | (refine And.intro ?_ ?_ <;> conv => whnf))
  all_goals first
    | (refine ⟨?_⟩; exact hpre)
    | (unfold shownB; rw [if_pos (of_decide_eq_true h)]; done)
    | (unfold shownB; rw [if_neg (of_decide_eq_false h)]; done)
    | trace_state
theorem ok_impl_shown : FunOk Tryd.prog c_impl_shown := funOk (E := [c_strconv_Itoa]) (envOk_cons ok_strconv_Itoa (envOk_nil)) mixd Tryd.func15 (pf := pf_impl_shown) (by kernel_rfl) fun ts K h => by
  obtain ⟨t0, e0, h⟩ := as1_out h
  subst e0
  obtain ⟨n, e1, hq⟩ := arC_out (rd_int .i64) h
  clear h
  subst e1
  have h := hq
  clear hq
  obtain ⟨hpre, h⟩ := chk_o h
  exact ⟨_, _, h, Nat.le_of_ble_eq_true (show Nat.ble 1 Tryd.f15.ntmps = true by kernel_rfl), _, run_impl_shown n hpre⟩

def pf_spec_l26Num : PF := ⟨[.t 2], .seq (.reg [.s (.mv 2 (.k (.v (.c (.str ⟨#[]⟩)))))]) (.seq (.seq (.reg [.s (.mv 3 (.t 0)), .s (.bin 4 .lss (.t 3) (.k (.v (.c (.int .i64 0)))))]) (.cond (.t 4) (.seq (.reg [.s (.mv 2 (.k (.v (.c (.str ⟨#[45]⟩)))))]) (.ret)) (.skip))) (.seq (.reg [.s (.mv 5 (.t 0)), .s (.call (some 6) 11 [(.t 5)]), .s (.mv 2 (.t 6))]) (.ret)))⟩
def c_spec_l26Num : Fun := ⟨13, [], fun ts K => as1 ts fun t0 => arC (pI .i64) t0 fun n => chk (InI n) (K (.v (.c (.str (shownB n)))) [])⟩
theorem run_spec_l26Num (n : Int) (hpre : InI n) : runK [c_spec_l7Digits] (0) [] pf_spec_l26Num [tI .i64 n] fun r o => r = .v (.c (.str (shownB n))) ∧ o = [] := by
  conv => whnf
  repeat' (first | (refine sel_i (fun h => ?_) (fun h => ?_) <;> conv => whnf) | (refine chk_c ?_ ?_ <;> conv => whnf) | (refine And.intro ?_ rfl) | (refine And.intro ?_ ?_ <;> conv => whnf))
  all_goals first
    | (refine ⟨?_⟩; exact hpre)
    | (unfold shownB; rw [if_pos (of_decide_eq_true h)]; done)
    | (unfold shownB; rw [if_neg (of_decide_eq_false h)]; done)
    | trace_state
theorem ok_spec_l26Num : FunOk Tryd.prog c_spec_l26Num := funOk (E := [c_spec_l7Digits]) (envOk_cons ok_spec_l7Digits (envOk_nil)) mixd Tryd.func13 (pf := pf_spec_l26Num) (by kernel_rfl) fun ts K h => by
  obtain ⟨t0, e0, h⟩ := as1_out h
  subst e0
  obtain ⟨n, e1, hq⟩ := arC_out (rd_int .i64) h
  clear h
  subst e1
  have h := hq
  clear hq
  obtain ⟨hpre, h⟩ := chk_o h
  exact ⟨_, _, h, Nat.le_of_ble_eq_true (show Nat.ble 1 Tryd.f13.ntmps = true by kernel_rfl), _, run_spec_l26Num n hpre⟩

theorem shownB_size {n : Int} (h : InI n) : (shownB n).size ≤ 21 := by
  unfold shownB
  split
  · decide
  · exact itoaB_size h
def trapL : List ByteArray := [⟨#[110, 111, 110, 101]⟩, ⟨#[107, 101, 121]⟩, ⟨#[115, 101, 97, 108]⟩, ⟨#[112, 101, 114, 109]⟩, ⟨#[98, 111, 117, 110, 100]⟩, ⟨#[115, 116, 111, 112]⟩]
def trapB (n : Int) : ByteArray := if inR n 0 5 then trapL.getD n.toNat (FT.zero .str) else ⟨#[]⟩
theorem trapB_size (n : Int) : (trapB n).size ≤ 21 := by
  unfold trapB
  split
  · rename_i h
    have h := inR_t.1 h
    have : ∀ k : Fin 6, (trapL.getD k.1 (FT.zero .str)).size ≤ 21 := by decide
    exact this ⟨n.toNat, by omega⟩
  · exact Nat.zero_le _
theorem trapB_no {n : Int} (h : inR n 0 5 = false) : trapB n = ⟨#[]⟩ := by unfold trapB; rw [h]; rfl
theorem trapB_yes {n : Int} (h : inR n 0 5 = true) : trapB n = trapL.getD n.toNat (FT.zero .str) := by unfold trapB; rw [h]; rfl

def pf_impl_TrapText : PF := ⟨[.t 2], .seq (.reg [.s (.mv 2 (.k (.v (.c (.str ⟨#[]⟩)))))]) (.seq (.seq (.reg [.s (.mv 3 (.t 0)), .s (.call (some 4) 19 [(.t 3), (.k (.v (.c (.int .i64 0)))), (.k (.v (.c (.int .i64 5))))]), .s (.bnot 5 (.t 4))]) (.cond (.t 5) (.seq (.reg [.s (.mv 2 (.k (.v (.c (.str ⟨#[]⟩)))))]) (.ret)) (.skip))) (.seq (.reg [.s (.bs 6 .str [(.k (.v (.c (.str ⟨#[110, 111, 110, 101]⟩)))), (.k (.v (.c (.str ⟨#[107, 101, 121]⟩)))), (.k (.v (.c (.str ⟨#[115, 101, 97, 108]⟩)))), (.k (.v (.c (.str ⟨#[112, 101, 114, 109]⟩)))), (.k (.v (.c (.str ⟨#[98, 111, 117, 110, 100]⟩)))), (.k (.v (.c (.str ⟨#[115, 116, 111, 112]⟩))))]), .s (.mv 7 (.t 0)), .s (.ia 8 .str (.t 6) (.t 7)), .s (.load 9 false 1 (.t 8)), .s (.mv 2 (.t 9))]) (.ret)))⟩
def c_impl_TrapText : Fun := ⟨16, [], fun ts K => as1 ts fun t0 => arC (pI .i64) t0 fun n => K (.v (.c (.str (trapB n)))) []⟩
theorem run_impl_TrapText (n : Int) : runK [c_impl_in] (0) [] pf_impl_TrapText [tI .i64 n] fun r o => r = .v (.c (.str (trapB n))) ∧ o = [] := by
  conv => whnf
  repeat' (first | (refine sel_i (fun h => ?_) (fun h => ?_) <;> conv => whnf) | (refine chk_c ?_ ?_ <;> conv => whnf) | (refine And.intro ?_ rfl) | (refine And.intro ?_ ?_ <;> conv => whnf))
  all_goals (try simp only [Bool.not_eq_true', Bool.not_eq_false'] at *)
  all_goals first
    | (rw [trapB_no h]; done)
    | (rw [trapB_yes h]; rfl)
    | (have hn := inR_t.1 h; refine ⟨?_⟩; simp only [List.length_cons, List.length_nil]; omega)
    | trace_state
theorem ok_impl_TrapText : FunOk Tryd.prog c_impl_TrapText := funOk (E := [c_impl_in]) (envOk_cons ok_impl_in (envOk_nil)) mixd Tryd.func16 (pf := pf_impl_TrapText) (by kernel_rfl) fun ts K h => by
  obtain ⟨t0, e0, h⟩ := as1_out h
  subst e0
  obtain ⟨n, e1, hq⟩ := arC_out (rd_int .i64) h
  clear h
  subst e1
  have h := hq
  clear hq
  exact ⟨_, _, h, Nat.le_of_ble_eq_true (show Nat.ble 1 Tryd.f16.ntmps = true by kernel_rfl), _, run_impl_TrapText n⟩

def pf_spec_TrapText : PF := ⟨[.t 2], .seq (.reg [.s (.mv 2 (.k (.v (.c (.str ⟨#[]⟩)))))]) (.seq (.seq (.reg [.s (.mv 3 (.t 0)), .s (.call (some 4) 18 [(.t 3), (.k (.v (.c (.int .i64 0)))), (.k (.v (.c (.int .i64 5))))]), .s (.bnot 5 (.t 4))]) (.cond (.t 5) (.seq (.reg [.s (.mv 2 (.k (.v (.c (.str ⟨#[]⟩)))))]) (.ret)) (.skip))) (.seq (.reg [.s (.bs 6 .str [(.k (.v (.c (.str ⟨#[110, 111, 110, 101]⟩)))), (.k (.v (.c (.str ⟨#[107, 101, 121]⟩)))), (.k (.v (.c (.str ⟨#[115, 101, 97, 108]⟩)))), (.k (.v (.c (.str ⟨#[112, 101, 114, 109]⟩)))), (.k (.v (.c (.str ⟨#[98, 111, 117, 110, 100]⟩)))), (.k (.v (.c (.str ⟨#[115, 116, 111, 112]⟩))))]), .s (.mv 7 (.t 0)), .s (.ia 8 .str (.t 6) (.t 7)), .s (.load 9 false 1 (.t 8)), .s (.mv 2 (.t 9))]) (.ret)))⟩
def c_spec_TrapText : Fun := ⟨14, [], fun ts K => as1 ts fun t0 => arC (pI .i64) t0 fun n => K (.v (.c (.str (trapB n)))) []⟩
theorem run_spec_TrapText (n : Int) : runK [c_spec_l1In] (0) [] pf_spec_TrapText [tI .i64 n] fun r o => r = .v (.c (.str (trapB n))) ∧ o = [] := by
  conv => whnf
  repeat' (first | (refine sel_i (fun h => ?_) (fun h => ?_) <;> conv => whnf) | (refine chk_c ?_ ?_ <;> conv => whnf) | (refine And.intro ?_ rfl) | (refine And.intro ?_ ?_ <;> conv => whnf))
  all_goals (try simp only [Bool.not_eq_true', Bool.not_eq_false'] at *)
  all_goals first
    | (rw [trapB_no h]; done)
    | (rw [trapB_yes h]; rfl)
    | (have hn := inR_t.1 h; refine ⟨?_⟩; simp only [List.length_cons, List.length_nil]; omega)
    | trace_state
theorem ok_spec_TrapText : FunOk Tryd.prog c_spec_TrapText := funOk (E := [c_spec_l1In]) (envOk_cons ok_spec_l1In (envOk_nil)) mixd Tryd.func14 (pf := pf_spec_TrapText) (by kernel_rfl) fun ts K h => by
  obtain ⟨t0, e0, h⟩ := as1_out h
  subst e0
  obtain ⟨n, e1, hq⟩ := arC_out (rd_int .i64) h
  clear h
  subst e1
  have h := hq
  clear hq
  exact ⟨_, _, h, Nat.le_of_ble_eq_true (show Nat.ble 1 Tryd.f14.ntmps = true by kernel_rfl), _, run_spec_TrapText n⟩

def seenB (x : Seen) : ByteArray := shownB x.at_ ++ spB ++ shownB x.r ++ spB ++ shownB x.addr ++ spB ++ trapB x.trap
def InS (x : Seen) : Prop := InI x.at_ ∧ InI x.r ∧ InI x.addr

def pf_impl_SeenText : PF := ⟨[.t 2], .seq (.reg [.s (.box 1 (.t 0)), .s (.mv 2 (.k (.v (.c (.str ⟨#[]⟩)))))]) (.seq (.rgd [] [.s (.fa 3 (.t 1) 0), .s (.load 4 false 1 (.t 3)), .s (.call (some 5) 15 [(.t 4)]), .s (.cat 6 (.t 5) (.k (.v (.c (.str ⟨#[32]⟩))))), .s (.fa 7 (.t 1) 1), .s (.load 8 false 1 (.t 7)), .s (.call (some 9) 15 [(.t 8)]), .s (.cat 10 (.t 6) (.t 9)), .s (.cat 11 (.t 10) (.k (.v (.c (.str ⟨#[32]⟩))))), .s (.fa 12 (.t 1) 2), .s (.load 13 false 1 (.t 12)), .s (.call (some 14) 15 [(.t 13)]), .s (.cat 15 (.t 11) (.t 14)), .s (.cat 16 (.t 15) (.k (.v (.c (.str ⟨#[32]⟩))))), .s (.fa 17 (.t 1) 3), .s (.load 18 false 1 (.t 17)), .s (.call (some 19) 16 [(.t 18)]), .s (.cat 20 (.t 16) (.t 19)), .s (.mv 2 (.t 20))] (.tk 0 (.tk 1 (.tk 4 (.tk 5 (.tk 9 (.tk 10 (.tk 14 (.tk 15 (.one 2 false (.tk 3 (.one 6 false (.tk 7 (.tk 8 (.one 11 false (.tk 12 (.tk 13 (.one 16 true (.tk 17 (.tk 18 (.done none))))))))))))))))))))) (.ret))⟩
def c_impl_SeenText : Fun := ⟨10, [], fun ts K => as1 ts fun t0 => arG pSeenT t0 fun x => chk (InS x) (K (.v (.c (.str (seenB x)))) [])⟩
theorem run_impl_SeenText (x : Seen) (hpre : InS x) : runK [c_impl_shown, c_impl_TrapText] (0) [] pf_impl_SeenText [tG (x.tc [])] fun r o => r = .v (.c (.str (seenB x))) ∧ o = [] := by
  obtain ⟨h1, h2, h3⟩ := hpre
  have s1 := shownB_size h1
  have s2 := shownB_size h2
  have s3 := shownB_size h3
  have s4 := trapB_size x.trap
  conv => whnf
  repeat' (first | (refine sel_i (fun h => ?_) (fun h => ?_) <;> conv => whnf) | (refine chk_c ?_ ?_ <;> conv => whnf) | (refine And.intro ?_ rfl) | (refine And.intro ?_ ?_ <;> conv => whnf))
  all_goals (try simp only [← show spB = ⟨#[32]⟩ from rfl] at *)
  all_goals first
    | (refine ⟨?_⟩; assumption)
    | rfl
    | (refine ⟨?_⟩; simp only [ByteArray.size_append, spS]; omega)
    | trace_state
theorem ok_impl_SeenText : FunOk Tryd.prog c_impl_SeenText := funOk (E := [c_impl_shown, c_impl_TrapText]) (envOk_cons ok_impl_shown (envOk_cons ok_impl_TrapText (envOk_nil))) mixd Tryd.func10 (pf := pf_impl_SeenText) (by kernel_rfl) fun ts K h => by
  obtain ⟨t0, e0, h⟩ := as1_out h
  subst e0
  obtain ⟨x, e1, hq⟩ := arG_out rd_seen h
  clear h
  subst e1
  have h := hq
  clear hq
  obtain ⟨hpre, h⟩ := chk_o h
  exact ⟨_, _, h, Nat.le_of_ble_eq_true (show Nat.ble 1 Tryd.f10.ntmps = true by kernel_rfl), _, run_impl_SeenText x hpre⟩

def pf_spec_SeenText : PF := ⟨[.t 2], .seq (.reg [.s (.box 1 (.t 0)), .s (.mv 2 (.k (.v (.c (.str ⟨#[]⟩)))))]) (.seq (.rgd [] [.s (.fa 3 (.t 1) 0), .s (.load 4 false 1 (.t 3)), .s (.call (some 5) 13 [(.t 4)]), .s (.cat 6 (.t 5) (.k (.v (.c (.str ⟨#[32]⟩))))), .s (.fa 7 (.t 1) 1), .s (.load 8 false 1 (.t 7)), .s (.call (some 9) 13 [(.t 8)]), .s (.cat 10 (.t 6) (.t 9)), .s (.cat 11 (.t 10) (.k (.v (.c (.str ⟨#[32]⟩))))), .s (.fa 12 (.t 1) 2), .s (.load 13 false 1 (.t 12)), .s (.call (some 14) 13 [(.t 13)]), .s (.cat 15 (.t 11) (.t 14)), .s (.cat 16 (.t 15) (.k (.v (.c (.str ⟨#[32]⟩))))), .s (.fa 17 (.t 1) 3), .s (.load 18 false 1 (.t 17)), .s (.call (some 19) 14 [(.t 18)]), .s (.cat 20 (.t 16) (.t 19)), .s (.mv 2 (.t 20))] (.tk 0 (.tk 1 (.tk 4 (.tk 5 (.tk 9 (.tk 10 (.tk 14 (.tk 15 (.one 2 false (.tk 3 (.one 6 false (.tk 7 (.tk 8 (.one 11 false (.tk 12 (.tk 13 (.one 16 true (.tk 17 (.tk 18 (.done none))))))))))))))))))))) (.ret))⟩
def c_spec_SeenText : Fun := ⟨8, [], fun ts K => as1 ts fun t0 => arG pSeenT t0 fun x => chk (InS x) (K (.v (.c (.str (seenB x)))) [])⟩
theorem run_spec_SeenText (x : Seen) (hpre : InS x) : runK [c_spec_l26Num, c_spec_TrapText] (0) [] pf_spec_SeenText [tG (x.tc [])] fun r o => r = .v (.c (.str (seenB x))) ∧ o = [] := by
  obtain ⟨h1, h2, h3⟩ := hpre
  have s1 := shownB_size h1
  have s2 := shownB_size h2
  have s3 := shownB_size h3
  have s4 := trapB_size x.trap
  conv => whnf
  repeat' (first | (refine sel_i (fun h => ?_) (fun h => ?_) <;> conv => whnf) | (refine chk_c ?_ ?_ <;> conv => whnf) | (refine And.intro ?_ rfl) | (refine And.intro ?_ ?_ <;> conv => whnf))
  all_goals (try simp only [← show spB = ⟨#[32]⟩ from rfl] at *)
  all_goals first
    | (refine ⟨?_⟩; assumption)
    | rfl
    | (refine ⟨?_⟩; simp only [ByteArray.size_append, spS]; omega)
    | trace_state
theorem ok_spec_SeenText : FunOk Tryd.prog c_spec_SeenText := funOk (E := [c_spec_l26Num, c_spec_TrapText]) (envOk_cons ok_spec_l26Num (envOk_cons ok_spec_TrapText (envOk_nil))) mixd Tryd.func8 (pf := pf_spec_SeenText) (by kernel_rfl) fun ts K h => by
  obtain ⟨t0, e0, h⟩ := as1_out h
  subst e0
  obtain ⟨x, e1, hq⟩ := arG_out rd_seen h
  clear h
  subst e1
  have h := hq
  clear hq
  obtain ⟨hpre, h⟩ := chk_o h
  exact ⟨_, _, h, Nat.le_of_ble_eq_true (show Nat.ble 1 Tryd.f8.ntmps = true by kernel_rfl), _, run_spec_SeenText x hpre⟩

def pf_laws_toSeen : PF := ⟨[.c 2 true 4], .seq (.reg [.s (.box 1 (.t 0)), .s (.alloc 2 [.int .i64 0, .int .i64 0, .int .i64 0, .int .i64 0])]) (.seq (.reg [.s (.alloc 3 [.int .i64 0, .int .i64 0, .int .i64 0, .int .i64 0])]) (.seq (.reg [.s (.fa 4 (.t 1) 0), .s (.load 5 false 1 (.t 4)), .s (.fa 6 (.t 3) 0), .s (.store 1 (.t 6) (.t 5))]) (.seq (.reg [.s (.fa 7 (.t 1) 1), .s (.load 8 false 1 (.t 7)), .s (.fa 9 (.t 3) 1), .s (.store 1 (.t 9) (.t 8))]) (.seq (.reg [.s (.fa 10 (.t 1) 2), .s (.load 11 false 1 (.t 10)), .s (.fa 12 (.t 3) 2), .s (.store 1 (.t 12) (.t 11))]) (.seq (.reg [.s (.fa 13 (.t 1) 3), .s (.load 14 false 1 (.t 13)), .s (.fa 15 (.t 3) 3), .s (.store 1 (.t 15) (.t 14))]) (.seq (.reg [.s (.load 16 true 4 (.t 3)), .s (.store 4 (.t 2) (.t 16))]) (.ret)))))))⟩
def c_laws_toSeen : Fun := ⟨9, [], fun ts K => as1 ts fun t0 => arG pSeenT t0 fun a => K (tG (a.tc [])) []⟩
theorem run_laws_toSeen (a : Seen) : runK [] (0) [] pf_laws_toSeen [tG (a.tc [])] fun r o => r = tG (a.tc []) ∧ o = [] := by
  conv => whnf
  repeat' (first
    | exact rfl
    | exact trivial
    | (refine sel_i (fun h => ?_) (fun h => ?_) <;> conv => whnf)
    | (refine chk_c ?_ ?_ <;> conv => whnf)
    | (refine And.intro ?_ ?_ <;> conv => whnf))
theorem ok_laws_toSeen : FunOk Tryd.prog c_laws_toSeen := funOk (E := []) (envOk_nil) mixd Tryd.func9 (pf := pf_laws_toSeen) (by kernel_rfl) fun ts K h => by
  obtain ⟨t0, e0, h⟩ := as1_out h
  subst e0
  obtain ⟨a, e1, hq⟩ := arG_out rd_seen h
  clear h
  subst e1
  have h := hq
  clear hq
  exact ⟨_, _, h, Nat.le_of_ble_eq_true (show Nat.ble 1 Tryd.f9.ntmps = true by kernel_rfl), _, run_laws_toSeen a⟩
end Go.Pi
