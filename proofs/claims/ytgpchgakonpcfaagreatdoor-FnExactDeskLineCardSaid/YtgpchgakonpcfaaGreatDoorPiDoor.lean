/- The walk of a given statement whose row lists the library's table of powers of ten, out of PI's run of the law. No conditions. -/
import Derived.Test.YtgpchgakonpcfaaGreatDoorPiRow
import Derived.LaidMore
import Derived.MakeChecks
import Derived.Lib.LaidTab
import Derived.Handed
import Derived.Sort.Grow
import Derived.Lib.ItoaNum
import Derived.Deep.Draws
import Derived.Test.YtgpchgakonpcfaaGreatDoorPiKit
import Derived.Stop.LaidErr
namespace Go.Pi
set_option linter.unusedVariables false
set_option linter.unusedSimpArgs false
open Go.ChangeShapes Go.WideShapes Go.RowKit

theorem LowT.of_tab {P : Program} {W : World} {zs : List Int} (h : Lib.TabIs P W tabName .u64 zs) (hz : (zs.map fun z => Value.int .u64 z).toArray = tabVals) : LowT P W [] := fun b hb => by
  unfold Lib.TabIs at h
  rw [hz] at h
  refine ⟨?_, by simp, h⟩
  unfold World.var? at h
  rw [hb] at h
  simp only [Option.bind_some] at h
  split at h
  · rename_i hh
    exact (Array.getElem?_eq_some_iff.1 hh).1
  · cases h
theorem LowE.of_vars {P : Program} {W : World} (h : ∀ nm ∈ errNames, ∃ tp p, W.var? P nm = some #[.iface tp p]) : LowE P W [] := fun nm hn b hb => by
  obtain ⟨tp, p, h⟩ := h nm hn
  refine ⟨?_, by simp, tp, p, h⟩
  unfold World.var? at h
  rw [hb] at h
  simp only [Option.bind_some] at h
  split at h
  · rename_i hh
    exact (Array.getElem?_eq_some_iff.1 hh).1
  · cases h
theorem laidMet_rest {P : Program} {W : World} {x : String × DataW Unit} {rest : List (String × DataW Unit)} (h : laidMet P (x :: rest) W) : laidMet P rest W := by
  obtain ⟨ps, ⟨g', t', cs, fuel, p, q, hg', ht', hvar, hd, hr, rfl⟩, h2⟩ := h
  exact ⟨q, hr, (List.nodup_append.1 h2.1).2.1, fun b off hm => h2.2 b off (List.mem_append_right _ hm)⟩
theorem liftedX {X : World → Array Value → Prop} {H : Type} {enc : TypeId × Value → H} {a : Assume} {C : Checked} {os : Os} {f : FuncId} {fn : Func} {s : ChangeSpec} {conds : List PathCond} {fresh handsOn : Bool} {E : List Fun} {fuel : Nat} {pf : PF} {shs : List (Bool × List CK)} {tb : Nat}
    (hX : ∀ (w w' : World) (args : Array Value), w.heap = w'.heap → X w args → X w' args) (own : ownKnob C.prog.godebug = none) (started : os.Started) (noInit : C.prog.inits.idxOf? f = none) (hfn : C.prog.funcs[f]? = some fn)
    (witness : ∃ (w : World) (tape : Tape) (i : Input), w.os = os ∧ (w.forCall tape i).Shaped C.prog ∧ i.vars = [] ∧ Input.okWide C.prog (w.forCall tape i) .any w.heap.size f i ∧
      ((s.pre enc C.prog fn conds false (w.forCall tape i).memory i.args ∧ X (w.forCall tape i).memory i.args) ∧ sizedMet enc C.prog fn (OpenSpec.ofChange s) false (w.forCall tape i).memory i.args) ∧ a.holds C.prog (lone (Frame.enter C.prog f i.args .normal) [] (w.forCall tape i)))
    (hm : C.prog.follows .mixedOrders = true) (hE : EnvOk C.prog E) (hok : fnOk C.prog fn pf = true) (hps : parsOk C.prog fn.params.toList shs = true) (hl : laidOutB C.prog = true)
    (hres : fn.resultTypes = #[tb]) (htb : C.prog.underlying tb = some .bool) (hvars : s.vars = []) (hlow : ∀ W args, X W args → Low C.prog W [])
    (hspec : ∀ ds : List (DataW H), ds.length = shs.length → s.fn H ds = { results := [.lit (.bool true)], args := ds })
    (hrun : ∀ ain, TreesAre shs ain → runK E fuel [] pf ain fun r o => r = .v (.c (.bool true)) ∧ o = []) :
    ReturnsInHanded a C os f .any (fun w args => (s.pre enc C.prog fn conds false w args ∧ X w args) ∧ sizedMet enc C.prog fn (OpenSpec.ofChange s) false w args) (s.post enc C.prog fn false fresh handsOn false) := by
  refine returnsInHanded_of_change_and hX own started noInit hfn witness ?_
  intro W base args ds gs before hval hW _ _ hL _
  have hW' := hW
  obtain ⟨p, q, hA, hV, rfl, hfz, hnd⟩ := hW
  rw [hvars] at hV
  obtain ⟨rfl, rfl⟩ := trodVars_none hV
  obtain ⟨ain, G, hrep, htr, hG, hlen⟩ := open_pars hps hA (fun j t v h1 h2 => ⟨base, hval j t v (by simpa using h1) (by simpa using h2)⟩)
  have hsl := parsOk_length hps
  have hn : fn.params.size ≤ fn.ntmps := by
    have h := hok
    simp only [fnOk, Bool.and_eq_true] at h
    exact Nat.le_of_ble_eq_true h.1.1.2
  have hsp := spec_of_run (f := f) hE hm hfn hok (hrun ain htr) (fun w vs F G h => by
    rw [← Reps_length h, ← All2.length htr, hsl]; simpa using hn)
  refine (hsp W args.toList [] G hrep List.nodup_nil (fun x hx => by cases hx) (fun x hx => ⟨hG x hx, by simp⟩) (hlow _ _ hL)).mono fun e W' he => ?_
  obtain ⟨_, _, ⟨rfl, rfl⟩, v, F1, G1, Fo, Go', rfl, hr, _, _, _, _, hframe, _⟩ := he
  have hb : Below W.heap.size W W' := ⟨hframe.1, hframe.2.1, hframe.2.2.1, hframe.2.2.2.1, fun k hk => hframe.2.2.2.2 k hk (by simp)⟩
  have hv : v = .bool true := hr.1
  subst hv
  have hfs := hspec ds (by rw [hlen, hsl])
  refine ⟨_, rfl, ds, [], _, [], p, [], hW', ?_, ?_, ?_, hb.frame _, fun h => by cases h⟩
  · rw [List.append_nil, hfs, hres]; exact trodAll_mk1 (shut_bool htb true)
  · rw [List.append_nil, hfs]; exact again_pars hl hb hps hA
  · rw [List.append_nil, hfs, hvars]; exact rfl

def itoaB (n : Int) : ByteArray := ⟨(Lib.itoa n).toArray⟩
def itoaFun (f : Nat) : Fun := ⟨f, [], fun ts K => as1 ts fun t0 => arC (pI .i64) t0 fun n => chk (-9223372036854775808 ≤ n ∧ n ≤ 9223372036854775807) (K (.v (.c (.str (itoaB n)))) [])⟩
theorem Low.tab {P : Program} {w : World} {F : List Nat} {b : Nat} (h : Low P w F) (hb : P.globalNamed tabName = some b) : Lib.TabIs P w tabName .u64 Lib.pow10Tab := by
  have := (h.1 b hb).2.2
  unfold Lib.TabIs
  rw [this]
  simp [tabVals, Lib.pow10Tab, Function.comp_def]
theorem itoa_ok {P : Program} {f : Nat} {b : Nat} (hc : Callable P f) (hb : P.globalNamed tabName = some b)
    (h : ∀ (n : Int), -9223372036854775808 ≤ n → n ≤ 9223372036854775807 → ∀ w, Lib.TabIs P w tabName .u64 Lib.pow10Tab →
      Calls P f #[.int .i64 n] w fun e w' => e = .returned (.string ⟨(Lib.itoa n).toArray⟩) ∧ ∃ k os, w' = Sort.grow (w.drewN k) os) : FunOk P (itoaFun f) := by
  intro ts K hg
  obtain ⟨t0, e0, hg⟩ := as1_out hg
  subst e0
  obtain ⟨n, e1, hg⟩ := arC_out (rd_int .i64) hg
  subst e1
  obtain ⟨⟨h0, h1⟩, hg⟩ := chk_o hg
  intro w vs F G hrep _ _ _ hL
  obtain ⟨v, vs', hvs⟩ : ∃ v vs', vs = v :: vs' := by cases vs with
    | nil => exact hrep.elim
    | cons v vs' => exact ⟨v, vs', rfl⟩
  subst hvs
  obtain ⟨F1, F2, G1, G2, hv, hr, rfl, rfl⟩ := hrep
  have hv' : v = .int .i64 n ∧ F1 = [] ∧ G1 = [] := hv
  obtain ⟨rfl, rfl, rfl⟩ := hv'
  cases vs' with
  | cons _ _ => exact hr.elim
  | nil =>
  obtain ⟨rfl, rfl⟩ := hr
  refine .inl ⟨hc, (h n h0 h1 w (hL.tab hb)).mono fun e w' he => ?_⟩
  obtain ⟨rfl, k, os, rfl⟩ := he
  refine ⟨.v (.c (.str (itoaB n))), [], hg, _, [], [], [], [], rfl, ⟨rfl, rfl, rfl⟩, ⟨rfl, rfl⟩, List.nodup_nil, (fun x hx => by cases hx), (fun x hx => by cases hx), ⟨rfl, rfl, rfl, ?_, fun j hj _ => ?_⟩, trivial⟩
  · show w.heap.size ≤ (w.heap ++ os).size
    rw [Array.size_append]; omega
  · show (w.heap ++ os)[j]? = w.heap[j]?
    rw [Array.getElem?_append_left hj]
end Go.Pi
