/- A drawn region whose reads may be taken first: a row loaded, a struct built, an append. -/
import Derived.Test.YtjjbpiejplfbpaaUntil
import Derived.Test.YtjjbpiejplfbpaaParts
import Derived.Test.YtjjbpiejplfbpaaApp
namespace Go.Proofs.Ytjjbpiejplfbpaa
set_option linter.unusedVariables false
open Go.RowKit Go.Sort

section
variable {P : Program} {ops : Array Oper} {Q : Exit → Act → World → Prop} {md : Region.Mode} {S : World → Prop} {m0 : Nat}
theorem wpAnyT_load {i : Nat} {oi : Oper} {fuel : Nat} {listed : Array Bool} {a : Act} {w : World} (hi : ops[i]? = some oi)
    (hs : Region.noSelect ops = true) (hf : Region.free md ops listed i = true) (hr : (Region.ready md ops listed).contains i = true) (hw : waitsOn md ops m0 i = true) (hm : decide (i ≠ m0 ∧ listed.getD m0 false = false) = true)
    (hQ : ∀ c a w v, Q (.panic c) (a.put oi.dst v) w → Q (.panic c) a w) (hwt : Region.wanted oi (yielded ops a.tmps) = true)
    (ty : TypeId) (x : Operand) (ho : oi.op = .load ty x) (b off : Nat) (hx : a.eval x = .pointer (some ⟨b, off, none⟩)) (cs : List Value) (d : TypeDesc)
    (hc : ∀ w, S w → w.rangeAt b off cs) (hu : P.underlying ty = some d) (hd : d.isRow = true) (hz : (P.info? ty).map (·.size) = some cs.length) (hS : S w)
    (h : wpAnyT P md ops Q m0 S fuel (listed.setIfInBounds i true) (a.put oi.dst (.agg cs.toArray)) w) : wpAnyT P md ops Q m0 S (fuel + 1) listed a w :=
  wpAnyT_take hi hs hf hr hw hm (fun c a w h => hQ c a w _ h) (Or.inl ⟨hwt, fun w' hw' => by
    unfold execOp
    simp only [ho, hx, Instr.loadAt, Instr.sureAddr, Sem.run_bind, Sem.run_pure, Result.andThen_ok, run_loadVar_mid w' b off ty cs d (hc w' hw') hu hd hz]⟩) hS h
theorem wpAnyT_built {i : Nat} {oi : Oper} {fuel : Nat} {listed : Array Bool} {a : Act} {w : World} (hi : ops[i]? = some oi)
    (hs : Region.noSelect ops = true) (hf : Region.free md ops listed i = true) (hr : (Region.ready md ops listed).contains i = true) (hm : decide (i ≠ m0) = true)
    (hQ : ∀ c a w v, Q (.panic c) (a.put oi.dst v) w → Q (.panic c) a w) (hwt : Region.wanted oi (yielded ops a.tmps) = true)
    (ty : TypeId) (parts : Array (Nat × Operand)) (ho : oi.op = .build ty parts) {vals : Array (Nat × Value)} (hv : (parts.map fun (i, x) => (i, a.eval x)) = vals) {V : Value}
    (hb : ∀ w, (Instr.build ty vals).run P w = .ok V w) (hS : S w)
    (h : wpAnyT P md ops Q m0 S fuel (listed.setIfInBounds i true) (a.put oi.dst V) w) : wpAnyT P md ops Q m0 S (fuel + 1) listed a w :=
  wpAnyT_free hi hs hf hr hm (fun c a w h => hQ c a w _ h) hS (Or.inl ⟨hwt, fun w' _ => by
    unfold execOp
    simp only [ho, hv, Sem.run_bind, Sem.run_pure, Result.andThen_ok, hb w']⟩) h
end
end Go.Proofs.Ytjjbpiejplfbpaa
