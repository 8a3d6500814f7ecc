/- Parts of a block known whole: stored, and what it is then; literals in a drawn region. -/
import Derived.Test.YtmhbpfclfffgkaaBytes
import Derived.Deep.MidRow
import Derived.Deep.WholeRow
import Derived.Great.BuildSlice
namespace Go.Proofs.Ytmhbpfclfffgkaa
set_option linter.unusedVariables false
open Go.RowKit Go.Sort

/-- Cells, from a place on. -/
def setAt (cs : Array Value) : Nat → List Value → Array Value
  | _, [] => cs
  | o, v :: r => setAt (cs.setIfInBounds o v) (o + 1) r
theorem setAt_size : ∀ (vs : List Value) (o : Nat) (cs : Array Value), (setAt cs o vs).size = cs.size
  | [], _, _ => rfl
  | v :: r, o, cs => by rw [setAt, setAt_size r]; simp
theorem Blk.setCells {g : Nat} {t : TypeId} : ∀ (vs : List Value) (o : Nat) (cs : Array Value) (w : World), Blk w g t cs → Blk (w.setCells g o vs) g t (setAt cs o vs)
  | [], _, _, _, h => h
  | v :: r, o, cs, w, h => Blk.setCells r (o + 1) _ _ (h.set_ o v)
theorem setAt_parts : ∀ (new old a c : List Value), new.length = old.length → setAt (a ++ (old ++ c)).toArray a.length new = (a ++ (new ++ c)).toArray
  | [], old, a, c, h => by
    have : old = [] := List.eq_nil_of_length_eq_zero h.symm
    subst this; rfl
  | v :: r, old, a, c, h => by
    cases old with
    | nil => simp at h
    | cons u old =>
      have e : (a ++ (u :: old ++ c)).toArray.setIfInBounds a.length v = ((a ++ [v]) ++ (old ++ c)).toArray := by
        simp
      rw [setAt, e]
      have := setAt_parts r old (a ++ [v]) c (by simpa using h)
      rw [List.length_append] at this
      rw [show a.length + 1 = a.length + [v].length from rfl, this]
      simp
theorem setAt_whole {cs : Array Value} {new : List Value} (h : new.length = cs.size) : setAt cs 0 new.toArray.toList = new.toArray := by
  have := setAt_parts new cs.toList [] [] (by simpa using h)
  simpa using this
theorem Blk.there {w : World} {g : Nat} {t : TypeId} {cs : Array Value} (h : Blk w g t cs) {o n : Nat} (hn : o + n ≤ cs.size) : w.there g o n := fun j hj => by
  refine ⟨?_, h.frozen _⟩
  rw [h.cell, Array.getElem?_eq_getElem (by omega)]; rfl
theorem Blk.rangeIn {w : World} {g : Nat} {t : TypeId} {cs : Array Value} (h : Blk w g t cs) {o : Nat} {vs : List Value} (hv : ∀ (j : Nat) v, vs[j]? = some v → cs[o + j]? = some v) : w.rangeAt g o vs := fun j v hj => by
  rw [h.cell]; exact hv j v hj
theorem near_setCells {g : Nat} : ∀ (vs : List Value) (o : Nat) (w : World) (B : Nat), B ≤ g → Below B w (w.setCells g o vs)
  | [], _, w, _, _ => Below.refl _ _
  | v :: r, o, w, B, h => ((Below.refl _ w).setCell (p := ⟨g, o, none⟩) h v).trans (near_setCells r (o + 1) _ B h)
theorem size_setCells {g : Nat} : ∀ (vs : List Value) (o : Nat) (w : World), (w.setCells g o vs).heap.size = w.heap.size
  | [], _, w => rfl
  | v :: r, o, w => by rw [World.setCells, size_setCells r (o + 1)]; simp [World.setCell]
theorem heap_setCells {g i : Nat} (hi : i ≠ g) : ∀ (vs : List Value) (o : Nat) (w : World), (w.setCells g o vs).heap[i]? = w.heap[i]?
  | [], _, w => rfl
  | v :: r, o, w => by rw [World.setCells, heap_setCells hi r (o + 1)]; exact Below.heap_setCell w ⟨g, o, none⟩ v i hi
theorem list_ofV (n : Nat) (l : List Value) (h : l.length = n) : l = (List.range n).map fun i => l.getD i (.bool false) := by
  apply List.ext_getElem?
  intro i
  by_cases hi : i < n
  · simp [List.getElem?_eq_getElem (show i < l.length by omega), hi]
  · rw [List.getElem?_eq_none (by omega), List.getElem?_eq_none (by simp; omega)]
/-- A literal of a struct at a step of a plain region. -/
theorem wpList_built {P : Program} {ops : Array Oper} {rest : List Oper} {op : Oper} {a : Act} {w : World} {Q : Exit → Act → World → Prop} (hgd : op.guard = none) (ty : TypeId) (parts : Array (Nat × Operand)) (ho : op.op = .build ty parts)
    {vals : Array (Nat × Value)} (hv : (parts.map fun (i, x) => (i, a.eval x)) = vals) {V : Value} (hr : (Instr.build ty vals).run P w = .ok V w)
    (h : wpList P ops Q rest (a.put op.dst V) w) : wpList P ops Q (op :: rest) a w :=
  wpList_plain hgd fun _ hK => by
    unfold Oper.wp execOp
    simp only [ho, hv, Sem.run_bind, Sem.run_pure, Result.andThen_ok, hr]
    exact hK _ _ h
theorem wpList_builtSlice {P : Program} {ops : Array Oper} {rest : List Oper} {op : Oper} {a : Act} {w w' : World} {Q : Exit → Act → World → Prop} (hgd : op.guard = none) (ty : TypeId) (len : Nat) (parts : Array (Nat × Operand)) (ho : op.op = .buildSlice ty len parts)
    {vals : Array (Nat × Value)} (hv : (parts.map fun (i, x) => (i, a.eval x)) = vals) {V : Value} (hr : (Instr.buildSlice ty len vals).run P w = .ok V w')
    (h : wpList P ops Q rest (a.put op.dst V) w') : wpList P ops Q (op :: rest) a w :=
  wpList_plain hgd fun _ hK => by
    unfold Oper.wp execOp
    simp only [ho, hv, Sem.run_bind, Sem.run_pure, Result.andThen_ok, hr]
    exact hK _ _ h
/-- .. in the quiet head of a drawn one. -/
theorem wpQuiet_built {P : Program} {ops : Array Oper} {C : World → Prop} {Q : Act → Prop} {rest : List Oper} {o : Oper} {a : Act} (ty : TypeId) (parts : Array (Nat × Operand)) (ho : o.op = .build ty parts)
    {vals : Array (Nat × Value)} (hv : (parts.map fun (i, x) => (i, a.eval x)) = vals) {V : Value} (hr : ∀ w, (Instr.build ty vals).run P w = .ok V w) (hw : Region.wanted o (yielded ops a.tmps) = true)
    (h : wpQuiet P ops C Q rest (a.put o.dst V)) : wpQuiet P ops C Q (o :: rest) a := by
  unfold wpQuiet
  rw [if_pos hw]
  refine ⟨_, fun w hC => ?_, h⟩
  unfold Oper.quietAt execOp
  simp only [ho, hv, Sem.run_bind, Sem.run_pure, Result.andThen_ok, hr]
  exact ⟨rfl, rfl⟩
/-- A store into a part of a block known whole. -/
theorem wpList_store_blk {P : Program} {ops : Array Oper} {rest : List Oper} {op : Oper} {a : Act} {w : World} {Q : Exit → Act → World → Prop} (hgd : op.guard = none) (ty : TypeId) (x y : Operand) (ho : op.op = .store ty x y)
    (g o : Nat) (cells : Array Value) (hx : a.eval x = .pointer (some ⟨g, o, none⟩)) (hy : a.eval y = .agg cells) {t : TypeId} {cs cs' : Array Value} (hB : Blk w g t cs) (hn : o + cells.size ≤ cs.size)
    (hi : (P.info? ty).map (·.size) = some cells.size) (h1 : cells.all (·.oneCell') = true) (hc : setAt cs o cells.toList = cs')
    (h : ∀ w', Blk w' g t cs' → (∀ B, B ≤ g → Below B w w') → w'.heap.size = w.heap.size → (∀ i, i ≠ g → w'.heap[i]? = w.heap[i]?) → wpList P ops Q rest (a.put op.dst undef) w') : wpList P ops Q (op :: rest) a w :=
  wpList_store_mid hgd ty x y ho g o cells hx hy (hB.there hn) hi h1 (h _ (by rw [← hc]; exact hB.setCells _ _ _ _) (fun B hb => near_setCells _ _ _ B hb) (size_setCells _ _ _) (fun i hi => heap_setCells hi _ _ _))
/-- A result in a box of its own, and a plain one. -/
theorem results_cell_tmp {P : Program} {fn : Func} {a u : Tmp} {ty : TypeId} (h : fn.results = #[.cell a ty, .tmp u]) {tmps : Array Value} {w : World} {b o : Nat} {cs : List Value} {d : TypeDesc} (ha : tmps.getD a undef = .pointer (some ⟨b, o, none⟩))
    (hc : w.rangeAt b o cs) (hu : P.underlying ty = some d) (hd : d.isRow = true) (hi : (P.info? ty).map (·.size) = some cs.length) : (results fn tmps).run P w = .ok (.tuple #[.agg cs.toArray, tmps.getD u undef]) w := by
  have h1 := run_loadVar_mid w b o ty cs d hc hu hd hi
  have ha' : tmps[a]?.getD undef = .pointer (some ⟨b, o, none⟩) := by rw [← ha]; simp
  simp [results, h, ha', asAddr, h1]
end Go.Proofs.Ytmhbpfclfffgkaa
