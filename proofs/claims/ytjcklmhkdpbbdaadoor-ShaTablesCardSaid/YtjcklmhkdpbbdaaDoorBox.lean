/- Boxes: a row stored into a new one, a result that lies in one. -/
import Derived.Test.YtjcklmhkdpbbdaaDoorParts
namespace Go.Proofs.YtjcklmhkdpbbdaaDoor
set_option linter.unusedVariables false
open Go.RowKit Go.Sort

theorem store_new {P : Program} {T : TypeId} {s : Nat} {Z : Array Value} (hZ : Z.size = s) (hi : (P.info? T).map (·.size) = some s) {cs : List Value} (hl : cs.length = s) (h1 : ∀ u ∈ cs, u.oneCell' = true) (w : World) :
    (storeCells ⟨w.heap.size, 0, none⟩ cs 0).run P (w.alloc (.cells Z T)) = .ok () (w.alloc (.cells cs.toArray T)) := by
  have := run_storeCells_new (P := P) w T Z cs.toArray (by simpa [hl] using hi) (by simp [hl, hZ]) (all_oneCell_toArray h1)
  simpa using this
/-- One result, in a box of its own. -/
theorem res_cell1 {P : Program} {fn : Func} {a : Tmp} {ty : TypeId} (h : fn.results = #[.cell a ty]) {tmps : Array Value} {w : World} {b o : Nat} {cs : List Value} {d : TypeDesc} (ha : tmps.getD a undef = .pointer (some ⟨b, o, none⟩))
    (hc : w.rangeAt b o cs) (hu : P.underlying ty = some d) (hd : d.isRow = true) (hi : (P.info? ty).map (·.size) = some cs.length) : (results fn tmps).run P w = .ok (.agg cs.toArray) w := by
  have h1 := run_loadVar_mid w b o ty cs d hc hu hd hi
  have ha' : tmps[a]?.getD undef = .pointer (some ⟨b, o, none⟩) := by rw [← ha]; simp
  simp [results, h, ha', asAddr, h1]
theorem Blk.range {w : World} {g : Nat} {t : TypeId} {cs : List Value} (h : Blk w g t cs.toArray) : w.rangeAt g 0 cs := h.rangeIn fun j v hv => by rw [Nat.zero_add]; simpa using hv
theorem Blk.rangeA {w : World} {g : Nat} {t : TypeId} {cs : Array Value} (h : Blk w g t cs) : w.rangeAt g 0 cs.toList := h.rangeIn fun j v hv => by rw [Nat.zero_add]; simpa using hv
theorem Blk.rd {w : World} {g : Nat} {t : TypeId} {cs : List Value} (h : Blk w g t cs.toArray) {n s : Nat} (hl : cs.length = n * s) : Rd w w.heap.size s (some ⟨g, 0, none⟩) n cs :=
  ⟨hl, fun _ => ⟨g, 0, rfl, h.lt, fun j u hu => by rw [Nat.zero_add, h.cell j]; simpa using hu⟩⟩
end Go.Proofs.YtjcklmhkdpbbdaaDoor
