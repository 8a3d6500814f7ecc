/- []byte("..") of a constant in a drawn region: the mark behind its row. -/
import Derived.Test.YtnkpaockginooaaVal
import Derived.Lib.UnsafeStr
namespace Go.Proofs.Ytnkpaockginooaa
set_option linter.unusedVariables false
set_option linter.unusedSimpArgs false
open Go.RowKit Go.Sort

/-- Bytes in a block of their own, which lies at B or behind. -/
def BytV (B : Nat) (l : List Int) : SP := ⟨fun w v => ∃ g fz, v = .slice (some ⟨g, 0, none⟩) l.length l.length ∧ B ≤ g ∧ w.heap[g]? = some (.cells (l.flatMap encB).toArray 5 fz), fun ⟨g, fz, h1, h2, h3⟩ hb => by
  rcases hb.block g (heap_lt h3) with e | ⟨cs, f1, f2, e1, e2⟩
  · exact ⟨g, fz, h1, h2, e.trans h3⟩
  · rw [h3] at e1
    simp only [Option.some.injEq, Obj.cells.injEq] at e1
    rw [← e1.1] at e2
    exact ⟨g, f2, h1, h2, e2⟩⟩
theorem byt_row {w : World} {g : Nat} {l : List Int} {fz : Nat × Nat} (h : w.heap[g]? = some (.cells (l.flatMap encB).toArray 5 fz)) (hm : l.length ≤ maxLen) : RowP 5 encB 1 l w (.slice (some ⟨g, 0, none⟩) l.length l.length) := by
  refine ⟨_, l.length, rfl, Nat.le_refl _, hm, ⟨by rw [flatB_len]; omega, fun hn => ⟨g, 0, rfl, heap_lt h, fun j u hj => ?_⟩⟩, fun hn => ⟨g, 0, _, fz, rfl, h⟩⟩
  rw [cell_of_row w g (0 + j) _ _ fz h, Nat.zero_add]
  simpa using hj
theorem freeze_heap {w : World} {g n : Nat} {cs : Array Value} {T : TypeId} {fz : Nat × Nat} (h : w.heap[g]? = some (.cells cs T fz)) : ∃ fz', (w.freeze ⟨g, n, none⟩ 1).heap[g]? = some (.cells cs T fz') := by
  have e : (w.freeze ⟨g, n, none⟩ 1).heap = w.heap.modify g fun
      | .cells c elem (lo, hi) => .cells c elem (if lo == hi then (n, n + 1) else (min lo n, max hi (n + 1)))
      | o => o := by
    unfold World.freeze
    rw [if_neg (by decide)]
    rfl
  rw [e, Array.getElem?_modify, if_pos rfl, h]
  obtain ⟨lo, hi⟩ := fz
  exact ⟨_, rfl⟩
theorem freeze_other {w : World} {g n b : Nat} (h : b ≠ g) : (w.freeze ⟨g, n, none⟩ 1).heap[b]? = w.heap[b]? := by
  unfold World.freeze
  rw [if_neg (by decide)]
  show (w.heap.modify g _)[b]? = _
  rw [Array.getElem?_modify, if_neg (Ne.symm h)]
theorem freeze_turn {w : World} {g n : Nat} {cs : Array Value} {fz : Nat × Nat} (h : w.heap[g]? = some (.cells cs 5 fz)) : Turn w (w.freeze ⟨g, n, none⟩ 1) := by
  refine ⟨?_, fun b hb => ?_⟩
  · unfold World.freeze
    rw [if_neg (by decide)]
    simp
  · by_cases e : b = g
    · subst e
      obtain ⟨fz', h'⟩ := freeze_heap (n := n) h
      exact .inr ⟨cs, fz, fz', h, h'⟩
    · exact .inl (freeze_other e)
theorem run_mark {w : World} {g n c : Nat} {cs : Array Value} {fz : Nat × Nat} (h : w.heap[g]? = some (.cells cs 5 fz)) : (convert 28 28 (.slice (some ⟨g, 0, none⟩) n c)).run Try.prog w = .ok (.slice (some ⟨g, 0, none⟩) n c) (w.freeze ⟨g, cs.size, none⟩ 1) := by
  have hsh : w.shape? g = some (5, cs.size) := by
    unfold World.shape?
    rw [h]
  simp [convert, run_underlying Try.underlying28, run_underlying Try.underlying5, markStringish, hsh]
end Go.Proofs.Ytnkpaockginooaa
