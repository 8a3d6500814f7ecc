/- Chapter 25: records read out of bytes: the plain part. -/
import Derived.Test.YtjjbpiejplfbpaaPolO
namespace Go.Proofs.Ytjjbpiejplfbpaa
set_option linter.unusedVariables false
open Go.RowKit Go.Sort

/-- A list of a length that is a number, taken apart. -/
theorem list_of (n : Nat) (l : List Int) (h : l.length = n) : l = (List.range n).map fun i => l.getD i 0 := by
  apply List.ext_getElem?
  intro i
  by_cases hi : i < n
  · simp [List.getElem?_eq_getElem (show i < l.length by omega), hi]
  · rw [List.getElem?_eq_none (by omega), List.getElem?_eq_none (by simp; omega)]
set_option maxRecDepth 100000 in
theorem built_rec (w : World) (k i e : Int) (l : List Int) (hl : l.length = 32) : (Instr.build 69 #[(0, .int .i64 k), (1, .int .i64 i), (2, .int .i64 e), (3, .agg (l.flatMap encB).toArray)]).run Try.prog w = .ok (.agg (Rc.cs ⟨k, i, e, l⟩).toArray) w := by
  rw [list_of 32 l hl]
  generalize (fun i => l.getD i 0) = f
  exact run_build w 69 _ _ (by kernel_rfl)
def recAt (l : List Int) (a : Nat) : Rc := ⟨numB ((l.drop a).take 4), numB ((l.drop (a + 4)).take 4), numB ((l.drop (a + 8)).take 4), (l.drop (a + 12)).take 32⟩
def recsN (l : List Int) : Nat → List Rc
  | 0 => []
  | k + 1 => recsN l k ++ [recAt l (4 + 44 * k)]
theorem recsN_len (l : List Int) : ∀ k, (recsN l k).length = k
  | 0 => rfl
  | k + 1 => by simp [recsN, recsN_len l k]
theorem recAt_ok {l : List Int} {a : Nat} (h : BytesOk l) (hl : a + 44 ≤ l.length) : RcOk (recAt l a) :=
  ⟨by simp [recAt]; omega, fun x hx => h x (List.mem_of_mem_drop (List.mem_of_mem_take hx))⟩
end Go.Proofs.Ytjjbpiejplfbpaa
