/- Numbers out of their bytes and back: the plain law. -/
import Derived.Test.YtnkpaockginooaaNum
namespace Go.Proofs.Ytnkpaockginooaa
set_option linter.unusedVariables false
open Go.RowKit Go.Sort

theorem bytesN_succ (s : Nat) (x : Int) : bytesN (s + 1) false x = bytesN s false (x / 256) ++ [x % 256] := by
  unfold bytesN
  rw [List.range_succ, List.map_append]
  congr 1
  · refine List.map_congr_left fun i hi => ?_
    have hi := List.mem_range.1 hi
    simp only [Bool.false_eq_true, if_false]
    unfold byteN
    rw [show s + 1 - 1 - i = (s - 1 - i) + 1 by omega, Nat.mul_add, Nat.mul_one, Nat.add_comm, Int.pow_add, ← Int.ediv_ediv_of_nonneg (by decide)]
    rfl
  · simp [byteN]
theorem numB_bytesN : ∀ (s : Nat) (x : Int), 0 ≤ x → x < 256 ^ s → numB (bytesN s false x) = x
  | 0, x, h0, h1 => by simp at h1; simp [bytesN, numB]; omega
  | s + 1, x, h0, h1 => by
    rw [bytesN_succ, numB_snoc, numB_bytesN s (x / 256) (by omega) (by rw [Int.pow_succ] at h1; omega)]
    omega
theorem bytesN_numB : ∀ (s : Nat) (l : List Int), l.length = s → BytesOk l → bytesN s false (numB l) = l
  | 0, l, h, _ => by obtain rfl := List.eq_nil_of_length_eq_zero h; rfl
  | s + 1, l, h, ho => by
    have hne : l ≠ [] := by intro e; rw [e] at h; cases h
    have e := (List.dropLast_concat_getLast hne).symm
    have hl : l.dropLast.length = s := by simp [h]
    have ho2 : BytesOk l.dropLast := fun x hx => ho x ((List.dropLast_sublist l).subset hx)
    have hx := ho _ (List.getLast_mem hne)
    have ih := bytesN_numB s l.dropLast hl ho2
    generalize l.getLast hne = x at *
    generalize l.dropLast = m at *
    rw [e, numB_snoc, bytesN_succ, show (numB m * 256 + x) / 256 = numB m by omega, show (numB m * 256 + x) % 256 = x by omega, ih]
theorem sub_ok {l : List Int} (h : BytesOk l) (a m : Nat) : BytesOk ((l.drop a).take m) := fun x hx => h x (List.mem_of_mem_drop (List.mem_of_mem_take hx))
end Go.Proofs.Ytnkpaockginooaa
