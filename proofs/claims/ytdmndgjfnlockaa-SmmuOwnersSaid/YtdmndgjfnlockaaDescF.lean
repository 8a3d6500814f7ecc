/- Bits of a word: desc.Field. -/
import Derived.Test.YtdmndgjfnlockaaWords
namespace Go.Proofs.Ytdmndgjfnlockaa
set_option linter.unusedVariables false
open Go.RowKit

/-- Bits lo to hi of a word; 0 where there are none such. -/
def fieldN (w hi lo : Int) : Int := if 63 < hi ∨ lo < 0 ∨ hi < lo then 0 else w / 2 ^ lo.toNat % 2 ^ (hi + 1 - lo).toNat
theorem fieldN_no {w hi lo : Int} (h : 63 < hi ∨ lo < 0 ∨ hi < lo) : fieldN w hi lo = 0 := if_pos h
theorem fieldN_yes {w hi lo : Int} (h1 : hi ≤ 63) (h2 : 0 ≤ lo) (h3 : lo ≤ hi) : fieldN w hi lo = w / 2 ^ lo.toNat % 2 ^ (hi + 1 - lo).toNat := if_neg (by omega)

theorem shl_shr (w : Nat) (hi lo : Nat) (h1 : hi ≤ 63) (h3 : lo ≤ hi) : (w * 2 ^ (63 - hi)) % 2 ^ 64 / 2 ^ (63 - hi + lo) = w / 2 ^ lo % 2 ^ (hi + 1 - lo) := by
  have e : (2 : Nat) ^ 64 = 2 ^ (63 - hi) * 2 ^ (hi + 1) := by rw [← Nat.pow_add]; congr 1; omega
  rw [Nat.pow_add, ← Nat.div_div_eq_div_mul, Nat.mul_comm w, e, Nat.mul_mod_mul_left, Nat.mul_div_cancel_left _ (Nat.two_pow_pos _)]
  have e2 : (2 : Nat) ^ (hi + 1) = 2 ^ lo * 2 ^ (hi + 1 - lo) := by rw [← Nat.pow_add]; congr 1; omega
  rw [e2, Nat.mod_mul_right_div_self]

theorem ret_int {k : IntKind} {a b : Int} (h : a = b) : Ending.returned (.int k a) = .returned (.int k b) := by rw [h]

theorem shl_shr_int (x hi lo : Int) (h0 : 0 ≤ x) (h1 : hi ≤ 63) (h2 : 0 ≤ lo) (h3 : lo ≤ hi) :
    IntKind.u64.wrap (x * 2 ^ (63 - hi).toNat) / 2 ^ (63 - hi + lo).toNat = fieldN x hi lo := by
  rw [fieldN_yes h1 h2 h3, IntKind.wrap_u64]
  obtain ⟨x, rfl⟩ := Int.eq_ofNat_of_zero_le h0
  obtain ⟨lo, rfl⟩ := Int.eq_ofNat_of_zero_le h2
  obtain ⟨hi, rfl⟩ := Int.eq_ofNat_of_zero_le (Int.le_trans h2 h3)
  have e1 : (63 - (hi : Int)).toNat = 63 - hi := by omega
  have e2 : (63 - (hi : Int) + lo).toNat = 63 - hi + lo := by omega
  have e3 : ((hi : Int) + 1 - lo).toNat = hi + 1 - lo := by omega
  rw [e1, e2, e3, Int.toNat_natCast]
  have h := congrArg (fun n : Nat => (n : Int)) (shl_shr x hi lo (by omega) (by omega))
  simp only [Int.natCast_ediv, Int.natCast_emod, Int.natCast_mul, Int.natCast_pow] at h
  exact h

set_option maxHeartbeats 400000 in
theorem descField_any (x hi lo : Int) (h0 : 0 ≤ x) (w : World) :
    Calls Try.prog 27 #[.int .u64 x, .int .i64 hi, .int .i64 lo] w fun e w' => e = .returned (.int .u64 (fieldN x hi lo)) ∧ w = w' := by
  by_cases h : 63 < hi ∨ lo < 0 ∨ hi < lo
  · have H := Lib.hid (fieldN_no (w := x) h)
    go_enter Try.func27, Try.ntmps27
    go_wp2
    all_goals first | (exfalso; omega) | (go_ret; exact ⟨ret_int H.out.symm, rfl⟩)
  · have H := Lib.hid (shl_shr_int x hi lo h0 (by omega) (by omega) (by omega))
    have a1 : hi ≤ 63 := by omega
    have a2 : 0 ≤ lo := by omega
    have a3 : lo ≤ hi := by omega
    clear h
    go_enter Try.func27, Try.ntmps27
    go_wp2
    go_ret
    exact ⟨ret_int H.out, rfl⟩

theorem fieldN_bd (x hi lo : Int) (h0 : 0 ≤ x) : 0 ≤ fieldN x hi lo := by
  unfold fieldN; split
  · omega
  · exact Int.emod_nonneg _ (by have : (0 : Int) < 2 ^ (hi + 1 - lo).toNat := Int.pow_pos (by decide); omega)
end Go.Proofs.Ytdmndgjfnlockaa
