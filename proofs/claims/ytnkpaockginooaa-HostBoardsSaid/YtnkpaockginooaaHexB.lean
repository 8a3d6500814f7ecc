/- Numbers as hexadecimal digits: the document's, walked. -/
import Derived.Test.YtnkpaockginooaaHexA
namespace Go.Proofs.Ytnkpaockginooaa
set_option linter.unusedVariables false
set_option linter.unusedSimpArgs false
open Go.RowKit Go.Sort

theorem enc_sg (d : Nat) (h : d < 16) : Utf8.encode (sg d) = strOfNums [sg d] := by
  have : d = 0 ∨ d = 1 ∨ d = 2 ∨ d = 3 ∨ d = 4 ∨ d = 5 ∨ d = 6 ∨ d = 7 ∨ d = 8 ∨ d = 9 ∨ d = 10 ∨ d = 11 ∨ d = 12 ∨ d = 13 ∨ d = 14 ∨ d = 15 := by omega
  rcases this with rfl | rfl | rfl | rfl | rfl | rfl | rfl | rfl | rfl | rfl | rfl | rfl | rfl | rfl | rfl | rfl <;> decide +kernel
theorem strOfNums_app (a b : List Int) : strOfNums a ++ strOfNums b = strOfNums (a ++ b) := by
  apply ByteArray.ext
  rw [ByteArray.data_append]
  simp [strOfNums]
theorem run_cat (w : World) (a b : List Int) (h : a.length + b.length ≤ 8388608) : (Op.stringOp .add (strOfNums a) (strOfNums b)).run Try.prog w = .ok (.string (strOfNums (a ++ b))) w := by
  have h1 : (strOfNums a).size + (strOfNums b).size ≤ 9223372036854775807 := by
    rw [strOfNums_size, strOfNums_size]
    omega
  have h2 := run_string_add_sum (P := Try.prog) (w := w) _ _ h1
  rw [strOfNums_app] at h2
  exact h2
set_option maxRecDepth 100000 in
set_option maxHeartbeats 2000000 in
theorem refHex_any (n : Nat) (hn : n < 18446744073709551616) (w : World) : Calls Try.prog 59 #[.int .u64 n] w fun e w' => e = .returned (.string (strOfNums (hexN n))) ∧ w' = w := by
  go_enter Try.func59, Try.ntmps59
  have hsg := sign_at (n % 16) (by omega)
  have hen := enc_sg (n % 16) (by omega)
  go_wp2_with fail
  clear hsg hen
  go_loopw [0, 3] (fun nv iv wr => ∃ (m f : Nat) (l : List Int), nv = .int .u64 m ∧ iv = .string (strOfNums (sg (m % 16) :: l)) ∧ f + l.length = 15 ∧ Hid (hexN n = hexF (f + 1) m ++ l) ∧ Hid (m < 16 ^ (f + 1)) ∧ m < 18446744073709551616 ∧ wr = w) (fun nv _ _ => (intOf nv).toNat)
  case atStart => exact ⟨n, 15, [], rfl, rfl, rfl, by simp [hexN, Hid], hn, hn, rfl⟩
  case round =>
    obtain ⟨m, f, l, rfl, rfl, hfl, hx, hm16, hm, rfl⟩ := hrel
    have hsg := sign_at (m / 16 % 16) (by omega)
    have hen := enc_sg (m / 16 % 16) (by omega)
    have hap := run_cat wr [sg (m / 16 % 16)] (sg (m % 16) :: l) (by simp; omega)
    by_cases h0 : 16 ≤ m
    · have hq : decide (16 ≤ (m : Int)) = true := by simpa using (show 16 ≤ (m : Int) by omega)
      go_wp2_with fail
      have hf1 : 1 ≤ f := by
        rcases Nat.eq_zero_or_pos f with h | h
        · subst h
          have := hm16.out
          omega
        · exact h
      obtain ⟨f', rfl⟩ : ∃ c', f = c' + 1 := ⟨f - 1, by omega⟩
      refine ⟨⟨m / 16, f', sg (m % 16) :: l, rfl, rfl, by rw [List.length_cons]; omega, ?_, ?_, by omega, trivial⟩, ?_⟩
      · have hx' := hx.out
        rw [hexF_step (by omega)] at hx'
        show hexN n = _
        simpa using hx'
      · have := hm16.out
        rw [Nat.pow_succ] at this
        exact (Nat.div_lt_iff_lt_mul (by omega)).2 this
      · show ((m : Int) / 16).toNat < (m : Int).toNat
        omega
    · have hq : decide (16 ≤ (m : Int)) = false := by simpa using (show ¬ 16 ≤ (m : Int) by omega)
      clear hap hsg hen
      go_wp2_with fail
      have hx' := hx.out
      rw [hexF_last (by omega)] at hx'
      have hx2 : sg (m % 16) :: l = hexN n := hx'.symm
      rw [hx2]
      exact bodyPost_ret (v := .string (strOfNums (hexN n))) (by simp [results, Try.results59, go_sem]) rfl ⟨rfl, rfl⟩
end Go.Proofs.Ytnkpaockginooaa
