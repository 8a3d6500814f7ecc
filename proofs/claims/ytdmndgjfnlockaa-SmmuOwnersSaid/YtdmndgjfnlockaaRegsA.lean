/- Chapter 21, the registers: what the functions compute. -/
import Derived.Test.YtdmndgjfnlockaaDescF
namespace Go.Proofs.Ytdmndgjfnlockaa
set_option linter.unusedVariables false
open Go.RowKit

theorem field_step (x : Nat) (hi i : Nat) (h : i ≤ hi) : x / 2 ^ (i + 1) % 2 ^ (hi - i) * 2 + x / 2 ^ i % 2 = x / 2 ^ i % 2 ^ (hi + 1 - i) := by
  have e : hi + 1 - i = (hi - i) + 1 := by omega
  have e1 : 2 ^ (i + 1) = 2 ^ i * 2 := Nat.pow_succ ..
  have e2 : 2 ^ (hi - i + 1) = 2 * 2 ^ (hi - i) := Nat.pow_succ' ..
  rw [e, e1, e2, ← Nat.div_div_eq_div_mul, Nat.mod_mul (x := x / 2 ^ i)]
  omega

/-- One round of the loop. -/
theorem field_round (x hi k : Int) (h0 : 0 ≤ x) (h1 : x < 18446744073709551616) (hk0 : 0 ≤ k) (hk : k ≤ hi) (hh : hi ≤ 63) :
    bits BinOp.or IntKind.u64 (IntKind.u64.wrap (x / 2 ^ (k + 1).toNat % 2 ^ (hi - k).toNat * 2)) (bits BinOp.and IntKind.u64 (x / 2 ^ k.toNat) 1) = x / 2 ^ (k - 1 + 1).toNat % 2 ^ (hi - (k - 1)).toNat := by
  obtain ⟨x, rfl⟩ := Int.eq_ofNat_of_zero_le h0
  obtain ⟨k, rfl⟩ := Int.eq_ofNat_of_zero_le hk0
  obtain ⟨hi, rfl⟩ := Int.eq_ofNat_of_zero_le (Int.le_trans hk0 hk)
  have e1 : ((k : Int) + 1).toNat = k + 1 := by omega
  have e2 : ((hi : Int) - k).toNat = hi - k := by omega
  have e3 : ((k : Int) - 1 + 1).toNat = k := by omega
  have e4 : ((hi : Int) - (k - 1)).toNat = hi + 1 - k := by omega
  rw [e1, e2, e3, e4, Int.toNat_natCast, IntKind.wrap_u64]
  have b1 : x / 2 ^ (k + 1) % 2 ^ (hi - k) < 2 ^ 63 := Nat.lt_of_lt_of_le (Nat.mod_lt _ (Nat.two_pow_pos _)) (Nat.pow_le_pow_right (by omega) (by omega))
  have b2 : x / 2 ^ k < 18446744073709551616 := Nat.lt_of_le_of_lt (Nat.div_le_self _ _) (by omega)
  have hs := field_step x hi k (by omega)
  have hj := nat_join 1 (x / 2 ^ (k + 1) % 2 ^ (hi - k) * 2) (x / 2 ^ k % 2) (by omega) (by omega)
  have c1 : (x : Int) / 2 ^ (k + 1) % 2 ^ (hi - k) = ((x / 2 ^ (k + 1) % 2 ^ (hi - k) : Nat) : Int) := by simp only [Int.natCast_ediv, Int.natCast_emod, Int.natCast_pow]; rfl
  have c2 : (x : Int) / 2 ^ k = ((x / 2 ^ k : Nat) : Int) := by simp only [Int.natCast_ediv, Int.natCast_pow]; rfl
  have c3 : (x : Int) / 2 ^ k % 2 ^ (hi + 1 - k) = ((x / 2 ^ k % 2 ^ (hi + 1 - k) : Nat) : Int) := by simp only [Int.natCast_ediv, Int.natCast_emod, Int.natCast_pow]; rfl
  rw [c1, c3, c2, ← hs, ← hj]
  generalize x / 2 ^ (k + 1) % 2 ^ (hi - k) = A at *
  generalize x / 2 ^ k = B at *
  have d1 : ((A : Int) * 2) % 18446744073709551616 = ((A * 2 : Nat) : Int) := by omega
  have d2 : bits BinOp.and IntKind.u64 (B : Int) 1 = ((B % 2 : Nat) : Int) := (u64_and_nat B 1 b2 (by decide)).trans (by rw [nat_mask1])
  rw [d1, d2]
  exact u64_or_nat _ _ (by omega) (by omega)

set_option maxHeartbeats 400000 in
theorem refField_any (x hi lo : Int) (h0 : 0 ≤ x) (h1 : x < 18446744073709551616) (w : World) :
    Calls Try.prog 11 #[.int .u64 x, .int .i64 hi, .int .i64 lo] w fun e w' => e = .returned (.int .u64 (fieldN x hi lo)) ∧ w = w' := by
  by_cases h : 63 < hi ∨ lo < 0 ∨ hi < lo
  · have H := Lib.hid (fieldN_no (w := x) h)
    go_enter Try.func11, Try.ntmps11
    go_wp2
    all_goals first | (exfalso; omega) | (go_ret; exact ⟨ret_int H.out.symm, rfl⟩)
  · have H := Lib.hid (fieldN_yes (w := x) (hi := hi) (lo := lo) (by omega) (by omega) (by omega))
    have a1 : hi ≤ 63 := by omega
    have a2 : 0 ≤ lo := by omega
    have a3 : lo ≤ hi := by omega
    clear h
    go_enter Try.func11, Try.ntmps11
    go_wp2
    go_loop [7, 8] (fun n i => ∃ k : Int, lo - 1 ≤ k ∧ k ≤ hi ∧ i = .int .i64 k ∧ n = .int .u64 (x / 2 ^ (k + 1).toNat % 2 ^ (hi - k).toNat)) (fun _ i => (intOf i - lo + 1).toNat)
    case atStart => exact ⟨hi, by omega, by omega, rfl, by simp⟩
    case round =>
      obtain ⟨k, hk1, hk2, rfl, rfl⟩ := hrel
      by_cases hlt : lo ≤ k
      · have HR := Lib.hid (field_round x hi k h0 h1 (by omega) hk2 a1)
        go_wp2
        go_round
        case rel => exact ⟨k - 1, by omega, by omega, rfl, congrArg _ HR.out⟩
        case measure => simp [intOf]; omega
      · obtain rfl : k = lo - 1 := by omega
        go_wp2
        go_ret
        refine ⟨ret_int ?_, rfl⟩
        rw [H.out, show (hi - (lo - 1)).toNat = (hi + 1 - lo).toNat by omega]
set_option maxHeartbeats 400000 in
theorem refVtcr_any (w : World) :
    Calls Try.prog 14 #[] w fun e w' => e = .returned (.int .u64 2147628376) ∧ w = w' := by
  go_enter Try.func14, Try.ntmps14
  go_wp2
  go_ret
  exact ⟨rfl, rfl⟩

/-! ### fields, put together -/
def encF (f : Nat × Int) : List Value := [.int .i64 f.1, .int .u64 f.2]
def joinedN (l : List (Nat × Int)) : Nat := l.foldl (fun w f => w ||| (f.2.toNat * 2 ^ f.1) % 18446744073709551616) 0
theorem joinedN_snoc (l : List (Nat × Int)) (f : Nat × Int) : joinedN (l ++ [f]) = joinedN l ||| (f.2.toNat * 2 ^ f.1) % 18446744073709551616 := by simp [joinedN]
theorem joinedN_lt (l : List (Nat × Int)) : joinedN l < 18446744073709551616 := by
  unfold joinedN
  have key : ∀ (l : List (Nat × Int)) (w : Nat), w < 2 ^ 64 → l.foldl (fun w f => w ||| (f.2.toNat * 2 ^ f.1) % 18446744073709551616) w < 2 ^ 64 := by
    intro l
    induction l with
    | nil => intro w h; exact h
    | cons a l ih => intro w h; exact ih _ (Nat.or_lt_two_pow h (Nat.mod_lt _ (by decide)))
  exact key l 0 (by decide)

theorem joined_step (l : List (Nat × Int)) (k : Nat) (h : k < l.length) (h0 : 0 ≤ l[k].2) :
    bits BinOp.or IntKind.u64 (joinedN (l.take k) : Int) (IntKind.u64.wrap (l[k].2 * 2 ^ l[k].1)) = (joinedN (l.take (k + 1)) : Int) := by
  rw [List.take_succ_eq_append_getElem h, joinedN_snoc, IntKind.wrap_u64]
  have e : l[k].2 * 2 ^ l[k].1 % 18446744073709551616 = ((l[k].2.toNat * 2 ^ l[k].1 % 18446744073709551616 : Nat) : Int) := by
    have e0 : l[k].2 = (l[k].2.toNat : Int) := (Int.toNat_of_nonneg h0).symm
    generalize l[k].2.toNat = m at e0 ⊢
    rw [e0]
    simp only [Int.natCast_emod, Int.natCast_mul, Int.natCast_pow]; rfl
  rw [e]
  exact u64_or_nat _ _ (joinedN_lt _) (Nat.mod_lt _ (by decide))

set_option maxHeartbeats 400000 in
theorem joined_any (A : Option Addr) (n c : Nat) (l : List (Nat × Int)) (hl : l.length = n) (hn : n ≤ 9223372036854775807) (hat : ∀ f ∈ l, f.1 < 64 ∧ 0 ≤ f.2) (w : World) (hr : Rd w w.heap.size 2 A n (l.flatMap encF)) :
    Calls Try.prog 26 #[.slice A n c] w fun e w' => e = .returned (.int .u64 (joinedN l)) ∧ Below w.heap.size w w' := by
  go_enter Try.func26, Try.ntmps26
  go_wp2
  go_loopw [3, 8] (fun s i wr => ∃ k : Nat, k ≤ n ∧ i = .int .i64 k ∧ s = .int .u64 (joinedN (l.take k)) ∧ Below w.heap.size w wr) (fun _ i _ => n - (intOf i).toNat)
  case atStart => exact ⟨0, by omega, rfl, rfl, Below.refl _ _⟩
  case round =>
    obtain ⟨k, hk, rfl, rfl, hb⟩ := hrel
    by_cases hlt : k < n
    · obtain ⟨b, off, rfl, hbb, hc⟩ := (hr.below hb).row (fun _ => rfl) (k := k) (by omega) hl
      have h1 := hc 0 (by omega)
      have h2 := hc 1 (by omega)
      simp only [encF, Nat.add_zero] at h1 h2
      have hlt' : k < l.length := by omega
      obtain ⟨ht, ht0⟩ := hat _ (List.getElem_mem hlt')
      clear hc hat hr
      have HB := Lib.hid (joined_step l k hlt' ht0)
      go_wp2
      go_roundw
      case rel => exact ⟨k + 1, by omega, by go_num, congrArg _ HB.out, hb.alloc hb.size _⟩
      case measure => simp [intOf]; omega
    · go_wp2
      go_ret
      exact ⟨ret_int (by rw [List.take_of_length_le (by omega)]), hb⟩
end Go.Proofs.Ytdmndgjfnlockaa
