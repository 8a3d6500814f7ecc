/- Chapter 21, the registers: Vtcr, Vttbr, Root, Vmid, and the chapter's examples. -/
import Derived.Test.YtdmndgjfnlockaaRegsA
namespace Go.Proofs.Ytdmndgjfnlockaa
set_option linter.unusedVariables false
open Go.RowKit

set_option maxHeartbeats 400000 in
theorem vtcr_any (w : World) :
    Calls Try.prog 10 #[] w fun e w' => e = .returned (.int .u64 2147628376) ∧ Below w.heap.size w w' := by
  go_enter Try.func10, Try.ntmps10
  go_wp2_with (go_at_call 26; refine (joined_any _ 8 8 [(0, 24), (6, 1), (8, 1), (10, 1), (12, 3), (14, 0), (16, 2), (31, 1)] rfl (by decide) (by decide) _ ((Rd.new w _ _ 8 2 rfl).more (by simp))).mono ?_; rintro e w1 ⟨rfl, hb1⟩; have hb := below_alloc hb1; clear hb1)
  go_ret
  exact ⟨ret_int (by decide), hb⟩

/-- A register of a number and a root may be. -/
def vttbrOk (id root : Int) : Prop := 1 ≤ id ∧ id ≤ 255 ∧ root % 8192 = 0 ∧ root < 1099511627776
instance (id root : Int) : Decidable (vttbrOk id root) := by unfold vttbrOk; infer_instance

theorem p48 : (2 : Nat) ^ 48 = 281474976710656 := by decide +kernel
theorem or48a (id : Nat) : id * 281474976710656 % 2 ^ 48 = 0 := by rw [p48]; exact Nat.mul_mod_left _ _
theorem or48b (root : Nat) (h2 : root < 1099511627776) : root < 2 ^ 48 := by rw [p48]; omega
theorem or48 (id root : Nat) (h2 : root < 1099511627776) : id * 281474976710656 ||| root = id * 281474976710656 + root :=
  nat_join 48 (id * 281474976710656) root (or48a id) (or48b root h2)
theorem joinedN_one (id : Int) : joinedN [(48, id)] = joinedN [] ||| (id.toNat * 2 ^ 48) % 18446744073709551616 := joinedN_snoc [] (48, id)
theorem joinedN_two (id root : Int) : joinedN [(48, id), (0, root)] = (joinedN [] ||| (id.toNat * 2 ^ 48) % 18446744073709551616) ||| root.toNat * 2 ^ 0 % 18446744073709551616 := by
  rw [← joinedN_one]; exact joinedN_snoc [(48, id)] (0, root)
theorem joinedN_nil : joinedN [] = 0 := rfl
theorem joined_vttbr (id root : Int) (h0 : 0 ≤ id) (h1 : id ≤ 255) (h3 : 0 ≤ root) (h2 : root < 1099511627776) : (joinedN [(48, id), (0, root)] : Int) = id * 281474976710656 + root := by
  have e1 : id.toNat * 281474976710656 % 18446744073709551616 = id.toNat * 281474976710656 := Nat.mod_eq_of_lt (by omega)
  have e2 : root.toNat % 18446744073709551616 = root.toNat := Nat.mod_eq_of_lt (by omega)
  rw [joinedN_two, p48, e1, joinedN_nil, Nat.zero_or, Nat.pow_zero, Nat.mul_one, e2, or48 _ _ (by omega)]
  omega

set_option maxHeartbeats 400000 in
theorem vttbr_yes (id root : Int) (h : vttbrOk id root) (h0 : 0 ≤ root) (w : World) :
    Calls Try.prog 12 #[.int .i64 id, .int .u64 root] w fun e w' => e = .returned (.tuple #[.int .u64 (id * 281474976710656 + root), .int .i64 0]) ∧ Below w.heap.size w w' := by
  obtain ⟨h1, h2, h3, h4⟩ := h
  have HJ := Lib.hid (joined_vttbr id root (by omega) h2 h0 h4)
  have h3' : (root % 8192 != 0) = false := by simp [h3]
  clear h3
  go_enter Try.func12, Try.ntmps12
  go_wp2_with (go_at_call 26; refine (joined_any _ 2 2 [(48, id), (0, root)] rfl (by decide) (by simp; omega) _ ((Rd.new w _ _ 2 2 rfl).more (by simp))).mono ?_; rintro e w1 ⟨rfl, hb1⟩; have hb := below_alloc hb1; clear hb1)
  go_ret2
  exact ⟨by rw [← HJ.out]; rfl, hb⟩

set_option maxHeartbeats 400000 in
theorem vttbr_no (id root : Int) (h : ¬ vttbrOk id root) (h0 : 0 ≤ root) (w : World) :
    Calls Try.prog 12 #[.int .i64 id, .int .u64 root] w fun e w' => e = .returned (.tuple #[.int .u64 0, .int .i64 210]) ∧ Below w.heap.size w w' := by
  have H := Lib.hid h
  clear h
  go_enter Try.func12, Try.ntmps12
  go_wp2_with (go_at_call 26; exfalso; refine H.out ?_; unfold vttbrOk; omega)
  all_goals go_ret2
  all_goals exact ⟨rfl, Below.refl _ _⟩

set_option maxHeartbeats 400000 in
theorem refVttbr_yes (id root : Int) (h : vttbrOk id root) (h0 : 0 ≤ root) (w : World) :
    Calls Try.prog 13 #[.int .i64 id, .int .u64 root] w fun e w' => e = .returned (.tuple #[.int .u64 (id * 281474976710656 + root), .int .i64 0]) ∧ w = w' := by
  obtain ⟨h1, h2, h3, h4⟩ := h
  have h3' : (root % 8192 != 0) = false := by simp [h3]
  clear h3
  go_enter Try.func13, Try.ntmps13
  go_wp2
  go_ret2
  exact ⟨rfl, rfl⟩

set_option maxHeartbeats 400000 in
theorem refVttbr_no (id root : Int) (h : ¬ vttbrOk id root) (h0 : 0 ≤ root) (w : World) :
    Calls Try.prog 13 #[.int .i64 id, .int .u64 root] w fun e w' => e = .returned (.tuple #[.int .u64 0, .int .i64 210]) ∧ w = w' := by
  have H := Lib.hid h
  clear h
  go_enter Try.func13, Try.ntmps13
  go_wp2
  all_goals first | (go_ret2; exact ⟨rfl, rfl⟩) | (exfalso; refine H.out ?_; unfold vttbrOk; omega)

set_option maxHeartbeats 400000 in
theorem root_any (x : Int) (h0 : 0 ≤ x) (w : World) :
    Calls Try.prog 15 #[.int .u64 x] w fun e w' => e = .returned (.int .u64 (IntKind.u64.wrap (fieldN x 47 1 * 2))) ∧ w = w' := by
  go_enter Try.func15, Try.ntmps15
  go_wp2_with (go_at_call 27; refine (descField_any _ _ _ h0 _).mono ?_; rintro e w1 ⟨rfl, rfl⟩)
  go_ret
  exact ⟨rfl, rfl⟩

theorem fieldN_55 (x : Int) (h0 : 0 ≤ x) : fieldN x 55 48 < 256 := by
  rw [fieldN_yes (by decide) (by decide) (by decide)]
  exact Int.emod_lt_of_pos _ (by decide)

set_option maxHeartbeats 400000 in
theorem vmid_any (x : Int) (h0 : 0 ≤ x) (w : World) :
    Calls Try.prog 16 #[.int .u64 x] w fun e w' => e = .returned (.int .i64 (fieldN x 55 48)) ∧ w = w' := by
  have b0 := fieldN_bd x 55 48 h0
  have b1 := fieldN_55 x h0
  go_enter Try.func16, Try.ntmps16
  go_wp2_with (go_at_call 27; refine (descField_any _ _ _ h0 _).mono ?_; rintro e w1 ⟨rfl, rfl⟩)
  go_ret
  exact ⟨rfl, rfl⟩

set_option maxHeartbeats 400000 in
theorem awake21_any (w : World) :
    Calls Try.prog 9 #[] w fun e w' => e = .returned (.bool true) ∧ Below w.heap.size w w' := by
  go_enter Try.func9, Try.ntmps9
  go_wp2_with (first
    | (go_at_call 12; refine (vttbr_yes 1 1073750016 (by decide) (by decide) _).mono ?_; rintro e w1 ⟨rfl, hb1⟩)
    | (go_at_call 10; refine (vtcr_any _).mono ?_; rintro e w2 ⟨rfl, hb2⟩))
  go_ret
  exact ⟨rfl, hb1.trans (hb2.mono hb1.size)⟩
end Go.Proofs.Ytdmndgjfnlockaa
