/- Spans: whether one lies in another; whole pages; walked. -/
import Derived.Test.YtnkpaockginooaaSpanA
import Derived.BigQuiet
namespace Go.Proofs.Ytnkpaockginooaa
set_option linter.unusedVariables false
set_option linter.unusedSimpArgs false
open Go.RowKit Go.Sort

theorem wrap8 (t : Int) : Hid (True) := Lib.hid trivial
set_option maxHeartbeats 2000000 in
theorem within_any (b s c t : Int) (hb : U64 b) (hs : U64 s) (hc : U64 c) (ht : U64 t) (w : World) : Calls Try.prog 101 #[.agg #[.int .u64 b, .int .u64 s], .agg #[.int .u64 c, .int .u64 t]] w fun e w' => e = .returned (.bool (withinB b s c t)) ∧ Below w.heap.size w w' := by
  have HG := Lib.hid (fun w => good_any b s hb hs w)
  have HL := Lib.hid (fun w => last_any b s hb hs w)
  have H1 := Lib.hid (fun w => has_any c t b hc ht w)
  have H2 := Lib.hid (fun w => has_any c t (lastZ b s) hc ht w)
  go_enter Try.func101, Try.ntmps101
  go_wp2_with fail
  refine wp_name ?_
  intro w1 hw1
  have hb1 : RowKit.Below w.heap.size w w1 := by rw [hw1]; exact ((Below.refl _ _).alloc (Nat.le_refl _) _).alloc (by simp) _
  have hA : Blk w1 w.heap.size 37 #[.int .u64 b, .int .u64 s] := by rw [hw1]; exact (Blk.new _ _ _).alloc _
  have hB : Blk w1 (w.heap.size + 1) 37 #[.int .u64 c, .int .u64 t] := by rw [hw1]; exact Blk.fresh _ _ _
  clear hw1
  refine wp_region_quiet_below (by kernel_rfl) (by kernel_rfl) ?_
  have e0 := blk_regrown hA
  have e1 := blk_regrown hB
  rcases h0 : goodB b s with _ | _
  · repeat (go_big_quiet_step (first | (go_at_call 114; have HG' := HG.out; rw [h0] at HG'; exact regrown (HG' _))))
    refine wpQuiet_nil ?_
    rintro w2 ⟨p, rfl⟩
    have hb2 := hb1.trans ((below_regrown w1 p.d p.os).mono hb1.size)
    go_wp2_with fail
    go_ret
    exact ⟨by simp [withinB, h0], hb2⟩
  · rcases h1 : hasB c t b with _ | _
    · repeat (go_big_quiet_step (first | (go_at_call 114; have HG' := HG.out; rw [h0] at HG'; exact regrown (HG' _)) | (go_at_call 115; have HG' := H1.out; rw [h1] at HG'; exact regrown (HG' _))))
      refine wpQuiet_nil ?_
      rintro w2 ⟨p, rfl⟩
      have hb2 := hb1.trans ((below_regrown w1 p.d p.os).mono hb1.size)
      go_wp2_with fail
      go_ret
      exact ⟨by simp [withinB, h0, h1], hb2⟩
    · repeat (go_big_quiet_step (first | (go_at_call 114; have HG' := HG.out; rw [h0] at HG'; exact regrown (HG' _)) | (go_at_call 100; exact regrown (HL.out _)) | (go_at_call 115; first | (have HG' := H1.out; rw [h1] at HG'; with_reducible exact regrown (HG' _)) | (with_reducible exact regrown (H2.out _)))))
      refine wpQuiet_nil ?_
      rintro w2 ⟨p, rfl⟩
      have hb2 := hb1.trans ((below_regrown w1 p.d p.os).mono hb1.size)
      go_wp2_with fail
      go_ret
      exact ⟨by simp [withinB, h0, h1], hb2⟩
def rwithinB (b s c t : Int) : Bool := goodB b s && goodB c t && decide (c ≤ b) && decide (lastZ b s ≤ lastZ c t)
theorem within_eq (b s c t : Int) (hb : U64 b) (hs : U64 s) (hc : U64 c) (ht : U64 t) : rwithinB b s c t = withinB b s c t := by
  unfold rwithinB withinB hasB lastZ
  rcases h0 : goodB b s with _ | _
  · simp
  rcases h1 : goodB c t with _ | _
  · simp
  unfold goodB U64 at *
  simp at h0 h1
  simp
  rw [Bool.eq_iff_iff]
  simp
  omega
set_option maxHeartbeats 2000000 in
theorem refWithin_any (b s c t : Int) (hb : U64 b) (hs : U64 s) (hc : U64 c) (ht : U64 t) (w : World) : Calls Try.prog 79 #[.agg #[.int .u64 b, .int .u64 s], .agg #[.int .u64 c, .int .u64 t]] w fun e w' => e = .returned (.bool (withinB b s c t)) ∧ Below w.heap.size w w' := by
  rw [← within_eq b s c t hb hs hc ht]
  have HG := Lib.hid (fun w => refGood_any b s hb hs w)
  have HG2 := Lib.hid (fun w => refGood_any c t hc ht w)
  have HL := Lib.hid (fun w => refLast_any b s hb hs w)
  have HL2 := Lib.hid (fun w => refLast_any c t hc ht w)
  go_enter Try.func79, Try.ntmps79
  go_wp2_with fail
  refine wp_name ?_
  intro w1 hw1
  have hb1 : RowKit.Below w.heap.size w w1 := by rw [hw1]; exact ((Below.refl _ _).alloc (Nat.le_refl _) _).alloc (by simp) _
  have hA : Blk w1 w.heap.size 37 #[.int .u64 b, .int .u64 s] := by rw [hw1]; exact (Blk.new _ _ _).alloc _
  have hB : Blk w1 (w.heap.size + 1) 37 #[.int .u64 c, .int .u64 t] := by rw [hw1]; exact Blk.fresh _ _ _
  clear hw1
  refine wp_region_quiet_below (by kernel_rfl) (by kernel_rfl) ?_
  have e0 := blk_regrown hA
  have e1 := blk_regrown hB
  rcases h0 : goodB b s with _ | _
  · repeat (go_big_quiet_step (first | (go_at_call 103; have HG' := HG.out; rw [h0] at HG'; exact regrown (HG' _))))
    refine wpQuiet_nil ?_
    rintro w2 ⟨p, rfl⟩
    have hb2 := hb1.trans ((below_regrown w1 p.d p.os).mono hb1.size)
    go_wp2_with fail
    go_ret
    exact ⟨by simp [rwithinB, h0], hb2⟩
  rcases h1 : goodB c t with _ | _
  · repeat (go_big_quiet_step (first | (go_at_call 103; have HG' := HG.out; rw [h0] at HG'; have HG3 := HG2.out; rw [h1] at HG3; first | (with_reducible exact regrown (HG' _)) | (with_reducible exact regrown (HG3 _)))))
    refine wpQuiet_nil ?_
    rintro w2 ⟨p, rfl⟩
    have hb2 := hb1.trans ((below_regrown w1 p.d p.os).mono hb1.size)
    go_wp2_with fail
    go_ret
    exact ⟨by simp [rwithinB, h0, h1], hb2⟩
  by_cases h2 : c ≤ b
  · have hq : decide (c ≤ b) = true := by simpa using h2
    repeat (go_big_quiet_step (first | (go_at_call 103; have HG' := HG.out; rw [h0] at HG'; have HG3 := HG2.out; rw [h1] at HG3; first | (with_reducible exact regrown (HG' _)) | (with_reducible exact regrown (HG3 _))) | (go_at_call 78; first | (with_reducible exact regrown (HL.out _)) | (with_reducible exact regrown (HL2.out _)))))
    refine wpQuiet_nil ?_
    rintro w2 ⟨p, rfl⟩
    have hb2 := hb1.trans ((below_regrown w1 p.d p.os).mono hb1.size)
    go_wp2_with fail
    go_ret
    exact ⟨by simp [rwithinB, h0, h1, h2], hb2⟩
  · have hq : decide (c ≤ b) = false := by simpa using h2
    repeat (go_big_quiet_step (first | (go_at_call 103; have HG' := HG.out; rw [h0] at HG'; have HG3 := HG2.out; rw [h1] at HG3; first | (with_reducible exact regrown (HG' _)) | (with_reducible exact regrown (HG3 _)))))
    refine wpQuiet_nil ?_
    rintro w2 ⟨p, rfl⟩
    have hb2 := hb1.trans ((below_regrown w1 p.d p.os).mono hb1.size)
    go_wp2_with fail
    go_ret
    refine ⟨?_, hb2⟩
    have : (decide (c ≤ b)) = false := hq
    simp [rwithinB, h0, h1, this]
    try (intro h3; omega)
/-- Whole pages. -/
def pagesB (b s : Int) : Bool := goodB b s && decide (b % 4096 = 0) && decide (s % 4096 = 0)
theorem or_pages (b s : Int) (hb : U64 b) (hs : U64 s) : ((bits .or .u64 b s).tmod 4096 != 0) = !(decide (b % 4096 = 0) && decide (s % 4096 = 0)) := by
  obtain ⟨hb0, hb1⟩ := hb
  obtain ⟨hs0, hs1⟩ := hs
  obtain ⟨m, rfl⟩ := Int.eq_ofNat_of_zero_le hb0
  obtain ⟨k, rfl⟩ := Int.eq_ofNat_of_zero_le hs0
  rw [bits_or_u64_nat m k (by omega) (by omega), Int.tmod_eq_emod_of_nonneg (Int.natCast_nonneg _)]
  have h1 : (m ||| k) % 2 ^ 12 = (m % 2 ^ 12) ||| (k % 2 ^ 12) := Nat.or_mod_two_pow
  have h2 : (m ||| k) % 4096 = 0 ↔ m % 4096 = 0 ∧ k % 4096 = 0 := by
    rw [show (4096 : Nat) = 2 ^ 12 by rfl, h1, Nat.or_eq_zero_iff]
  have h3 : (((m ||| k : Nat) : Int) % 4096 = 0) ↔ ((m : Int) % 4096 = 0 ∧ (k : Int) % 4096 = 0) := by omega
  rw [Bool.eq_iff_iff]
  simp
  omega
end Go.Proofs.Ytnkpaockginooaa
