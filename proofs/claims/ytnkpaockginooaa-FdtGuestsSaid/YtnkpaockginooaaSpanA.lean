/- Spans: whether one is good, its last address, whether one lies in another, whether they are whole pages; the program's and the document's, walked. -/
import Derived.Test.YtnkpaockginooaaNear
import Derived.Test.YtnkpaockginooaaNum
import Derived.Lib.QuietBelow
import Derived.BigQuiet
namespace Go.Proofs.Ytnkpaockginooaa
set_option linter.unusedVariables false
set_option linter.unusedSimpArgs false
open Go.RowKit Go.Sort

/-- A number of 64 bits. -/
def U64 (x : Int) : Prop := 0 ≤ x ∧ x < 18446744073709551616
def goodB (b s : Int) : Bool := decide (0 < s) && decide (s - 1 ≤ 18446744073709551615 - b)
def lastZ (b s : Int) : Int := if goodB b s = true then b + (s - 1) else 0
theorem lastZ_u {b s : Int} (hb : U64 b) (hs : U64 s) : U64 (lastZ b s) := by
  unfold lastZ goodB U64 at *
  split
  · rename_i h
    simp at h
    omega
  · omega
set_option maxHeartbeats 1000000 in
theorem good_any (b s : Int) (hb : U64 b) (hs : U64 s) (w : World) : Calls Try.prog 114 #[.agg #[.int .u64 b, .int .u64 s]] w fun e w' => e = .returned (.bool (goodB b s)) ∧ Below w.heap.size w w' := by
  obtain ⟨hb0, hb1⟩ := hb
  obtain ⟨hs0, hs1⟩ := hs
  have HB := Lib.hid (bal (Below.refl w.heap.size w) (.cells #[.int .u64 b, .int .u64 s] 37))
  go_enter Try.func114, Try.ntmps114
  by_cases h : 0 < s
  · go_wp2
    go_ret
    refine ⟨?_, HB.out⟩
    simp [goodB, h]
  · go_wp2
    go_ret
    refine ⟨?_, HB.out⟩
    simp [goodB, h]
    intro h2
    omega
set_option maxHeartbeats 1000000 in
theorem refGood_any (b s : Int) (hb : U64 b) (hs : U64 s) (w : World) : Calls Try.prog 103 #[.agg #[.int .u64 b, .int .u64 s]] w fun e w' => e = .returned (.bool (goodB b s)) ∧ Below w.heap.size w w' := by
  obtain ⟨hb0, hb1⟩ := hb
  obtain ⟨hs0, hs1⟩ := hs
  have HB := Lib.hid (bal (Below.refl w.heap.size w) (.cells #[.int .u64 b, .int .u64 s] 37))
  go_enter Try.func103, Try.ntmps103
  by_cases h : 0 < s
  · go_wp2
    go_ret
    refine ⟨?_, HB.out⟩
    have : decide (b ≤ 18446744073709551615 - (s - 1)) = decide (s - 1 ≤ 18446744073709551615 - b) := by
      congr 1
      apply propext
      omega
    simp [goodB, h, this]
  · go_wp2
    go_ret
    refine ⟨?_, HB.out⟩
    simp [goodB, h]
    intro h2
    omega
set_option maxHeartbeats 1000000 in
theorem last_any (b s : Int) (hb : U64 b) (hs : U64 s) (w : World) : Calls Try.prog 100 #[.agg #[.int .u64 b, .int .u64 s]] w fun e w' => e = .returned (.int .u64 (lastZ b s)) ∧ Below w.heap.size w w' := by
  have HB := Lib.hid (bal (Below.refl w.heap.size w) (.cells #[.int .u64 b, .int .u64 s] 37))
  have HK := Lib.hid (Blk.new w 37 #[.int .u64 b, .int .u64 s])
  have HG := Lib.hid (fun w => good_any b s hb hs w)
  obtain ⟨hb0, hb1⟩ := hb
  obtain ⟨hs0, hs1⟩ := hs
  go_enter Try.func100, Try.ntmps100
  rcases hg : goodB b s with _ | _
  all_goals
    go_wp2_with (go_at_call 114; refine (HG.out _).mono ?_; rw [hg]; rintro e w5 ⟨rfl, hb5⟩; have hc0 := (HK.out.kept hb5).cell 0; have hc1 := (HK.out.kept hb5).cell 1; simp only [List.getElem?_toArray, List.getElem?_cons_zero, List.getElem?_cons_succ] at hc0 hc1)
  · go_ret
    refine ⟨?_, HB.out.trans (hb5.mono HB.out.size)⟩
    simp [lastZ, hg]
  · simp [goodB] at hg
    obtain ⟨h1, h2⟩ := hg
    go_wp2
    go_ret
    refine ⟨?_, HB.out.trans (hb5.mono HB.out.size)⟩
    have e1 : IntKind.u64.wrap (s - 1) = s - 1 := by show (s - 1) % 18446744073709551616 = _; omega
    have e2 : IntKind.u64.wrap (b + (s - 1)) = b + (s - 1) := by show (b + (s - 1)) % 18446744073709551616 = _; omega
    simp [lastZ, goodB, h1, h2, e1, e2]
set_option maxHeartbeats 1000000 in
theorem refLast_any (b s : Int) (hb : U64 b) (hs : U64 s) (w : World) : Calls Try.prog 78 #[.agg #[.int .u64 b, .int .u64 s]] w fun e w' => e = .returned (.int .u64 (lastZ b s)) ∧ Below w.heap.size w w' := by
  have HB := Lib.hid (bal (Below.refl w.heap.size w) (.cells #[.int .u64 b, .int .u64 s] 37))
  have HK := Lib.hid (Blk.new w 37 #[.int .u64 b, .int .u64 s])
  have HG := Lib.hid (fun w => refGood_any b s hb hs w)
  obtain ⟨hb0, hb1⟩ := hb
  obtain ⟨hs0, hs1⟩ := hs
  go_enter Try.func78, Try.ntmps78
  rcases hg : goodB b s with _ | _
  all_goals
    go_wp2_with (go_at_call 103; refine (HG.out _).mono ?_; rw [hg]; rintro e w5 ⟨rfl, hb5⟩; have hc0 := (HK.out.kept hb5).cell 0; have hc1 := (HK.out.kept hb5).cell 1; simp only [List.getElem?_toArray, List.getElem?_cons_zero, List.getElem?_cons_succ] at hc0 hc1)
  · go_ret
    refine ⟨?_, HB.out.trans (hb5.mono HB.out.size)⟩
    simp [lastZ, hg]
  · simp [goodB] at hg
    obtain ⟨h1, h2⟩ := hg
    go_wp2
    go_ret
    refine ⟨?_, HB.out.trans (hb5.mono HB.out.size)⟩
    have e1 : IntKind.u64.wrap (s - 1) = s - 1 := by show (s - 1) % 18446744073709551616 = _; omega
    have e2 : IntKind.u64.wrap (b + (s - 1)) = b + (s - 1) := by show (b + (s - 1)) % 18446744073709551616 = _; omega
    simp [lastZ, goodB, h1, h2, e1, e2]
def hasB (b s x : Int) : Bool := goodB b s && decide (b ≤ x) && decide (x ≤ lastZ b s)
def withinB (b s c t : Int) : Bool := goodB b s && hasB c t b && hasB c t (lastZ b s)
set_option maxHeartbeats 1000000 in
theorem has_any (b s x : Int) (hb : U64 b) (hs : U64 s) (w : World) : Calls Try.prog 115 #[.agg #[.int .u64 b, .int .u64 s], .int .u64 x] w fun e w' => e = .returned (.bool (hasB b s x)) ∧ Below w.heap.size w w' := by
  have HB := Lib.hid (bal (Below.refl w.heap.size w) (.cells #[.int .u64 b, .int .u64 s] 37))
  have HK := Lib.hid (Blk.new w 37 #[.int .u64 b, .int .u64 s])
  have HG := Lib.hid (fun w => good_any b s hb hs w)
  have HL := Lib.hid (fun w => last_any b s hb hs w)
  go_enter Try.func115, Try.ntmps115
  rcases hg : goodB b s with _ | _
  · go_wp2_with (go_at_call 114; refine (HG.out _).mono ?_; rw [hg]; rintro e w5 ⟨rfl, hb5⟩)
    go_ret
    refine ⟨?_, HB.out.trans (hb5.mono HB.out.size)⟩
    simp [hasB, hg]
  by_cases h1 : b ≤ x
  · go_wp2_with (first | (go_at_call 114; refine (HG.out _).mono ?_; rw [hg]; rintro e w5 ⟨rfl, hb5⟩; have hc0 := (HK.out.kept hb5).cell 0; have hc1 := (HK.out.kept hb5).cell 1; simp only [List.getElem?_toArray, List.getElem?_cons_zero, List.getElem?_cons_succ] at hc0 hc1) | (go_at_call 100; refine (HL.out _).mono ?_; rintro e w6 ⟨rfl, hb6⟩))
    go_ret
    refine ⟨?_, (HB.out.trans (hb5.mono HB.out.size)).trans (hb6.mono (Nat.le_trans HB.out.size hb5.size))⟩
    simp [hasB, hg, h1]
  · go_wp2_with (go_at_call 114; refine (HG.out _).mono ?_; rw [hg]; rintro e w5 ⟨rfl, hb5⟩; have hc0 := (HK.out.kept hb5).cell 0; have hc1 := (HK.out.kept hb5).cell 1; simp only [List.getElem?_toArray, List.getElem?_cons_zero, List.getElem?_cons_succ] at hc0 hc1)
    go_ret
    refine ⟨?_, HB.out.trans (hb5.mono HB.out.size)⟩
    simp [hasB, hg, h1]
    intro h2
    omega
end Go.Proofs.Ytnkpaockginooaa
namespace Go.Proofs.Ytnkpaockginooaa
set_option linter.unusedVariables false
set_option linter.unusedSimpArgs false
open Go.RowKit Go.Sort

theorem wrap8 (t : Int) : Hid (True) := Lib.hid trivial
set_option maxHeartbeats 2000000 in
theorem within_any (b s c t : Int) (hb : U64 b) (hs : U64 s) (hc : U64 c) (ht : U64 t) (w : World) : Calls Try.prog 101 #[.agg #[.int .u64 b, .int .u64 s], .agg #[.int .u64 c, .int .u64 t]] w fun e w' => e = .returned (.bool (withinB b s c t)) ∧ Below w.heap.size w w' := by
  have HG := Lib.hid (fun w => good_any b s hb hs w)
  have HL := Lib.hid (fun w => last_any b s hb hs w)
  have H1 := Lib.hid (fun w => has_any c t b hc ht w)
  have H2 := Lib.hid (fun w => has_any c t (lastZ b s) hc ht w)
  go_enter Try.func101, Try.ntmps101
  go_wp2_with fail
  refine wp_name ?_
  intro w1 hw1
  have hb1 : RowKit.Below w.heap.size w w1 := by rw [hw1]; exact ((Below.refl _ _).alloc (Nat.le_refl _) _).alloc (by simp) _
  have hA : Blk w1 w.heap.size 37 #[.int .u64 b, .int .u64 s] := by rw [hw1]; exact (Blk.new _ _ _).alloc _
  have hB : Blk w1 (w.heap.size + 1) 37 #[.int .u64 c, .int .u64 t] := by rw [hw1]; exact Blk.fresh _ _ _
  clear hw1
  refine wp_region_quiet_below (by kernel_rfl) (by kernel_rfl) ?_
  have e0 := blk_regrown hA
  have e1 := blk_regrown hB
  rcases h0 : goodB b s with _ | _
  · repeat (go_big_quiet_step (first | (go_at_call 114; have HG' := HG.out; rw [h0] at HG'; exact regrown (HG' _))))
    refine wpQuiet_nil ?_
    rintro w2 ⟨p, rfl⟩
    have hb2 := hb1.trans ((below_regrown w1 p.d p.os).mono hb1.size)
    go_wp2_with fail
    go_ret
    exact ⟨by simp [withinB, h0], hb2⟩
  · rcases h1 : hasB c t b with _ | _
    · repeat (go_big_quiet_step (first | (go_at_call 114; have HG' := HG.out; rw [h0] at HG'; exact regrown (HG' _)) | (go_at_call 115; have HG' := H1.out; rw [h1] at HG'; exact regrown (HG' _))))
      refine wpQuiet_nil ?_
      rintro w2 ⟨p, rfl⟩
      have hb2 := hb1.trans ((below_regrown w1 p.d p.os).mono hb1.size)
      go_wp2_with fail
      go_ret
      exact ⟨by simp [withinB, h0, h1], hb2⟩
    · repeat (go_big_quiet_step (first | (go_at_call 114; have HG' := HG.out; rw [h0] at HG'; exact regrown (HG' _)) | (go_at_call 100; exact regrown (HL.out _)) | (go_at_call 115; first | (have HG' := H1.out; rw [h1] at HG'; with_reducible exact regrown (HG' _)) | (with_reducible exact regrown (H2.out _)))))
      refine wpQuiet_nil ?_
      rintro w2 ⟨p, rfl⟩
      have hb2 := hb1.trans ((below_regrown w1 p.d p.os).mono hb1.size)
      go_wp2_with fail
      go_ret
      exact ⟨by simp [withinB, h0, h1], hb2⟩
def rwithinB (b s c t : Int) : Bool := goodB b s && goodB c t && decide (c ≤ b) && decide (lastZ b s ≤ lastZ c t)
theorem within_eq (b s c t : Int) (hb : U64 b) (hs : U64 s) (hc : U64 c) (ht : U64 t) : rwithinB b s c t = withinB b s c t := by
  unfold rwithinB withinB hasB lastZ
  rcases h0 : goodB b s with _ | _
  · simp
  rcases h1 : goodB c t with _ | _
  · simp
  unfold goodB U64 at *
  simp at h0 h1
  simp
  rw [Bool.eq_iff_iff]
  simp
  omega
set_option maxHeartbeats 2000000 in
theorem refWithin_any (b s c t : Int) (hb : U64 b) (hs : U64 s) (hc : U64 c) (ht : U64 t) (w : World) : Calls Try.prog 79 #[.agg #[.int .u64 b, .int .u64 s], .agg #[.int .u64 c, .int .u64 t]] w fun e w' => e = .returned (.bool (withinB b s c t)) ∧ Below w.heap.size w w' := by
  rw [← within_eq b s c t hb hs hc ht]
  have HG := Lib.hid (fun w => refGood_any b s hb hs w)
  have HG2 := Lib.hid (fun w => refGood_any c t hc ht w)
  have HL := Lib.hid (fun w => refLast_any b s hb hs w)
  have HL2 := Lib.hid (fun w => refLast_any c t hc ht w)
  go_enter Try.func79, Try.ntmps79
  go_wp2_with fail
  refine wp_name ?_
  intro w1 hw1
  have hb1 : RowKit.Below w.heap.size w w1 := by rw [hw1]; exact ((Below.refl _ _).alloc (Nat.le_refl _) _).alloc (by simp) _
  have hA : Blk w1 w.heap.size 37 #[.int .u64 b, .int .u64 s] := by rw [hw1]; exact (Blk.new _ _ _).alloc _
  have hB : Blk w1 (w.heap.size + 1) 37 #[.int .u64 c, .int .u64 t] := by rw [hw1]; exact Blk.fresh _ _ _
  clear hw1
  refine wp_region_quiet_below (by kernel_rfl) (by kernel_rfl) ?_
  have e0 := blk_regrown hA
  have e1 := blk_regrown hB
  rcases h0 : goodB b s with _ | _
  · repeat (go_big_quiet_step (first | (go_at_call 103; have HG' := HG.out; rw [h0] at HG'; exact regrown (HG' _))))
    refine wpQuiet_nil ?_
    rintro w2 ⟨p, rfl⟩
    have hb2 := hb1.trans ((below_regrown w1 p.d p.os).mono hb1.size)
    go_wp2_with fail
    go_ret
    exact ⟨by simp [rwithinB, h0], hb2⟩
  rcases h1 : goodB c t with _ | _
  · repeat (go_big_quiet_step (first | (go_at_call 103; have HG' := HG.out; rw [h0] at HG'; have HG3 := HG2.out; rw [h1] at HG3; first | (with_reducible exact regrown (HG' _)) | (with_reducible exact regrown (HG3 _)))))
    refine wpQuiet_nil ?_
    rintro w2 ⟨p, rfl⟩
    have hb2 := hb1.trans ((below_regrown w1 p.d p.os).mono hb1.size)
    go_wp2_with fail
    go_ret
    exact ⟨by simp [rwithinB, h0, h1], hb2⟩
  by_cases h2 : c ≤ b
  · have hq : decide (c ≤ b) = true := by simpa using h2
    repeat (go_big_quiet_step (first | (go_at_call 103; have HG' := HG.out; rw [h0] at HG'; have HG3 := HG2.out; rw [h1] at HG3; first | (with_reducible exact regrown (HG' _)) | (with_reducible exact regrown (HG3 _))) | (go_at_call 78; first | (with_reducible exact regrown (HL.out _)) | (with_reducible exact regrown (HL2.out _)))))
    refine wpQuiet_nil ?_
    rintro w2 ⟨p, rfl⟩
    have hb2 := hb1.trans ((below_regrown w1 p.d p.os).mono hb1.size)
    go_wp2_with fail
    go_ret
    exact ⟨by simp [rwithinB, h0, h1, h2], hb2⟩
  · have hq : decide (c ≤ b) = false := by simpa using h2
    repeat (go_big_quiet_step (first | (go_at_call 103; have HG' := HG.out; rw [h0] at HG'; have HG3 := HG2.out; rw [h1] at HG3; first | (with_reducible exact regrown (HG' _)) | (with_reducible exact regrown (HG3 _)))))
    refine wpQuiet_nil ?_
    rintro w2 ⟨p, rfl⟩
    have hb2 := hb1.trans ((below_regrown w1 p.d p.os).mono hb1.size)
    go_wp2_with fail
    go_ret
    refine ⟨?_, hb2⟩
    have : (decide (c ≤ b)) = false := hq
    simp [rwithinB, h0, h1, this]
    try (intro h3; omega)
/-- Whole pages. -/
def pagesB (b s : Int) : Bool := goodB b s && decide (b % 4096 = 0) && decide (s % 4096 = 0)
theorem or_pages (b s : Int) (hb : U64 b) (hs : U64 s) : ((bits .or .u64 b s).tmod 4096 != 0) = !(decide (b % 4096 = 0) && decide (s % 4096 = 0)) := by
  obtain ⟨hb0, hb1⟩ := hb
  obtain ⟨hs0, hs1⟩ := hs
  obtain ⟨m, rfl⟩ := Int.eq_ofNat_of_zero_le hb0
  obtain ⟨k, rfl⟩ := Int.eq_ofNat_of_zero_le hs0
  rw [bits_or_u64_nat m k (by omega) (by omega), Int.tmod_eq_emod_of_nonneg (Int.natCast_nonneg _)]
  have h1 : (m ||| k) % 2 ^ 12 = (m % 2 ^ 12) ||| (k % 2 ^ 12) := Nat.or_mod_two_pow
  have h2 : (m ||| k) % 4096 = 0 ↔ m % 4096 = 0 ∧ k % 4096 = 0 := by
    rw [show (4096 : Nat) = 2 ^ 12 by rfl, h1, Nat.or_eq_zero_iff]
  have h3 : (((m ||| k : Nat) : Int) % 4096 = 0) ↔ ((m : Int) % 4096 = 0 ∧ (k : Int) % 4096 = 0) := by omega
  rw [Bool.eq_iff_iff]
  simp
  omega
end Go.Proofs.Ytnkpaockginooaa
namespace Go.Proofs.Ytnkpaockginooaa
set_option linter.unusedVariables false
set_option linter.unusedSimpArgs false
open Go.RowKit Go.Sort

set_option maxHeartbeats 2000000 in
theorem pagesFn_any (b s : Int) (hb : U64 b) (hs : U64 s) (w : World) : Calls Try.prog 113 #[.agg #[.int .u64 b, .int .u64 s]] w fun e w' => e = .returned (.bool (!pagesB b s)) ∧ Below w.heap.size w w' := by
  have HB := Lib.hid (bal (Below.refl w.heap.size w) (.cells #[.int .u64 b, .int .u64 s] 37))
  have HK := Lib.hid (Blk.new w 37 #[.int .u64 b, .int .u64 s])
  have HG := Lib.hid (fun w => good_any b s hb hs w)
  have HO := or_pages b s hb hs
  go_enter Try.func113, Try.ntmps113
  rcases hg : goodB b s with _ | _
  · go_wp2_with (go_at_call 114; refine (HG.out _).mono ?_; rw [hg]; rintro e w5 ⟨rfl, hb5⟩)
    go_ret
    refine ⟨?_, HB.out.trans (hb5.mono HB.out.size)⟩
    simp [pagesB, hg]
  · go_wp2_with (go_at_call 114; refine (HG.out _).mono ?_; rw [hg]; rintro e w5 ⟨rfl, hb5⟩; have hc0 := (HK.out.kept hb5).cell 0; have hc1 := (HK.out.kept hb5).cell 1; simp only [List.getElem?_toArray, List.getElem?_cons_zero, List.getElem?_cons_succ] at hc0 hc1)
    go_ret
    refine ⟨?_, HB.out.trans (hb5.mono HB.out.size)⟩
    simp [pagesB, hg]
set_option maxHeartbeats 2000000 in
theorem refPages_any (b s : Int) (hb : U64 b) (hs : U64 s) (w : World) : Calls Try.prog 77 #[.agg #[.int .u64 b, .int .u64 s]] w fun e w' => e = .returned (.bool (pagesB b s)) ∧ Below w.heap.size w w' := by
  have HB := Lib.hid (bal (Below.refl w.heap.size w) (.cells #[.int .u64 b, .int .u64 s] 37))
  have HK := Lib.hid (Blk.new w 37 #[.int .u64 b, .int .u64 s])
  have HG := Lib.hid (fun w => refGood_any b s hb hs w)
  go_enter Try.func77, Try.ntmps77
  rcases hg : goodB b s with _ | _
  · go_wp2_with (go_at_call 103; refine (HG.out _).mono ?_; rw [hg]; rintro e w5 ⟨rfl, hb5⟩)
    go_ret
    refine ⟨?_, HB.out.trans (hb5.mono HB.out.size)⟩
    simp [pagesB, hg]
  · have hbn := Lib.hid hb
    have hsn := Lib.hid hs
    obtain ⟨hb0, hb1⟩ := hb
    obtain ⟨hs0, hs1⟩ := hs
    by_cases h1 : b % 4096 = 0
    all_goals
      go_wp2_with (go_at_call 103; refine (HG.out _).mono ?_; rw [hg]; rintro e w5 ⟨rfl, hb5⟩; have hc0 := (HK.out.kept hb5).cell 0; have hc1 := (HK.out.kept hb5).cell 1; simp only [List.getElem?_toArray, List.getElem?_cons_zero, List.getElem?_cons_succ] at hc0 hc1)
      go_ret
      refine ⟨?_, HB.out.trans (hb5.mono HB.out.size)⟩
      simp [pagesB, hg, h1]
      try rw [Bool.eq_iff_iff, beq_iff_eq, decide_eq_true_iff]
/-- Two spans of which both must be whole pages. -/
def encSp (x : Int × Int) : List Value := [.int .u64 x.1, .int .u64 x.2]
set_option maxRecDepth 100000 in
set_option maxHeartbeats 2000000 in
theorem indexSp_any (A : Option Addr) (n c : Nat) (l : List (Int × Int)) (hl : l.length = n) (hn : n ≤ 1000000000) (hu : ∀ x ∈ l, U64 x.1 ∧ U64 x.2) (w : World) (hr : Rd w w.heap.size 2 A n (l.flatMap encSp)) :
    Calls Try.prog 118 #[.slice A n c, .func (.func 113) #[] #[]] w fun e w' => (∃ r : Int, e = .returned (.int .i64 r) ∧ decide (0 ≤ r) = l.any fun x => !pagesB x.1 x.2) ∧ Below w.heap.size w w' := by
  have HL := Lib.hid hl
  have HU := Lib.hid hu
  have HR := Lib.hid hr
  clear hl hu hr
  go_enter Try.func118, Try.ntmps118
  go_wp2_with fail
  go_loopw [8] (fun i wr => ∃ k : Nat, k ≤ n ∧ i = .int .i64 k ∧ Hid (∀ j, j < k → ∀ x, l[j]? = some x → pagesB x.1 x.2 = true) ∧ Below w.heap.size w wr) (fun i _ => n - (intOf i).toNat)
  case atStart => exact ⟨0, by omega, rfl, fun j hj => absurd hj (by omega), Below.refl _ _⟩
  case round =>
    obtain ⟨k, hk, rfl, hq, hbr⟩ := hrel
    by_cases hlt : k < n
    · obtain ⟨⟨b, s⟩, hp⟩ : ∃ p, l[k]? = some p := ⟨_, List.getElem?_eq_getElem (by rw [HL.out]; exact hlt)⟩
      have hux := HU.out _ (List.mem_of_getElem? hp)
      obtain ⟨b1, o1, rfl, hb1, hd1⟩ := (HR.out.keep (fun p hp => hbr.cell hp)).row (enc := encSp) (fun _ => rfl) (k := k) (by rw [HL.out]; exact hlt) HL.out
      have hg1 : l[k]'(by rw [HL.out]; exact hlt) = (b, s) := (List.getElem?_eq_some_iff.1 hp).2
      rw [hg1] at hd1
      have d0 := hd1 0 (by omega)
      have d1 := hd1 1 (by omega)
      clear hd1 hg1
      simp only [encSp, Nat.add_zero, List.getElem?_cons_zero, List.getElem?_cons_succ] at d0 d1
      have HC := Lib.hid (fun w => pagesFn_any b s hux.1 hux.2 w)
      have HP := Lib.hid hp
      rcases hpg : pagesB b s with _ | _
      · go_wp2_with (go_at_call 113; refine (HC.out _).mono ?_; rw [hpg]; rintro e w5 ⟨rfl, hb5⟩)
        go_ret
        refine ⟨⟨k, rfl, ?_⟩, hbr.trans (hb5.mono hbr.size)⟩
        have : (l.any fun x => !pagesB x.1 x.2) = true := List.any_eq_true.2 ⟨(b, s), List.mem_of_getElem? HP.out, by simp [hpg]⟩
        rw [this]
        simp
      · go_wp2_with (go_at_call 113; refine (HC.out _).mono ?_; rw [hpg]; rintro e w5 ⟨rfl, hb5⟩)
        go_roundw
        case rel =>
          refine ⟨k + 1, by omega, by go_num, fun j hj x hx => ?_, hbr.trans (hb5.mono hbr.size)⟩
          rcases Nat.lt_or_ge j k with h | h
          · exact hq j h x hx
          · obtain rfl : j = k := by omega
            rw [HP.out] at hx
            cases hx
            exact hpg
        case measure => simp [intOf]; omega
    · obtain rfl : k = n := by omega
      go_wp2_with fail
      go_ret
      refine ⟨⟨-1, rfl, ?_⟩, hbr⟩
      have : (l.any fun x => !pagesB x.1 x.2) = false := by
        rw [List.any_eq_false]
        intro x hx
        obtain ⟨j, hj⟩ := List.mem_iff_getElem?.1 hx
        have hjl := (List.getElem?_eq_some_iff.1 hj).1
        rw [HL.out] at hjl
        rw [hq j hjl x hj]
        simp
      rw [this]
      simp
theorem pages_any (A : Option Addr) (c : Nat) (b s b' s' : Int) (h1 : U64 b) (h2 : U64 s) (h3 : U64 b') (h4 : U64 s') (w : World) (hr : Rd w w.heap.size 2 A 2 [.int .u64 b, .int .u64 s, .int .u64 b', .int .u64 s']) :
    Calls Try.prog 99 #[.slice A 2 c] w fun e w' => e = .returned (.bool (pagesB b s && pagesB b' s')) ∧ Below w.heap.size w w' := by
  have HI := Lib.hid (indexSp_any A 2 c [(b, s), (b', s')] rfl (by decide) (by
    intro x hx
    simp at hx
    rcases hx with rfl | rfl
    · exact ⟨h1, h2⟩
    · exact ⟨h3, h4⟩) w hr)
  clear hr
  have HC : Hid (Calls Try.prog 112 #[.slice A 2 c, .func (.func 113) #[] #[]] w fun e w' => e = .returned (.bool (!(pagesB b s && pagesB b' s'))) ∧ Below w.heap.size w w') := by
    refine Lib.hid ?_
    go_enter Try.func112, Try.ntmps112
    go_wp2_with (go_at_call 118; refine HI.out.mono ?_; rintro e w5 ⟨⟨r, rfl, hr⟩, hb5⟩)
    go_ret
    refine ⟨?_, hb5⟩
    simp at hr
    simp [hr]
  go_enter Try.func99, Try.ntmps99
  go_wp2_with (go_at_call 112; refine HC.out.mono ?_; rintro e w5 ⟨rfl, hb5⟩)
  go_ret
  exact ⟨by simp, hb5⟩
end Go.Proofs.Ytnkpaockginooaa
