/- Spans: whether one is good, its last address, whether one lies in another, whether they are whole pages; the program's and the document's, walked. -/
import Derived.Test.YtnkpaockginooaaNear
import Derived.Test.YtnkpaockginooaaNum
import Derived.Lib.QuietBelow
namespace Go.Proofs.Ytnkpaockginooaa
set_option linter.unusedVariables false
set_option linter.unusedSimpArgs false
open Go.RowKit Go.Sort

/-- A number of 64 bits. -/
def U64 (x : Int) : Prop := 0 ≤ x ∧ x < 18446744073709551616
def goodB (b s : Int) : Bool := decide (0 < s) && decide (s - 1 ≤ 18446744073709551615 - b)
def lastZ (b s : Int) : Int := if goodB b s = true then b + (s - 1) else 0
theorem lastZ_u {b s : Int} (hb : U64 b) (hs : U64 s) : U64 (lastZ b s) := by
  unfold lastZ goodB U64 at *
  split
  · rename_i h
    simp at h
    omega
  · omega
set_option maxHeartbeats 1000000 in
theorem good_any (b s : Int) (hb : U64 b) (hs : U64 s) (w : World) : Calls Try.prog 114 #[.agg #[.int .u64 b, .int .u64 s]] w fun e w' => e = .returned (.bool (goodB b s)) ∧ Below w.heap.size w w' := by
  obtain ⟨hb0, hb1⟩ := hb
  obtain ⟨hs0, hs1⟩ := hs
  have HB := Lib.hid (bal (Below.refl w.heap.size w) (.cells #[.int .u64 b, .int .u64 s] 37))
  go_enter Try.func114, Try.ntmps114
  by_cases h : 0 < s
  · go_wp2
    go_ret
    refine ⟨?_, HB.out⟩
    simp [goodB, h]
  · go_wp2
    go_ret
    refine ⟨?_, HB.out⟩
    simp [goodB, h]
    intro h2
    omega
set_option maxHeartbeats 1000000 in
theorem refGood_any (b s : Int) (hb : U64 b) (hs : U64 s) (w : World) : Calls Try.prog 103 #[.agg #[.int .u64 b, .int .u64 s]] w fun e w' => e = .returned (.bool (goodB b s)) ∧ Below w.heap.size w w' := by
  obtain ⟨hb0, hb1⟩ := hb
  obtain ⟨hs0, hs1⟩ := hs
  have HB := Lib.hid (bal (Below.refl w.heap.size w) (.cells #[.int .u64 b, .int .u64 s] 37))
  go_enter Try.func103, Try.ntmps103
  by_cases h : 0 < s
  · go_wp2
    go_ret
    refine ⟨?_, HB.out⟩
    have : decide (b ≤ 18446744073709551615 - (s - 1)) = decide (s - 1 ≤ 18446744073709551615 - b) := by
      congr 1
      apply propext
      omega
    simp [goodB, h, this]
  · go_wp2
    go_ret
    refine ⟨?_, HB.out⟩
    simp [goodB, h]
    intro h2
    omega
set_option maxHeartbeats 1000000 in
theorem last_any (b s : Int) (hb : U64 b) (hs : U64 s) (w : World) : Calls Try.prog 100 #[.agg #[.int .u64 b, .int .u64 s]] w fun e w' => e = .returned (.int .u64 (lastZ b s)) ∧ Below w.heap.size w w' := by
  have HB := Lib.hid (bal (Below.refl w.heap.size w) (.cells #[.int .u64 b, .int .u64 s] 37))
  have HK := Lib.hid (Blk.new w 37 #[.int .u64 b, .int .u64 s])
  have HG := Lib.hid (fun w => good_any b s hb hs w)
  obtain ⟨hb0, hb1⟩ := hb
  obtain ⟨hs0, hs1⟩ := hs
  go_enter Try.func100, Try.ntmps100
  rcases hg : goodB b s with _ | _
  all_goals
    go_wp2_with (go_at_call 114; refine (HG.out _).mono ?_; rw [hg]; rintro e w5 ⟨rfl, hb5⟩; have hc0 := (HK.out.kept hb5).cell 0; have hc1 := (HK.out.kept hb5).cell 1; simp only [List.getElem?_toArray, List.getElem?_cons_zero, List.getElem?_cons_succ] at hc0 hc1)
  · go_ret
    refine ⟨?_, HB.out.trans (hb5.mono HB.out.size)⟩
    simp [lastZ, hg]
  · simp [goodB] at hg
    obtain ⟨h1, h2⟩ := hg
    go_wp2
    go_ret
    refine ⟨?_, HB.out.trans (hb5.mono HB.out.size)⟩
    have e1 : IntKind.u64.wrap (s - 1) = s - 1 := by show (s - 1) % 18446744073709551616 = _; omega
    have e2 : IntKind.u64.wrap (b + (s - 1)) = b + (s - 1) := by show (b + (s - 1)) % 18446744073709551616 = _; omega
    simp [lastZ, goodB, h1, h2, e1, e2]
set_option maxHeartbeats 1000000 in
theorem refLast_any (b s : Int) (hb : U64 b) (hs : U64 s) (w : World) : Calls Try.prog 78 #[.agg #[.int .u64 b, .int .u64 s]] w fun e w' => e = .returned (.int .u64 (lastZ b s)) ∧ Below w.heap.size w w' := by
  have HB := Lib.hid (bal (Below.refl w.heap.size w) (.cells #[.int .u64 b, .int .u64 s] 37))
  have HK := Lib.hid (Blk.new w 37 #[.int .u64 b, .int .u64 s])
  have HG := Lib.hid (fun w => refGood_any b s hb hs w)
  obtain ⟨hb0, hb1⟩ := hb
  obtain ⟨hs0, hs1⟩ := hs
  go_enter Try.func78, Try.ntmps78
  rcases hg : goodB b s with _ | _
  all_goals
    go_wp2_with (go_at_call 103; refine (HG.out _).mono ?_; rw [hg]; rintro e w5 ⟨rfl, hb5⟩; have hc0 := (HK.out.kept hb5).cell 0; have hc1 := (HK.out.kept hb5).cell 1; simp only [List.getElem?_toArray, List.getElem?_cons_zero, List.getElem?_cons_succ] at hc0 hc1)
  · go_ret
    refine ⟨?_, HB.out.trans (hb5.mono HB.out.size)⟩
    simp [lastZ, hg]
  · simp [goodB] at hg
    obtain ⟨h1, h2⟩ := hg
    go_wp2
    go_ret
    refine ⟨?_, HB.out.trans (hb5.mono HB.out.size)⟩
    have e1 : IntKind.u64.wrap (s - 1) = s - 1 := by show (s - 1) % 18446744073709551616 = _; omega
    have e2 : IntKind.u64.wrap (b + (s - 1)) = b + (s - 1) := by show (b + (s - 1)) % 18446744073709551616 = _; omega
    simp [lastZ, goodB, h1, h2, e1, e2]
def hasB (b s x : Int) : Bool := goodB b s && decide (b ≤ x) && decide (x ≤ lastZ b s)
def withinB (b s c t : Int) : Bool := goodB b s && hasB c t b && hasB c t (lastZ b s)
set_option maxHeartbeats 1000000 in
theorem has_any (b s x : Int) (hb : U64 b) (hs : U64 s) (w : World) : Calls Try.prog 115 #[.agg #[.int .u64 b, .int .u64 s], .int .u64 x] w fun e w' => e = .returned (.bool (hasB b s x)) ∧ Below w.heap.size w w' := by
  have HB := Lib.hid (bal (Below.refl w.heap.size w) (.cells #[.int .u64 b, .int .u64 s] 37))
  have HK := Lib.hid (Blk.new w 37 #[.int .u64 b, .int .u64 s])
  have HG := Lib.hid (fun w => good_any b s hb hs w)
  have HL := Lib.hid (fun w => last_any b s hb hs w)
  go_enter Try.func115, Try.ntmps115
  rcases hg : goodB b s with _ | _
  · go_wp2_with (go_at_call 114; refine (HG.out _).mono ?_; rw [hg]; rintro e w5 ⟨rfl, hb5⟩)
    go_ret
    refine ⟨?_, HB.out.trans (hb5.mono HB.out.size)⟩
    simp [hasB, hg]
  by_cases h1 : b ≤ x
  · go_wp2_with (first | (go_at_call 114; refine (HG.out _).mono ?_; rw [hg]; rintro e w5 ⟨rfl, hb5⟩; have hc0 := (HK.out.kept hb5).cell 0; have hc1 := (HK.out.kept hb5).cell 1; simp only [List.getElem?_toArray, List.getElem?_cons_zero, List.getElem?_cons_succ] at hc0 hc1) | (go_at_call 100; refine (HL.out _).mono ?_; rintro e w6 ⟨rfl, hb6⟩))
    go_ret
    refine ⟨?_, (HB.out.trans (hb5.mono HB.out.size)).trans (hb6.mono (Nat.le_trans HB.out.size hb5.size))⟩
    simp [hasB, hg, h1]
  · go_wp2_with (go_at_call 114; refine (HG.out _).mono ?_; rw [hg]; rintro e w5 ⟨rfl, hb5⟩; have hc0 := (HK.out.kept hb5).cell 0; have hc1 := (HK.out.kept hb5).cell 1; simp only [List.getElem?_toArray, List.getElem?_cons_zero, List.getElem?_cons_succ] at hc0 hc1)
    go_ret
    refine ⟨?_, HB.out.trans (hb5.mono HB.out.size)⟩
    simp [hasB, hg, h1]
    intro h2
    omega
end Go.Proofs.Ytnkpaockginooaa
