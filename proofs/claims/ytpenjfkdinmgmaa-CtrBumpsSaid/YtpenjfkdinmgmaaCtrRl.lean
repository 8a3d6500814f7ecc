/- Chapter 13: whatever counters are to rise: the law CtrBumps. -/
import Derived.Test.YtpenjfkdinmgmaaCtrR
namespace Go.Proofs.Ytpenjfkdinmgmaa
set_option linter.unusedVariables false
open Go.RowKit Go.Sort Go.ChangeShapes Go.WideShapes
theorem maxLen_le {n : Nat} (h : n ≤ maxLen) : n ≤ 9223372036854775807 := by unfold maxLen at h; exact h
set_option maxRecDepth 100000 in
theorem ctrBumps_law : LawWalk Try.prog 6 Try.f6 := by
  intro H enc W base args ds p hval hA hlt hfz hsz
  rw [Try.params6] at hA hval
  obtain ⟨v0, v1, v2, d0, d1, d2, p0, p1, p2, rfl, rfl, rfl, h0, h1, h2⟩ := trodAll_three hA
  obtain ⟨A, n, c, l, rfl, hnc, hm, hl, hu, hr⟩ := open_u32s (hval 0 22 v0 rfl rfl) h0 (fun x hx => hlt x (by simp [hx]))
  obtain ⟨A1, n1, c1, l1, rfl, hnc1, hm1, hl1, hr1⟩ := open_cuts (hval 1 39 v1 rfl rfl) h1 (fun x hx => hlt x (by simp [hx]))
  obtain ⟨A2, n2, c2, l2, rfl, hnc2, hm2, hl2, hv2, hr2⟩ := open_rises (hval 2 51 v2 rfl rfl) h2 (fun x hx => hlt x (by simp [hx]))
  exact bumps_any A A1 A2 n c n1 c1 n2 c2 l l1 l2 hl hu hl1 hl2 hv2 (maxLen_le hm) (maxLen_le hm1) (maxLen_le hm2) hnc1 W hr hr1 hr2
theorem ctrBumps_proved : Rows.CtrBumpsSaid :=
  OpenClaim.holds_of_wide 6 Try.f6 rfl rfl rfl rfl rfl rfl rfl ⟨rfl, rfl, rfl, rfl, rfl⟩ rfl rfl rfl rfl rfl (by kernel_rfl) Try.func6 (by kernel_rfl)
    (of_decide_eq_true (by kernel_rfl)) (by unfold Func.isWrapper; rw [if_neg (of_decide_eq_false (by kernel_rfl))]; exact ⟨rfl, rfl⟩)
    (fun os started H enc _ => law_lifted (C := Try.checked) (s := Rows.ctrBumpsSpec) started own laidOut (by kernel_rfl) Try.func6 rfl (n := 3) (by kernel_rfl) (fun ds h => by match ds, h with | [_, _, _], _ => rfl) (tb := 4) (by kernel_rfl) Try.underlying4 (by kernel_rfl)
      (ChangeSpec.witness6 (enc := enc) (C := Try.checked) false ⟨#[], #[.slice none 0 0, .slice none 0 0, .slice none 0 0], []⟩ 8 (by kernel_rfl) (by kernel_rfl) (by kernel_rfl) (by kernel_rfl)) ctrBumps_law)
end Go.Proofs.Ytpenjfkdinmgmaa
