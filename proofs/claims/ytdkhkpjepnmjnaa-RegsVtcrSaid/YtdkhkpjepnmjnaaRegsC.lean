/- Chapter 21: the laws RegsVtcr, RegsApart, RegsVttbr: each returns true whatever the input, and leaves what was there. -/
import Derived.Test.YtdkhkpjepnmjnaaRegsB
namespace Go.Proofs.Ytdkhkpjepnmjnaa
set_option linter.unusedVariables false
open Go.RowKit Go.ChangeShapes Go.WideShapes

theorem f24 : fieldN 2147628376 5 0 = 24 := by decide +kernel
theorem f1 : fieldN 2147628376 7 6 = 1 := by decide +kernel
theorem f0 : fieldN 2147628376 15 14 = 0 := by decide +kernel
theorem f2 : fieldN 2147628376 18 16 = 2 := by decide +kernel
theorem fhi : fieldN 2147628376 63 32 = 0 := by decide +kernel

set_option maxHeartbeats 400000 in
theorem regsVtcr_any (hi : Int) (w : World) :
    Calls Try.prog 4 #[.int .i64 hi] w fun e w' => e = .returned (.bool true) ∧ Below w.heap.size w w' := by
  have g1 := f24
  have g2 := f1
  have g3 := f0
  have g4 := f2
  have g5 := fhi
  go_enter Try.func4, Try.ntmps4
  go_wp2_with (first
    | (go_at_call 15; refine (awake21_any _).mono ?_; rintro e w1 ⟨rfl, hb1⟩)
    | (go_at_call 17; refine (vtcr_any _).mono ?_; rintro e w2 ⟨rfl, hb2⟩)
    | (go_at_call 18; refine (refField_any 2147628376 _ _ (by decide) (by decide) _).mono ?_; rintro e w3 ⟨rfl, rfl⟩))
  all_goals go_ret
  all_goals exact ⟨rfl, hb1.trans (hb2.mono hb1.size)⟩

set_option maxRecDepth 100000 in
theorem regsVtcr_law : LawWalk Try.prog 4 Try.f4 := by
  intro H enc W base args ds p hval hA hlt hfz hsz
  rw [Try.params4] at hA hval
  obtain ⟨v0, d0, rfl, rfl, h0⟩ := trodAll_one hA
  obtain ⟨x, rfl, rfl, rfl, wx⟩ := open_int Try.underlying3 (hval 0 3 v0 rfl rfl) h0
  exact regsVtcr_any x W
theorem regsVtcr_proved : Rows.RegsVtcrSaid :=
  OpenClaim.holds_of_wide 4 Try.f4 rfl rfl rfl rfl rfl rfl rfl ⟨rfl, rfl, rfl, rfl, rfl⟩ rfl rfl rfl rfl rfl (by kernel_rfl) Try.func4 (by kernel_rfl)
    (of_decide_eq_true (by kernel_rfl)) (by unfold Func.isWrapper; rw [if_neg (of_decide_eq_false (by kernel_rfl))]; exact ⟨rfl, rfl⟩)
    (fun os started H enc _ => law_lifted (C := Try.checked) (s := Rows.regsVtcrSpec) started own laidOut (by kernel_rfl) Try.func4 rfl (n := 1) (by kernel_rfl) (fun ds h => by match ds, h with | [_], _ => rfl) (tb := 4) (by kernel_rfl) Try.underlying4 (by kernel_rfl)
      (ChangeSpec.witness6 (enc := enc) (C := Try.checked) false ⟨#[], #[.int .i64 0], []⟩ 8 (by kernel_rfl) (by kernel_rfl) (by kernel_rfl) (by kernel_rfl)) regsVtcr_law)
end Go.Proofs.Ytdkhkpjepnmjnaa
