/- Which board a tree is, or that it is none: the law HostBoards returns true whatever the tree. -/
import Derived.Test.YtnkpaockginooaaHostM
namespace Go.Proofs.Ytnkpaockginooaa
set_option linter.unusedVariables false
open Go.RowKit Go.Sort Go.ChangeShapes Go.WideShapes
set_option maxRecDepth 100000 in
theorem hostBoards_law : LawWalk Try.prog 5 Try.f5 := by
  intro H enc W base args ds p hval hA hlt hfz hsz
  rw [Try.params5] at hA hval
  obtain ⟨v0, d0, rfl, rfl, h0⟩ := trodAll_one hA
  obtain ⟨cs1, k1, t1, rfl, hs1⟩ := open_tree (hval 0 25 v0 rfl rfl) h0 hlt
  exact hostBoards_any k1 t1 cs1 W hs1
theorem hostBoards_proved : Rows.HostBoardsSaid :=
  OpenClaim.holds_of_wide 5 Try.f5 rfl rfl rfl rfl rfl rfl rfl ⟨rfl, rfl, rfl, rfl, rfl⟩ rfl rfl rfl rfl rfl (by kernel_rfl) Try.func5 (by kernel_rfl)
    (of_decide_eq_true (by kernel_rfl)) (by unfold Func.isWrapper; rw [if_neg (of_decide_eq_false (by kernel_rfl))]; exact ⟨rfl, rfl⟩)
    (fun os started H enc _ => law_lifted (C := Try.checked) (s := Rows.hostBoardsSpec) started own laidOut (by kernel_rfl) Try.func5 rfl (n := 1) (by kernel_rfl) (fun ds h => by match ds, h with | [_], _ => rfl) (tb := 4) (by kernel_rfl) Try.underlying4 (by kernel_rfl)
      (ChangeSpec.witness6 (enc := enc) (C := Try.checked) false ⟨#[], #[.agg #[.string ⟨#[]⟩, .slice none 0 0, .slice none 0 0]], []⟩ 8 (by kernel_rfl) (by kernel_rfl) (by kernel_rfl) (by kernel_rfl)) hostBoards_law)
end Go.Proofs.Ytnkpaockginooaa
