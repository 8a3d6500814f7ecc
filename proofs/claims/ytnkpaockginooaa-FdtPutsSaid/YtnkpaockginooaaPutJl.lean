/- Which trees may be, and any tree as bytes, or refused: the law FdtPuts returns true whatever the tree. -/
import Derived.Test.YtnkpaockginooaaPutJ
namespace Go.Proofs.Ytnkpaockginooaa
set_option linter.unusedVariables false
open Go.RowKit Go.Sort Go.ChangeShapes Go.WideShapes
set_option maxRecDepth 100000 in
theorem fdtPuts_law : LawWalk Try.prog 3 Try.f3 := by
  intro H enc W base args ds p hval hA hlt hfz hsz
  rw [Try.params3] at hA hval hsz
  obtain ⟨v0, d0, rfl, rfl, h0⟩ := trodAll_one hA
  obtain ⟨cs1, k1, t1, rfl, hs1, hl1⟩ := open_treeR (hval 0 25 v0 rfl rfl) h0 hlt (fun n hn => by
    have := List.all_eq_true.1 hsz n (DataW.weights_mem_each (j := 0) rfl rfl n hn)
    simpa using this)
  exact fdtPuts_any k1 t1 cs1 W hs1 hl1
theorem fdtPuts_proved : Rows.FdtPutsSaid :=
  OpenClaim.holds_of_wide 3 Try.f3 rfl rfl rfl rfl rfl rfl rfl ⟨rfl, rfl, rfl, rfl, rfl⟩ rfl rfl rfl rfl rfl (by kernel_rfl) Try.func3 (by kernel_rfl)
    (of_decide_eq_true (by kernel_rfl)) (by unfold Func.isWrapper; rw [if_neg (of_decide_eq_false (by kernel_rfl))]; exact ⟨rfl, rfl⟩)
    (fun os started H enc _ => law_lifted (C := Try.checked) (s := Rows.fdtPutsSpec) started own laidOut (by kernel_rfl) Try.func3 rfl (n := 1) (by kernel_rfl) (fun ds h => by match ds, h with | [_], _ => rfl) (tb := 4) (by kernel_rfl) Try.underlying4 (by kernel_rfl)
      (ChangeSpec.witness6 (enc := enc) (C := Try.checked) false ⟨#[], #[.agg #[.string ⟨#[]⟩, .slice none 0 0, .slice none 0 0]], []⟩ 8 (by kernel_rfl) (by kernel_rfl) (by kernel_rfl) (by kernel_rfl)) fdtPuts_law)
end Go.Proofs.Ytnkpaockginooaa
