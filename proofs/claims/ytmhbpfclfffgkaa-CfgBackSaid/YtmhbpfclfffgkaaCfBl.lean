/- What is put is parsed as it was: the law CfgBack returns true whatever the configuration. -/
import Derived.Test.YtmhbpfclfffgkaaCfBw
namespace Go.Proofs.Ytmhbpfclfffgkaa
set_option linter.unusedVariables false
open Go.RowKit Go.Sort Go.ChangeShapes Go.WideShapes
set_option maxRecDepth 100000 in
theorem cfgBack_law : LawWalk Try.prog 8 Try.f8 := by
  intro H enc W base args ds p hval hA hlt hfz hsz
  rw [Try.params8] at hA hval
  obtain ⟨v0, d0, rfl, rfl, h0⟩ := trodAll_one hA
  obtain ⟨x, A, c, A2, c2, rfl, hR⟩ := open_conf (hval 0 28 v0 rfl rfl) h0 (fun y hy => hlt y (by simp [hy]))
  exact cfgBack_any x A A2 c c2 W hR
theorem cfgBack_proved : Rows.CfgBackSaid :=
  OpenClaim.holds_of_wide 8 Try.f8 rfl rfl rfl rfl rfl rfl rfl ⟨rfl, rfl, rfl, rfl, rfl⟩ rfl rfl rfl rfl rfl (by kernel_rfl) Try.func8 (by kernel_rfl)
    (of_decide_eq_true (by kernel_rfl)) (by unfold Func.isWrapper; rw [if_neg (of_decide_eq_false (by kernel_rfl))]; exact ⟨rfl, rfl⟩)
    (fun os started H enc _ => law_lifted (C := Try.checked) (s := Rows.cfgBackSpec) started own laidOut (by kernel_rfl) Try.func8 rfl (n := 1) (by kernel_rfl) (fun ds h => by match ds, h with | [_], _ => rfl) (tb := 4) (by kernel_rfl) Try.underlying4 (by kernel_rfl)
      (ChangeSpec.witness6 (enc := enc) (C := Try.checked) false ⟨#[], #[.agg #[.int .u32 0, .slice none 0 0, .slice none 0 0]], []⟩ 8 (by kernel_rfl) (by kernel_rfl) (by kernel_rfl) (by kernel_rfl)) cfgBack_law)
end Go.Proofs.Ytmhbpfclfffgkaa
