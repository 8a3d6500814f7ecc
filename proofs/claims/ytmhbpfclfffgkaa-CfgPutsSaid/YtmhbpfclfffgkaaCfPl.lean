/- Any configuration as bytes, or refused: the law CfgPuts returns true whatever the configuration. -/
import Derived.Test.YtmhbpfclfffgkaaCfPw
namespace Go.Proofs.Ytmhbpfclfffgkaa
set_option linter.unusedVariables false
open Go.RowKit Go.Sort Go.ChangeShapes Go.WideShapes
set_option maxRecDepth 100000 in
theorem cfgPuts_law : LawWalk Try.prog 6 Try.f6 := by
  intro H enc W base args ds p hval hA hlt hfz hsz
  rw [Try.params6] at hA hval
  obtain ⟨v0, d0, rfl, rfl, h0⟩ := trodAll_one hA
  obtain ⟨x, A, c, A2, c2, rfl, hR⟩ := open_conf (hval 0 28 v0 rfl rfl) h0 (fun y hy => hlt y (by simp [hy]))
  exact cfgPuts_any x A A2 c c2 W hR
theorem cfgPuts_proved : Rows.CfgPutsSaid :=
  OpenClaim.holds_of_wide 6 Try.f6 rfl rfl rfl rfl rfl rfl rfl ⟨rfl, rfl, rfl, rfl, rfl⟩ rfl rfl rfl rfl rfl (by kernel_rfl) Try.func6 (by kernel_rfl)
    (of_decide_eq_true (by kernel_rfl)) (by unfold Func.isWrapper; rw [if_neg (of_decide_eq_false (by kernel_rfl))]; exact ⟨rfl, rfl⟩)
    (fun os started H enc _ => law_lifted (C := Try.checked) (s := Rows.cfgPutsSpec) started own laidOut (by kernel_rfl) Try.func6 rfl (n := 1) (by kernel_rfl) (fun ds h => by match ds, h with | [_], _ => rfl) (tb := 4) (by kernel_rfl) Try.underlying4 (by kernel_rfl)
      (ChangeSpec.witness6 (enc := enc) (C := Try.checked) false ⟨#[], #[.agg #[.int .u32 0, .slice none 0 0, .slice none 0 0]], []⟩ 8 (by kernel_rfl) (by kernel_rfl) (by kernel_rfl) (by kernel_rfl)) cfgPuts_law)
end Go.Proofs.Ytmhbpfclfffgkaa
