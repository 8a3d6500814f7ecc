/- Bytes that are cut off, or have more behind them, are refused at the end of what there is: the law CfgCuts returns true whatever the input. -/
import Derived.Test.YtmhbpfclfffgkaaCfCw
namespace Go.Proofs.Ytmhbpfclfffgkaa
set_option linter.unusedVariables false
open Go.RowKit Go.Sort Go.ChangeShapes Go.WideShapes
set_option maxRecDepth 100000 in
theorem cfgCuts_law : LawWalk Try.prog 4 Try.f4 := by
  intro H enc W base args ds p hval hA hlt hfz hsz
  rw [Try.params4] at hA hval
  obtain ⟨v0, v1, v2, d0, d1, d2, p0, p1, p2, rfl, rfl, rfl, h0, h1, h2⟩ := trodAll_three hA
  obtain ⟨x, A, c, A2, c2, rfl, hR⟩ := open_conf (hval 0 28 v0 rfl rfl) h0 (fun y hy => hlt y (by simp [hy]))
  obtain ⟨i, rfl, rfl, rfl, wi⟩ := open_int Try.underlying3 (hval 1 3 v1 rfl rfl) h1
  obtain ⟨m, rfl, rfl, rfl, wm⟩ := open_int Try.underlying5 (hval 2 5 v2 rfl rfl) h2
  exact cfgCuts_any x A A2 c c2 i m W hR (wf_u8 wm).1 (wf_u8 wm).2
theorem cfgCuts_proved : Rows.CfgCutsSaid :=
  OpenClaim.holds_of_wide 4 Try.f4 rfl rfl rfl rfl rfl rfl rfl ⟨rfl, rfl, rfl, rfl, rfl⟩ rfl rfl rfl rfl rfl (by kernel_rfl) Try.func4 (by kernel_rfl)
    (of_decide_eq_true (by kernel_rfl)) (by unfold Func.isWrapper; rw [if_neg (of_decide_eq_false (by kernel_rfl))]; exact ⟨rfl, rfl⟩)
    (fun os started H enc _ => law_lifted (C := Try.checked) (s := Rows.cfgCutsSpec) started own laidOut (by kernel_rfl) Try.func4 rfl (n := 3) (by kernel_rfl) (fun ds h => by match ds, h with | [_, _, _], _ => rfl) (tb := 4) (by kernel_rfl) Try.underlying4 (by kernel_rfl)
      (ChangeSpec.witness6 (enc := enc) (C := Try.checked) false ⟨#[], #[.agg #[.int .u32 0, .slice none 0 0, .slice none 0 0], .int .i64 0, .int .u8 0], []⟩ 8 (by kernel_rfl) (by kernel_rfl) (by kernel_rfl) (by kernel_rfl)) cfgCuts_law)
end Go.Proofs.Ytmhbpfclfffgkaa
