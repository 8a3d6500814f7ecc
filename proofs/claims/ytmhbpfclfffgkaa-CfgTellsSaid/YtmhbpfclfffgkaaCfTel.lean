/- Which texts are names, which configurations are alike: the law CfgTells returns true whatever the text and the configurations. -/
import Derived.Test.YtmhbpfclfffgkaaCfTe
namespace Go.Proofs.Ytmhbpfclfffgkaa
set_option linter.unusedVariables false
open Go.RowKit Go.Sort Go.ChangeShapes Go.WideShapes
set_option maxRecDepth 100000 in
theorem cfgTells_law : LawWalk Try.prog 5 Try.f5 := by
  intro H enc W base args ds p hval hA hlt hfz hsz
  rw [Try.params5] at hA hval
  obtain ⟨v0, v1, v2, d0, d1, d2, p0, p1, p2, rfl, rfl, rfl, h0, h1, h2⟩ := trodAll_three hA
  obtain ⟨s, rfl⟩ := okWide_string Try.underlying9 (hval 0 9 v0 rfl rfl)
  obtain ⟨x, A, c, A2, c2, rfl, hR⟩ := open_conf (hval 1 28 v1 rfl rfl) h1 (fun y hy => hlt y (by simp [hy]))
  obtain ⟨y, B, e, B2, e2, rfl, hS⟩ := open_conf (hval 2 28 v2 rfl rfl) h2 (fun y hy => hlt y (by simp [hy]))
  exact cfgTells_any s x y A A2 B B2 c c2 e e2 W hR hS
theorem cfgTells_proved : Rows.CfgTellsSaid :=
  OpenClaim.holds_of_wide 5 Try.f5 rfl rfl rfl rfl rfl rfl rfl ⟨rfl, rfl, rfl, rfl, rfl⟩ rfl rfl rfl rfl rfl (by kernel_rfl) Try.func5 (by kernel_rfl)
    (of_decide_eq_true (by kernel_rfl)) (by unfold Func.isWrapper; rw [if_neg (of_decide_eq_false (by kernel_rfl))]; exact ⟨rfl, rfl⟩)
    (fun os started H enc _ => law_lifted (C := Try.checked) (s := Rows.cfgTellsSpec) started own laidOut (by kernel_rfl) Try.func5 rfl (n := 3) (by kernel_rfl) (fun ds h => by match ds, h with | [_, _, _], _ => rfl) (tb := 4) (by kernel_rfl) Try.underlying4 (by kernel_rfl)
      (ChangeSpec.witness6 (enc := enc) (C := Try.checked) false ⟨#[], #[.string ⟨#[]⟩, .agg #[.int .u32 0, .slice none 0 0, .slice none 0 0], .agg #[.int .u32 0, .slice none 0 0, .slice none 0 0]], []⟩ 8 (by kernel_rfl) (by kernel_rfl) (by kernel_rfl) (by kernel_rfl)) cfgTells_law)
end Go.Proofs.Ytmhbpfclfffgkaa
