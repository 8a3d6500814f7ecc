/- Chapter 35: the law TrapSame: it returns true whatever the input, and leaves what was there. -/
import Derived.Test.YtdkhkpjepnmjnaaTrapC
namespace Go.Proofs.Ytdkhkpjepnmjnaa
set_option linter.unusedVariables false
open Go.RowKit Go.Sort Go.ChangeShapes Go.WideShapes

theorem flat_f {cs : List Value} (h : FlatOk [.int .i64, .int .i64, .int .i64, .int .u64, .int .i64, .int .u64, .int .i64, .int .i64, .int .i64] cs) :
    ∃ f : Flt, cs = f.lst ∧ 0 ≤ f.ipa ∧ (Lit.int .i64 f.sz).wf = true ∧ (Lit.int .i64 f.er).wf = true := by
  match cs, h with
  | [.int _ a, .int _ b, .int _ c, .int _ d, .int _ e, .int _ f, .int _ g, .int _ h, .int _ i], ⟨rfl, _, rfl, _, rfl, _, rfl, wd, rfl, we, rfl, _, rfl, wg, rfl, _, rfl, _, _⟩ => exact ⟨⟨a, b, c, d, e, f, g, h, i⟩, rfl, wf_nonneg wd, we, wg⟩
set_option maxRecDepth 100000 in
theorem trapSame_law : LawWalk Try.prog 13 Try.f13 := by
  intro H enc W base args ds p hval hA hlt hfz hsz
  rw [Try.params13] at hA hval
  obtain ⟨v0, v1, d0, d1, p0, p1, rfl, rfl, rfl, h0, h1⟩ := trodAll_two hA
  obtain ⟨cs, rfl, hc⟩ := open_flat flat_fault (by kernel_rfl) (hval 0 75 v0 rfl rfl) h0
  obtain ⟨f, rfl, _⟩ := flat_f hc
  obtain ⟨cs, rfl, hc⟩ := open_flat flat_fault (by kernel_rfl) (hval 1 75 v1 rfl rfl) h1
  obtain ⟨g, rfl, _⟩ := flat_f hc
  exact trapSame_any f g W
theorem trapSame_proved : Rows.TrapSameSaid :=
  OpenClaim.holds_of_wide 13 Try.f13 rfl rfl rfl rfl rfl rfl rfl ⟨rfl, rfl, rfl, rfl, rfl⟩ rfl rfl rfl rfl rfl (by kernel_rfl) Try.func13 (by kernel_rfl)
    (of_decide_eq_true (by kernel_rfl)) (by unfold Func.isWrapper; rw [if_neg (of_decide_eq_false (by kernel_rfl))]; exact ⟨rfl, rfl⟩)
    (fun os started H enc _ => law_lifted (C := Try.checked) (s := Rows.trapSameSpec) started own laidOut (by kernel_rfl) Try.func13 rfl (n := 2) (by kernel_rfl) (fun ds h => by match ds, h with | [_, _], _ => rfl) (tb := 4) (by kernel_rfl) Try.underlying4 (by kernel_rfl)
      (ChangeSpec.witness6 (enc := enc) (C := Try.checked) false ⟨#[], #[.agg #[.int .i64 0, .int .i64 0, .int .i64 0, .int .u64 0, .int .i64 0, .int .u64 0, .int .i64 0, .int .i64 0, .int .i64 0], .agg #[.int .i64 0, .int .i64 0, .int .i64 0, .int .u64 0, .int .i64 0, .int .u64 0, .int .i64 0, .int .i64 0, .int .i64 0]], []⟩ 8 (by kernel_rfl) (by kernel_rfl) (by kernel_rfl) (by kernel_rfl)) trapSame_law)
end Go.Proofs.Ytdkhkpjepnmjnaa
