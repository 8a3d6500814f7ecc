/- Chapter 13: wherever power is lost, a counter is what it was or what it was to be: the law CtrNever, its frame. -/
import Derived.Test.YtpenjfkdinmgmaaCtrU
namespace Go.Proofs.Ytpenjfkdinmgmaa
set_option linter.unusedVariables false
open Go.RowKit Go.Sort Go.ChangeShapes Go.WideShapes
theorem flat_c2 {cs : List Value} (h : FlatOk [.int .i64, .int .u32] cs) : ∃ a b : Int, cs = [.int .i64 a, .int .u32 b] := by
  match cs, h with
  | [.int _ a, .int _ b], ⟨rfl, wa, rfl, wb, _⟩ => exact ⟨a, b, rfl⟩
set_option maxRecDepth 100000 in
theorem ctrNever_law : LawWalk Try.prog 7 Try.f7 := by
  intro H enc W base args ds p hval hA hlt hfz hsz
  rw [Try.params7] at hA hval
  obtain ⟨v0, v1, v2, v3, d0, d1, d2, d3, p0, p1, p2, p3, rfl, rfl, rfl, h0, h1, h2, h3⟩ := trodAll_four hA
  obtain ⟨A, n, c, l, rfl, hnc, hm, hl, hu, hr⟩ := open_u32s (hval 0 22 v0 rfl rfl) h0 (fun x hx => hlt x (by simp [hx]))
  obtain ⟨i, rfl, rfl, rfl, wi⟩ := open_int Try.underlying3 (hval 1 3 v1 rfl rfl) h1
  obtain ⟨k, rfl, rfl, rfl, wk⟩ := open_int Try.underlying23 (hval 2 23 v2 rfl rfl) h2
  obtain ⟨cs, rfl, hc⟩ := open_flat flat_cut (by kernel_rfl) (hval 3 58 v3 rfl rfl) h3
  obtain ⟨a, b, rfl⟩ := flat_c2 hc
  exact never_any A n c l i k a b hl hu (wf_u32 wk) W hr
theorem ctrNever_proved : Rows.CtrNeverSaid :=
  OpenClaim.holds_of_wide 7 Try.f7 rfl rfl rfl rfl rfl rfl rfl ⟨rfl, rfl, rfl, rfl, rfl⟩ rfl rfl rfl rfl rfl (by kernel_rfl) Try.func7 (by kernel_rfl)
    (of_decide_eq_true (by kernel_rfl)) (by unfold Func.isWrapper; rw [if_neg (of_decide_eq_false (by kernel_rfl))]; exact ⟨rfl, rfl⟩)
    (fun os started H enc _ => law_lifted (C := Try.checked) (s := Rows.ctrNeverSpec) started own laidOut (by kernel_rfl) Try.func7 rfl (n := 4) (by kernel_rfl) (fun ds h => by match ds, h with | [_, _, _, _], _ => rfl) (tb := 4) (by kernel_rfl) Try.underlying4 (by kernel_rfl)
      (ChangeSpec.witness6 (enc := enc) (C := Try.checked) false ⟨#[], #[.slice none 0 0, .int .i64 0, .int .u32 0, .agg #[.int .i64 0, .int .u32 0]], []⟩ 8 (by kernel_rfl) (by kernel_rfl) (by kernel_rfl) (by kernel_rfl)) ctrNever_law)
end Go.Proofs.Ytpenjfkdinmgmaa
