/- A board is read again from its tree and from its bytes: the law HostBack returns true whatever the board. -/
import Derived.Test.YtnkpaockginooaaOfL
namespace Go.Proofs.Ytnkpaockginooaa
set_option linter.unusedVariables false
open Go.RowKit Go.Sort Go.ChangeShapes Go.WideShapes
theorem bd_flat {cs : List Value} (h : FlatOk [.int .u64, .int .u64, .int .u64, .int .u64, .int .i64, .int .i64, .int .i64] cs) : ∃ x, cs = encBd x ∧ BdOk x := by
  match cs, h with
  | [.int k1 a, .int k2 b, .int k3 c, .int k4 d, .int k5 e, .int k6 f, .int k7 g], h =>
    obtain ⟨rfl, h1, rfl, h2, rfl, h3, rfl, h4, rfl, h5, rfl, h6, rfl, h7, _⟩ := h
    exact ⟨⟨a, b, c, d, e, f, g⟩, rfl, wf_u64 h1, wf_u64 h2, wf_u64 h3, wf_u64 h4, wf_i64 h5, wf_i64 h6, wf_i64 h7⟩
set_option maxRecDepth 100000 in
theorem hostBack_law : LawWalk Try.prog 11 Try.f11 := by
  intro H enc W base args ds p hval hA hlt hfz hsz
  rw [Try.params11] at hA hval
  obtain ⟨v0, d0, rfl, rfl, h0⟩ := trodAll_one hA
  obtain ⟨cs, rfl, ho⟩ := open_flat flat_board (by kernel_rfl) (hval 0 39 v0 rfl rfl) h0
  obtain ⟨x, rfl, hx⟩ := bd_flat ho
  exact hostBack_any x hx W
theorem hostBack_proved : Rows.HostBackSaid :=
  OpenClaim.holds_of_wide 11 Try.f11 rfl rfl rfl rfl rfl rfl rfl ⟨rfl, rfl, rfl, rfl, rfl⟩ rfl rfl rfl rfl rfl (by kernel_rfl) Try.func11 (by kernel_rfl)
    (of_decide_eq_true (by kernel_rfl)) (by unfold Func.isWrapper; rw [if_neg (of_decide_eq_false (by kernel_rfl))]; exact ⟨rfl, rfl⟩)
    (fun os started H enc _ => law_lifted (C := Try.checked) (s := Rows.hostBackSpec) started own laidOut (by kernel_rfl) Try.func11 rfl (n := 1) (by kernel_rfl) (fun ds h => by match ds, h with | [_], _ => rfl) (tb := 4) (by kernel_rfl) Try.underlying4 (by kernel_rfl)
      (ChangeSpec.witness6 (enc := enc) (C := Try.checked) false ⟨#[], #[.agg #[.int .u64 0, .int .u64 0, .int .u64 0, .int .u64 0, .int .i64 0, .int .i64 0, .int .i64 0]], []⟩ 8 (by kernel_rfl) (by kernel_rfl) (by kernel_rfl) (by kernel_rfl)) hostBack_law)
end Go.Proofs.Ytnkpaockginooaa
