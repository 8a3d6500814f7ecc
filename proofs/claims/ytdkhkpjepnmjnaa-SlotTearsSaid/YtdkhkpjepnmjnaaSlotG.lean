/- Chapter 12: the law SlotTells: it returns true whatever the input, and leaves what was there. -/
import Derived.Test.YtdkhkpjepnmjnaaSlotF
import Derived.Test.YtdkhkpjepnmjnaaOpen
namespace Go.Proofs.Ytdkhkpjepnmjnaa
set_option linter.unusedVariables false
open Go.RowKit Go.ChangeShapes Go.WideShapes

theorem flat_rec : flatOf Try.prog 5 39 = some [.int .u32, .int .u32] := by kernel_rfl
theorem flat_w4 : flatOf Try.prog 5 40 = some [.int .u32, .int .u32, .int .u32, .int .u32] := by kernel_rfl
theorem flat2 {cs : List Value} (h : FlatOk [.int .u32, .int .u32] cs) : ∃ a b : Int, cs = [.int .u32 a, .int .u32 b] ∧ 0 ≤ a ∧ a < 4294967296 ∧ 0 ≤ b ∧ b < 4294967296 := by
  match cs, h with
  | [.int _ a, .int _ b], ⟨rfl, wa, rfl, wb, _⟩ => exact ⟨a, b, rfl, (wf_u32 wa).1, (wf_u32 wa).2, (wf_u32 wb).1, (wf_u32 wb).2⟩
theorem flat4 {cs : List Value} (h : FlatOk [.int .u32, .int .u32, .int .u32, .int .u32] cs) :
    ∃ a b c d : Int, cs = [.int .u32 a, .int .u32 b, .int .u32 c, .int .u32 d] ∧ (0 ≤ a ∧ a < 4294967296) ∧ (0 ≤ b ∧ b < 4294967296) ∧ (0 ≤ c ∧ c < 4294967296) ∧ 0 ≤ d ∧ d < 4294967296 := by
  match cs, h with
  | [.int _ a, .int _ b, .int _ c, .int _ d], ⟨rfl, wa, rfl, wb, rfl, wc, rfl, wd, _⟩ => exact ⟨a, b, c, d, rfl, wf_u32 wa, wf_u32 wb, wf_u32 wc, wf_u32 wd⟩

set_option maxRecDepth 100000 in
theorem slotTells_law : LawWalk Try.prog 6 Try.f6 := by
  intro H enc W base args ds p hval hA hlt hfz hsz
  rw [Try.params6] at hA hval
  obtain ⟨v0, v1, v2, d0, d1, d2, p0, p1, p2, rfl, rfl, rfl, h0, h1, h2⟩ := trodAll_three hA
  obtain ⟨id, rfl, rfl, rfl, wi⟩ := open_int Try.underlying3 (hval 0 3 v0 rfl rfl) h0
  obtain ⟨cs, rfl, hc⟩ := open_flat flat_rec (by kernel_rfl) (hval 1 39 v1 rfl rfl) h1
  obtain ⟨q, v, rfl, q0, q1, v0, v1⟩ := flat2 hc
  obtain ⟨cs, rfl, hc⟩ := open_flat flat_w4 (by kernel_rfl) (hval 2 40 v2 rfl rfl) h2
  obtain ⟨a, b, c, d, rfl, ⟨_, _⟩, ⟨b0, b1⟩, ⟨c0, c1⟩, _, _⟩ := flat4 hc
  exact slotTells_any id q v a b c d q0 q1 v0 v1 b0 b1 c0 c1 W
theorem slotTells_proved : Rows.SlotTellsSaid :=
  OpenClaim.holds_of_wide 6 Try.f6 rfl rfl rfl rfl rfl rfl rfl ⟨rfl, rfl, rfl, rfl, rfl⟩ rfl rfl rfl rfl rfl (by kernel_rfl) Try.func6 (by kernel_rfl)
    (of_decide_eq_true (by kernel_rfl)) (by unfold Func.isWrapper; rw [if_neg (of_decide_eq_false (by kernel_rfl))]; exact ⟨rfl, rfl⟩)
    (fun os started H enc _ => law_lifted (C := Try.checked) (s := Rows.slotTellsSpec) started own laidOut (by kernel_rfl) Try.func6 rfl (n := 3) (by kernel_rfl) (fun ds h => by match ds, h with | [_, _, _], _ => rfl) (tb := 4) (by kernel_rfl) Try.underlying4 (by kernel_rfl)
      (ChangeSpec.witness6 (enc := enc) (C := Try.checked) false ⟨#[], #[.int .i64 0, .agg #[.int .u32 0, .int .u32 0], .agg #[.int .u32 0, .int .u32 0, .int .u32 0, .int .u32 0]], []⟩ 8 (by kernel_rfl) (by kernel_rfl) (by kernel_rfl) (by kernel_rfl)) slotTells_law)
end Go.Proofs.Ytdkhkpjepnmjnaa
