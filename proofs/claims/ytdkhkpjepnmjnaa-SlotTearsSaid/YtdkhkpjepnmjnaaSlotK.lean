/- Chapter 12: the law SlotTears, its last step. -/
import Derived.Test.YtdkhkpjepnmjnaaSlotJ
import Derived.Test.YtdkhkpjepnmjnaaSlotG
namespace Go.Proofs.Ytdkhkpjepnmjnaa
set_option linter.unusedVariables false
open Go.RowKit Go.Sort Go.ChangeShapes Go.WideShapes

theorem flat_put : flatOf Try.prog 5 62 = some [.int .i64, .int .u32] := by kernel_rfl
theorem flat_il {cs : List Value} (h : FlatOk [.int .i64, .int .u32] cs) : ∃ p : Int × Int, cs = encP p := by
  match cs, h with
  | [.int _ a, .int _ b], ⟨rfl, wa, rfl, wb, _⟩ => exact ⟨(a, b), rfl⟩

set_option maxRecDepth 100000 in
theorem slotTears_law : LawWalk Try.prog 11 Try.f11 := by
  intro H enc W base args ds p hval hA hlt hfz hsz
  rw [Try.params11] at hA hval
  obtain ⟨v0, v1, v2, v3, d0, d1, d2, d3, p0, p1, p2, p3, rfl, rfl, rfl, h0, h1, h2, h3⟩ := trodAll_four hA
  obtain ⟨cs, rfl, hc⟩ := open_flat flat_w4 (by kernel_rfl) (hval 0 40 v0 rfl rfl) h0
  obtain ⟨a, b, c, d, rfl, _⟩ := flat4 hc
  obtain ⟨A, n, cp, xss, rfl, hnc, hcm, hx, hok, hr⟩ := open_rows Try.underlying59 flat_put (by kernel_rfl) (by decide) (hval 1 59 v1 rfl rfl) h1 (fun x hx => hlt x (by simp [hx]))
  obtain ⟨k, rfl, rfl, rfl, wk⟩ := open_int Try.underlying3 (hval 2 3 v2 rfl rfl) h2
  obtain ⟨m, rfl, rfl, rfl, wm⟩ := open_int Try.underlying37 (hval 3 37 v3 rfl rfl) h3
  obtain ⟨l, hl, hf, _⟩ := list_of_rows (enc := encP) (ok := fun _ => True) xss (fun xs hxs => by obtain ⟨p, rfl⟩ := flat_il (hok xs hxs); exact ⟨p, rfl, trivial⟩)
  rw [hf] at hr
  exact slotTears_any ⟨a, b, c, d⟩ A n cp l k m (by omega) (by unfold maxLen at hcm; omega) hnc W hr
theorem slotTears_proved : Rows.SlotTearsSaid :=
  OpenClaim.holds_of_wide 11 Try.f11 rfl rfl rfl rfl rfl rfl rfl ⟨rfl, rfl, rfl, rfl, rfl⟩ rfl rfl rfl rfl rfl (by kernel_rfl) Try.func11 (by kernel_rfl)
    (of_decide_eq_true (by kernel_rfl)) (by unfold Func.isWrapper; rw [if_neg (of_decide_eq_false (by kernel_rfl))]; exact ⟨rfl, rfl⟩)
    (fun os started H enc _ => law_lifted (C := Try.checked) (s := Rows.slotTearsSpec) started own laidOut (by kernel_rfl) Try.func11 rfl (n := 4) (by kernel_rfl) (fun ds h => by match ds, h with | [_, _, _, _], _ => rfl) (tb := 4) (by kernel_rfl) Try.underlying4 (by kernel_rfl)
      (ChangeSpec.witness6 (enc := enc) (C := Try.checked) false ⟨#[], #[.agg #[.int .u32 0, .int .u32 0, .int .u32 0, .int .u32 0], .slice none 0 0, .int .i64 0, .int .u32 0], []⟩ 8 (by kernel_rfl) (by kernel_rfl) (by kernel_rfl) (by kernel_rfl)) slotTears_law)
end Go.Proofs.Ytdkhkpjepnmjnaa
