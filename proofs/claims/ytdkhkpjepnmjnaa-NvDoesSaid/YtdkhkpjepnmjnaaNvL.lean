/- Chapter 10, the law NvDoes: it returns true whatever the input, and leaves what was there. -/
import Derived.Test.YtdkhkpjepnmjnaaNvK
namespace Go.Proofs.Ytdkhkpjepnmjnaa
set_option linter.unusedVariables false
open Go.RowKit Go.Sort Go.ChangeShapes Go.WideShapes

theorem flat_cut : flatOf Try.prog 5 55 = some [.int .i64, .int .u32] := by kernel_rfl
theorem flat_deed : flatOf Try.prog 5 83 = some [.int .i64, .int .i64, .int .u32] := by kernel_rfl
theorem flat_c {cs : List Value} (h : FlatOk [.int .i64, .int .u32] cs) : ∃ p : Int × Int, cs = encC p := by
  match cs, h with
  | [.int _ a, .int _ b], ⟨rfl, wa, rfl, wb, _⟩ => exact ⟨(a, b), rfl⟩
theorem flat_d {cs : List Value} (h : FlatOk [.int .i64, .int .i64, .int .u32] cs) : ∃ p : Int × Int × Int, cs = encD p := by
  match cs, h with
  | [.int _ a, .int _ b, .int _ c], ⟨rfl, wa, rfl, wb, rfl, wc, _⟩ => exact ⟨(a, b, c), rfl⟩

theorem maxLen_le {n : Nat} (h : n ≤ maxLen) : n ≤ 9223372036854775807 := by unfold maxLen at h; exact h
set_option maxRecDepth 100000 in
theorem nvDoes_law : LawWalk Try.prog 14 Try.f14 := by
  intro H enc W base args ds p hval hA hlt hfz hsz
  rw [Try.params14] at hA hval
  obtain ⟨v0, v1, v2, d0, d1, d2, p0, p1, p2, rfl, rfl, rfl, h0, h1, h2⟩ := trodAll_three hA
  obtain ⟨A, n, c, l, rfl, hnc, hm, hl, _, hr⟩ := open_u32s (hval 0 51 v0 rfl rfl) h0 (fun x hx => hlt x (by simp [hx]))
  obtain ⟨A1, n1, c1, xss, rfl, hnc1, hcm1, hx1, hok1, hr1⟩ := open_rows Try.underlying77 flat_cut (by kernel_rfl) (by decide) (hval 1 77 v1 rfl rfl) h1 (fun x hx => hlt x (by simp [hx]))
  obtain ⟨l1, hl1, hf1, _⟩ := list_of_rows (enc := encC) (ok := fun _ => True) xss (fun xs hxs => by obtain ⟨p, rfl⟩ := flat_c (hok1 xs hxs); exact ⟨p, rfl, trivial⟩)
  rw [hf1] at hr1
  obtain ⟨A2, n2, c2, yss, rfl, hnc2, hcm2, hx2, hok2, hr2⟩ := open_rows Try.underlying78 flat_deed (by kernel_rfl) (by decide) (hval 2 78 v2 rfl rfl) h2 (fun x hx => hlt x (by simp [hx]))
  obtain ⟨l2, hl2, hf2, _⟩ := list_of_rows (enc := encD) (ok := fun _ => True) yss (fun xs hxs => by obtain ⟨p, rfl⟩ := flat_d (hok2 xs hxs); exact ⟨p, rfl, trivial⟩)
  rw [hf2] at hr2
  exact nvDoes_any A A1 A2 n c n1 c1 n2 c2 l l1 l2 hl (hl1.trans hx1) (hl2.trans hx2) (maxLen_le hm) (maxLen_le (Nat.le_trans hnc1 hcm1)) (maxLen_le (Nat.le_trans hnc2 hcm2)) hnc1 W hr hr1 hr2
theorem nvDoes_proved : Rows.NvDoesSaid :=
  OpenClaim.holds_of_wide 14 Try.f14 rfl rfl rfl rfl rfl rfl rfl ⟨rfl, rfl, rfl, rfl, rfl⟩ rfl rfl rfl rfl rfl (by kernel_rfl) Try.func14 (by kernel_rfl)
    (of_decide_eq_true (by kernel_rfl)) (by unfold Func.isWrapper; rw [if_neg (of_decide_eq_false (by kernel_rfl))]; exact ⟨rfl, rfl⟩)
    (fun os started H enc _ => law_lifted (C := Try.checked) (s := Rows.nvDoesSpec) started own laidOut (by kernel_rfl) Try.func14 rfl (n := 3) (by kernel_rfl) (fun ds h => by match ds, h with | [_, _, _], _ => rfl) (tb := 4) (by kernel_rfl) Try.underlying4 (by kernel_rfl)
      (ChangeSpec.witness6 (enc := enc) (C := Try.checked) false ⟨#[], #[.slice none 0 0, .slice none 0 0, .slice none 0 0], []⟩ 8 (by kernel_rfl) (by kernel_rfl) (by kernel_rfl) (by kernel_rfl)) nvDoes_law)
end Go.Proofs.Ytdkhkpjepnmjnaa
