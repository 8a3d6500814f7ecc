/- Chapter 10, the laws NvTears and NvKeeps: they return true whatever the input, and leave what was there. -/
import Derived.Test.YtdkhkpjepnmjnaaNvH
import Derived.Test.YtdkhkpjepnmjnaaOpen
namespace Go.Proofs.Ytdkhkpjepnmjnaa
set_option linter.unusedVariables false
open Go.RowKit Go.Sort Go.ChangeShapes Go.WideShapes

theorem flat_u32 : flatOf Try.prog 5 37 = some [.int .u32] := by kernel_rfl
theorem flat1 {cs : List Value} (h : FlatOk [.int .u32] cs) : ∃ x : Int, cs = encU x ∧ 0 ≤ x ∧ x < 4294967296 := by
  match cs, h with
  | [.int _ a], ⟨rfl, wa, _⟩ => exact ⟨a, rfl, wf_u32 wa⟩
set_option maxRecDepth 100000 in
theorem open_u32s {H : Type} {enc : TypeId × Value → H} {W : World} {v : Value} {d : DataW H} {p : List MemPlace} {b0 : Nat} {r : Reach}
    (hv : Value.okWide Try.prog W r b0 51 v) (h : DataW.Trod enc Try.prog W 0 (fun _ => true) true 51 v d p) (hlt : ∀ x ∈ p, x.block < W.heap.size) :
    ∃ (A : Option Addr) (n c : Nat) (l : List Int), v = .slice A n c ∧ n ≤ c ∧ n ≤ maxLen ∧ l.length = n ∧ (∀ x ∈ l, 0 ≤ x ∧ x < 4294967296) ∧ Rd W W.heap.size 1 A n (l.flatMap encU) := by
  obtain ⟨A, n, cp, xss, rfl, hnc, hcm, hx, hok, hr⟩ := open_rows Try.underlying51 flat_u32 (by kernel_rfl) (by decide) hv h hlt
  obtain ⟨l, hl, hf, hb⟩ := list_of_rows (enc := encU) (ok := fun x => 0 ≤ x ∧ x < 4294967296) xss (fun xs hxs => by obtain ⟨p, rfl, h⟩ := flat1 (hok xs hxs); exact ⟨p, rfl, h⟩)
  rw [hf] at hr
  exact ⟨A, n, cp, l, rfl, hnc, Nat.le_trans hnc hcm, hl.trans hx, hb, hr⟩

set_option maxRecDepth 100000 in
theorem nvTears_law : LawWalk Try.prog 8 Try.f8 := by
  intro H enc W base args ds p hval hA hlt hfz hsz
  rw [Try.params8] at hA hval
  obtain ⟨v0, v1, v2, v3, d0, d1, d2, d3, p0, p1, p2, p3, rfl, rfl, rfl, h0, h1, h2, h3⟩ := trodAll_four hA
  obtain ⟨A, n, c, l, rfl, hnc, hm, hl, _, hr⟩ := open_u32s (hval 0 51 v0 rfl rfl) h0 (fun x hx => hlt x (by simp [hx]))
  obtain ⟨k, rfl, rfl, rfl, wk⟩ := open_int Try.underlying37 (hval 1 37 v1 rfl rfl) h1
  obtain ⟨i, rfl, rfl, rfl, wi⟩ := open_int Try.underlying3 (hval 2 3 v2 rfl rfl) h2
  obtain ⟨m, rfl, rfl, rfl, wm⟩ := open_int Try.underlying37 (hval 3 37 v3 rfl rfl) h3
  exact nvTears_any A n c l k i m hl hm W hr
theorem nvTears_proved : Rows.NvTearsSaid :=
  OpenClaim.holds_of_wide 8 Try.f8 rfl rfl rfl rfl rfl rfl rfl ⟨rfl, rfl, rfl, rfl, rfl⟩ rfl rfl rfl rfl rfl (by kernel_rfl) Try.func8 (by kernel_rfl)
    (of_decide_eq_true (by kernel_rfl)) (by unfold Func.isWrapper; rw [if_neg (of_decide_eq_false (by kernel_rfl))]; exact ⟨rfl, rfl⟩)
    (fun os started H enc _ => law_lifted (C := Try.checked) (s := Rows.nvTearsSpec) started own laidOut (by kernel_rfl) Try.func8 rfl (n := 4) (by kernel_rfl) (fun ds h => by match ds, h with | [_, _, _, _], _ => rfl) (tb := 4) (by kernel_rfl) Try.underlying4 (by kernel_rfl)
      (ChangeSpec.witness6 (enc := enc) (C := Try.checked) false ⟨#[], #[.slice none 0 0, .int .u32 0, .int .i64 0, .int .u32 0], []⟩ 8 (by kernel_rfl) (by kernel_rfl) (by kernel_rfl) (by kernel_rfl)) nvTears_law)
end Go.Proofs.Ytdkhkpjepnmjnaa
