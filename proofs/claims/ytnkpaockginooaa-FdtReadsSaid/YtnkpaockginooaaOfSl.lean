/- The tree that any bytes are, or that they are none: the law FdtReads returns true whatever the bytes. -/
import Derived.Test.YtnkpaockginooaaOfS
namespace Go.Proofs.Ytnkpaockginooaa
set_option linter.unusedVariables false
open Go.RowKit Go.Sort Go.ChangeShapes Go.WideShapes
set_option maxRecDepth 100000 in
theorem open_bytesC {H : Type} {enc : TypeId × Value → H} {W : World} {v : Value} {d : DataW H} {p : List MemPlace} {b0 : Nat} {r : Reach}
    (hv : Value.okWide Try.prog W r b0 28 v) (h : DataW.Trod enc Try.prog W 0 (fun _ => true) true 28 v d p) (hlt : ∀ x ∈ p, x.block < W.heap.size) :
    ∃ (A : Option Addr) (n c : Nat) (l : List Int), v = .slice A n c ∧ n ≤ c ∧ c ≤ maxLen ∧ l.length = n ∧ BytesOk l ∧ Rd W W.heap.size 1 A n (l.flatMap encB) := by
  obtain ⟨A, n, cp, xss, rfl, hnc, hcm, hx, hok, hr⟩ := open_rows Try.underlying28 flat_u8 (by kernel_rfl) (by decide) hv h hlt
  obtain ⟨l, hl, hf, hb⟩ := list_of_rows (enc := encB) (ok := fun x => 0 ≤ x ∧ x < 256) xss (fun xs hxs => by obtain ⟨p, rfl, h⟩ := flat_b (hok xs hxs); exact ⟨p, rfl, h⟩)
  rw [hf] at hr
  exact ⟨A, n, cp, l, rfl, hnc, hcm, hl.trans hx, hb, hr⟩
set_option maxRecDepth 100000 in
theorem fdtReads_law : LawWalk Try.prog 7 Try.f7 := by
  intro H enc W base args ds p hval hA hlt hfz hsz
  rw [Try.params7] at hA hval
  obtain ⟨v0, d0, rfl, rfl, h0⟩ := trodAll_one hA
  obtain ⟨A, n, c, l, rfl, hnc, hx, hl, hok, hr⟩ := open_bytesC (hval 0 28 v0 rfl rfl) h0 (fun x hx => hlt x (by simp [hx]))
  exact fdtReads_any A n c l W hl hok (Nat.le_trans hnc hx) hnc hx hr
theorem fdtReads_proved : Rows.FdtReadsSaid :=
  OpenClaim.holds_of_wide 7 Try.f7 rfl rfl rfl rfl rfl rfl rfl ⟨rfl, rfl, rfl, rfl, rfl⟩ rfl rfl rfl rfl rfl (by kernel_rfl) Try.func7 (by kernel_rfl)
    (of_decide_eq_true (by kernel_rfl)) (by unfold Func.isWrapper; rw [if_neg (of_decide_eq_false (by kernel_rfl))]; exact ⟨rfl, rfl⟩)
    (fun os started H enc _ => law_lifted (C := Try.checked) (s := Rows.fdtReadsSpec) started own laidOut (by kernel_rfl) Try.func7 rfl (n := 1) (by kernel_rfl) (fun ds h => by match ds, h with | [_], _ => rfl) (tb := 4) (by kernel_rfl) Try.underlying4 (by kernel_rfl)
      (ChangeSpec.witness6 (enc := enc) (C := Try.checked) false ⟨#[], #[.slice none 0 0], []⟩ 8 (by kernel_rfl) (by kernel_rfl) (by kernel_rfl) (by kernel_rfl)) fdtReads_law)
end Go.Proofs.Ytnkpaockginooaa
