/- Arguments opened: words, cuts, counters that are to rise. -/
import Derived.Test.YtpenjfkdinmgmaaNvA
import Derived.Test.YtpenjfkdinmgmaaOpen
namespace Go.Proofs.Ytpenjfkdinmgmaa
set_option linter.unusedVariables false
open Go.RowKit Go.Sort Go.ChangeShapes Go.WideShapes

theorem flat_u32 : flatOf Try.prog 5 23 = some [.int .u32] := by kernel_rfl
theorem flat1 {cs : List Value} (h : FlatOk [.int .u32] cs) : ∃ x : Int, cs = encU x ∧ 0 ≤ x ∧ x < 4294967296 := by
  match cs, h with
  | [.int _ a], ⟨rfl, wa, _⟩ => exact ⟨a, rfl, wf_u32 wa⟩
set_option maxRecDepth 100000 in
theorem open_u32s {H : Type} {enc : TypeId × Value → H} {W : World} {v : Value} {d : DataW H} {p : List MemPlace} {b0 : Nat} {r : Reach}
    (hv : Value.okWide Try.prog W r b0 22 v) (h : DataW.Trod enc Try.prog W 0 (fun _ => true) true 22 v d p) (hlt : ∀ x ∈ p, x.block < W.heap.size) :
    ∃ (A : Option Addr) (n c : Nat) (l : List Int), v = .slice A n c ∧ n ≤ c ∧ n ≤ maxLen ∧ l.length = n ∧ (∀ x ∈ l, 0 ≤ x ∧ x < 4294967296) ∧ Rd W W.heap.size 1 A n (l.flatMap encU) := by
  obtain ⟨A, n, cp, xss, rfl, hnc, hcm, hx, hok, hr⟩ := open_rows Try.underlying22 flat_u32 (by kernel_rfl) (by decide) hv h hlt
  obtain ⟨l, hl, hf, hb⟩ := list_of_rows (enc := encU) (ok := fun x => 0 ≤ x ∧ x < 4294967296) xss (fun xs hxs => by obtain ⟨p, rfl, h⟩ := flat1 (hok xs hxs); exact ⟨p, rfl, h⟩)
  rw [hf] at hr
  exact ⟨A, n, cp, l, rfl, hnc, Nat.le_trans hnc hcm, hl.trans hx, hb, hr⟩


def encRs (p : Int × Int × Bool) : List Value := [.int .i64 p.1, .int .u32 p.2.1, .bool p.2.2]
theorem flat_cut : flatOf Try.prog 5 58 = some [.int .i64, .int .u32] := by kernel_rfl
theorem flat_rise : flatOf Try.prog 5 53 = some [.int .i64, .int .u32, .bool] := by kernel_rfl
theorem flat_c {cs : List Value} (h : FlatOk [.int .i64, .int .u32] cs) : ∃ p : Int × Int, cs = encC p := by
  match cs, h with
  | [.int _ a, .int _ b], ⟨rfl, wa, rfl, wb, _⟩ => exact ⟨(a, b), rfl⟩
theorem flat_rs {cs : List Value} (h : FlatOk [.int .i64, .int .u32, .bool] cs) : ∃ p : Int × Int × Bool, cs = encRs p ∧ 0 ≤ p.2.1 ∧ p.2.1 < 4294967296 := by
  match cs, h with
  | [.int _ a, .int _ b, .bool c], ⟨rfl, wa, rfl, wb, _⟩ => exact ⟨(a, b, c), rfl, wf_u32 wb⟩
set_option maxRecDepth 100000 in
theorem open_cuts {H : Type} {enc : TypeId × Value → H} {W : World} {v : Value} {d : DataW H} {p : List MemPlace} {b0 : Nat} {r : Reach}
    (hv : Value.okWide Try.prog W r b0 39 v) (h : DataW.Trod enc Try.prog W 0 (fun _ => true) true 39 v d p) (hlt : ∀ x ∈ p, x.block < W.heap.size) :
    ∃ (A : Option Addr) (n c : Nat) (l : List (Int × Int)), v = .slice A n c ∧ n ≤ c ∧ n ≤ maxLen ∧ l.length = n ∧ Rd W W.heap.size 2 A n (l.flatMap encC) := by
  obtain ⟨A, n, cp, xss, rfl, hnc, hcm, hx, hok, hr⟩ := open_rows Try.underlying39 flat_cut (by kernel_rfl) (by decide) hv h hlt
  obtain ⟨l, hl, hf, _⟩ := list_of_rows (enc := encC) (ok := fun _ => True) xss (fun xs hxs => by obtain ⟨p, rfl⟩ := flat_c (hok xs hxs); exact ⟨p, rfl, trivial⟩)
  rw [hf] at hr
  exact ⟨A, n, cp, l, rfl, hnc, Nat.le_trans hnc hcm, hl.trans hx, hr⟩
set_option maxRecDepth 100000 in
theorem open_rises {H : Type} {enc : TypeId × Value → H} {W : World} {v : Value} {d : DataW H} {p : List MemPlace} {b0 : Nat} {r : Reach}
    (hv : Value.okWide Try.prog W r b0 51 v) (h : DataW.Trod enc Try.prog W 0 (fun _ => true) true 51 v d p) (hlt : ∀ x ∈ p, x.block < W.heap.size) :
    ∃ (A : Option Addr) (n c : Nat) (l : List (Int × Int × Bool)), v = .slice A n c ∧ n ≤ c ∧ n ≤ maxLen ∧ l.length = n ∧ (∀ x ∈ l, 0 ≤ x.2.1 ∧ x.2.1 < 4294967296) ∧ Rd W W.heap.size 3 A n (l.flatMap encRs) := by
  obtain ⟨A, n, cp, xss, rfl, hnc, hcm, hx, hok, hr⟩ := open_rows Try.underlying51 flat_rise (by kernel_rfl) (by decide) hv h hlt
  obtain ⟨l, hl, hf, hb⟩ := list_of_rows (enc := encRs) (ok := fun x => 0 ≤ x.2.1 ∧ x.2.1 < 4294967296) xss (fun xs hxs => by obtain ⟨p, rfl, h⟩ := flat_rs (hok xs hxs); exact ⟨p, rfl, h⟩)
  rw [hf] at hr
  exact ⟨A, n, cp, l, rfl, hnc, Nat.le_trans hnc hcm, hl.trans hx, hb, hr⟩
end Go.Proofs.Ytpenjfkdinmgmaa
