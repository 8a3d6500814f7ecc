/- A configuration: its guests' rows, kept; what a small one is. -/
import Derived.Test.YtmhbpfclfffgkaaConfF
namespace Go.Proofs.Ytmhbpfclfffgkaa
set_option linter.unusedVariables false
open Go.RowKit Go.Sort Go.ChangeShapes Go.WideShapes

theorem GRows.below {w w' : World} {A : Option Addr} {n : Nat} {gs : List Gd} (h : GRows w A n gs) (hb : Below w.heap.size w w') : GRows w' A n gs := by
  intro k hk
  obtain ⟨b, o, hA, hlt, hr⟩ := h k hk
  exact ⟨b, o, hA, Nat.lt_of_lt_of_le hlt hb.size, fun j v hv => (hb.cell (p := ⟨b, o + k * 79 + j, none⟩) hlt).trans (hr j v hv)⟩
theorem gsOk_of {w : World} {B n : Nat} {gs : List Gd} (hl : gs.length = n) (h : ∀ g ∈ gs, GOk w B g) : GsOk w B n gs := by
  intro k hk
  rw [List.getD_eq_getElem?_getD, List.getElem?_eq_getElem (by omega)]
  exact h _ (List.getElem_mem _)
theorem gRows_of {w : World} {n : Nat} {A : Option Addr} {gs : List Gd} (hl : gs.length = n) (h : ∀ g ∈ gs, GOk w w.heap.size g) (hr : Rd w w.heap.size 79 A n (gs.flatMap gcs)) : GRows w A n gs := by
  intro k hk
  have hk' : k < gs.length := by omega
  have hlen : ∀ g ∈ gs, (gcs g).length = 79 := fun g hg => (h g hg).len
  obtain ⟨b, off, e, hb, hc⟩ := hr.cells (by omega)
  refine ⟨b, off, e, hb, fun j v hv => ?_⟩
  have hg : gs.getD k zG = gs[k] := by rw [List.getD_eq_getElem?_getD, List.getElem?_eq_getElem hk']; rfl
  rw [hg] at hv
  have hj : j < 79 := by
    have := (List.getElem?_eq_some_iff.1 hv).1
    rwa [(h _ (List.getElem_mem hk')).len] at this
  have h1 := hc (k * 79 + j) (by
    have h1 : (k + 1) * 79 ≤ n * 79 := Nat.mul_le_mul_right _ (by omega)
    omega)
  rw [show off + k * 79 + j = off + (k * 79 + j) by omega, h1]
  have key : ∀ (l : List Gd) (k j : Nat), (∀ g ∈ l, (gcs g).length = 79) → j < 79 → (hk : k < l.length) → (l.flatMap gcs)[k * 79 + j]? = (gcs l[k])[j]? := by
    intro l
    induction l with
    | nil => intro k j _ _ hk; simp at hk
    | cons x xs ih =>
      intro k j hx hj hk
      have hxl := hx x (List.mem_cons_self ..)
      cases k with
      | zero => simp only [List.flatMap_cons, Nat.zero_mul, Nat.zero_add, List.getElem_cons_zero]; rw [List.getElem?_append_left (by omega)]
      | succ k =>
        simp only [List.flatMap_cons, List.getElem_cons_succ]
        rw [List.getElem?_append_right (by omega), show (k + 1) * 79 + j - (gcs x).length = k * 79 + j by omega]
        exact ih k j (fun y hy => hx y (List.mem_cons_of_mem _ hy)) hj (by simpa using hk)
  rw [key gs k j hlen hj hk']
  exact hv
theorem fewN_iff {n n2 : Nat} {gs : List Gd} (hl : gs.length = n) (h : fewN n n2 gs = true) : n ≤ 20 ∧ n2 ≤ 40 ∧ ∀ k, k < n → fewG (gs.getD k zG) = true := by
  simp [fewN] at h
  refine ⟨by omega, by omega, fun k hk => ?_⟩
  rw [List.getD_eq_getElem?_getD, List.getElem?_eq_getElem (by omega)]
  exact h.2 _ (List.getElem_mem _)

end Go.Proofs.Ytmhbpfclfffgkaa
