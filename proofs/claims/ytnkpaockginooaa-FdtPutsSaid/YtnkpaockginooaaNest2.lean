/- What is opened lies in one cell each. -/
import Derived.Test.YtnkpaockginooaaNest
namespace Go.Proofs.Ytnkpaockginooaa
set_option linter.unusedVariables false
open Go.RowKit Go.ChangeShapes Go.WideShapes

def plainFields (P : Program) (q : TypeId → Bool) : List Field → Nat → Option Nat
  | [], off => some off
  | f :: fs, off => if f.offset = off ∧ q f.type = true then plainFields P q fs (off + P.cellsOf f.type) else none
/-- A type made of numbers, bools, strings, slices, structs and arrays. -/
def plainT (P : Program) : Nat → TypeId → Bool
  | 0, _ => false
  | n + 1, t =>
    match P.underlying t with
    | some .bool => true
    | some (.int _) => true
    | some .string => true
    | some (.slice _) => true
    | some (.struct fs) => plainFields P (plainT P n) fs.toList 0 == some (P.cellsOf t)
    | some (.array m e) => plainT P n e && P.cellsOf t == m * P.cellsOf e
    | _ => false
section
variable {P : Program} {w : World} {B : Nat}
theorem one_fields {n : Nat} {q : TypeId → Bool} (ih : ∀ t cs, q t = true → Sh P w B n t cs → ∀ u ∈ cs, u.oneCell' = true) :
    ∀ (fs : List Field) (off E : Nat) (cs : List Value), plainFields P q fs off = some E → cs.length = E → (∀ (i : Nat) (f : Field), fs[i]? = some f → Sh P w B n f.type ((cs.drop f.offset).take (P.cellsOf f.type))) → ∀ u ∈ cs.drop off, u.oneCell' = true
  | [], off, E, cs, h, hl, _, u, hu => by
    simp only [plainFields, Option.some.injEq] at h
    rw [List.drop_of_length_le (by omega)] at hu
    cases hu
  | f :: fs, off, E, cs, h, hl, hf, u, hu => by
    simp only [plainFields] at h
    split at h
    · rename_i hc
      have h0 := hf 0 f rfl
      rw [hc.1] at h0
      have e : cs.drop off = (cs.drop off).take (P.cellsOf f.type) ++ cs.drop (off + P.cellsOf f.type) := by
        rw [← List.drop_drop]; exact (List.take_append_drop _ _).symm
      rw [e] at hu
      rcases List.mem_append.1 hu with hu | hu
      · exact ih _ _ hc.2 h0 u hu
      · exact one_fields ih fs _ E cs h hl (fun i g hg => hf (i + 1) g hg) u hu
    · cases h
theorem sh_one : ∀ (n n' : Nat) (t : TypeId) (cs : List Value), plainT P n' t = true → Sh P w B n t cs → ∀ u ∈ cs, u.oneCell' = true
  | 0, _, _, _, _, h => absurd h (by simp [Sh])
  | n + 1, 0, _, _, h, _ => by simp [plainT] at h
  | n + 1, n' + 1, t, cs, hp, h => by
    have ih := fun t cs => sh_one n n' t cs
    unfold Sh at h
    unfold plainT at hp
    split at h
    · obtain ⟨b, rfl⟩ := h
      intro u hu; simp at hu; subst hu; rfl
    · obtain ⟨m, rfl, _⟩ := h
      intro u hu; simp at hu; subst hu; rfl
    · obtain ⟨s, rfl, _⟩ := h
      intro u hu; simp at hu; subst hu; rfl
    · rename_i fs hu'
      rw [hu'] at hp
      simp only [beq_iff_eq] at hp
      intro u hu
      exact one_fields ih fs.toList 0 _ cs hp h.1 (fun i f hf => h.2 i f (by simpa using hf)) u (by simpa using hu)
    · rename_i m e hu'
      rw [hu'] at hp
      simp only [Bool.and_eq_true, beq_iff_eq] at hp
      intro u hu
      obtain ⟨j, hj, rfl⟩ := List.getElem_of_mem hu
      have hlt : j < m * P.cellsOf e := by rw [← hp.2, ← h.1]; exact hj
      have hpos : 0 < P.cellsOf e := by
        rcases Nat.eq_zero_or_pos (P.cellsOf e) with h0 | h0
        · rw [h0, Nat.mul_zero] at hlt; omega
        · exact h0
      have hq : j / P.cellsOf e < m := (Nat.div_lt_iff_lt_mul hpos).2 hlt
      refine ih _ _ hp.1 (h.2 _ hq) _ ?_
      have hr := Nat.mod_lt j hpos
      have e1 : j / P.cellsOf e * P.cellsOf e + j % P.cellsOf e = j := by have := Nat.div_add_mod j (P.cellsOf e); rw [Nat.mul_comm] at this; omega
      refine List.mem_of_getElem? (i := j % P.cellsOf e) ?_
      rw [List.getElem?_take, if_pos hr, List.getElem?_drop, e1, List.getElem?_eq_getElem hj]
    · obtain ⟨A, len, cap, f, rfl, _⟩ := h
      intro u hu; simp at hu; subst hu; rfl
    · rename_i h1 h2 h3 h4 h5 h6
      split at hp
      · rename_i hx; exact absurd hx h1
      · rename_i hx; exact absurd hx (h2 _)
      · rename_i hx; exact absurd hx h3
      · rename_i hx; exact absurd hx (h6 _)
      · rename_i hx; exact absurd hx (h4 _)
      · rename_i hx; exact absurd hx (h5 _ _)
      · cases hp
/-- A slice's rows, put one behind the other. -/
theorem rd_of_rows {len k : Nat} {A : Option Addr} {f : Nat → List Value} (hk : 0 < k) (hlen : ∀ i, i < len → (f i).length = k)
    (h : 0 < len → ∃ b off, A = some ⟨b, off, none⟩ ∧ b < B ∧ ∀ i, i < len → ∀ j, j < k → w.cell? ⟨b, off + (i * k + j), none⟩ = (f i)[j]?) : Rd w B k A len (((List.range len).map f).flatten) := by
  have hfl : ∀ j, j ≤ len → ((List.range j).map f).flatten.length = j * k := by
    intro j
    induction j with
    | zero => intro _; simp
    | succ j ih =>
      intro hj
      rw [List.range_succ, List.map_append, List.flatten_append, List.length_append, ih (by omega)]
      simp [hlen j (by omega), Nat.succ_mul]
  refine ⟨hfl len (Nat.le_refl _), fun hn => ?_⟩
  obtain ⟨b, off, hA, hb, hc⟩ := h hn
  refine ⟨b, off, hA, hb, fun j u hu => ?_⟩
  have hj : j < len * k := by
    have h1 := (List.getElem?_eq_some_iff.1 hu).1
    rwa [hfl len (Nat.le_refl _)] at h1
  have hq : j / k < len := (Nat.div_lt_iff_lt_mul hk).2 hj
  have hr := Nat.mod_lt j hk
  have e1 : j / k * k + j % k = j := by have := Nat.div_add_mod j k; rw [Nat.mul_comm] at this; omega
  have hc1 := hc _ hq _ hr
  rw [e1] at hc1
  rw [hc1, ← hu]
  have hg : ∀ (xss : List (List Value)) (q r : Nat), (∀ xs ∈ xss, xs.length = k) → r < k → (hq : q < xss.length) → xss.flatten[q * k + r]? = (xss[q])[r]? := by
    intro xss
    induction xss with
    | nil => intro q r _ _ hq; simp at hq
    | cons x xs ih =>
      intro q r hx hr hq
      have hxl := hx x (List.mem_cons_self ..)
      cases q with
      | zero => simp only [List.flatten_cons, Nat.zero_mul, Nat.zero_add, List.getElem_cons_zero]; rw [List.getElem?_append_left (by omega)]
      | succ q =>
        simp only [List.flatten_cons, List.getElem_cons_succ]
        rw [List.getElem?_append_right (by rw [Nat.succ_mul]; omega), show (q + 1) * k + r - x.length = q * k + r by rw [Nat.succ_mul]; omega]
        exact ih q r (fun y hy => hx y (List.mem_cons_of_mem _ hy)) hr (by simpa using hq)
  have := hg ((List.range len).map f) (j / k) (j % k) (fun xs hxs => by
    obtain ⟨i, hir, rfl⟩ := List.mem_map.1 hxs
    exact hlen i (List.mem_range.1 hir)) hr (by simpa using hq)
  rw [e1] at this
  rw [this]
  simp
end
end Go.Proofs.Ytnkpaockginooaa
