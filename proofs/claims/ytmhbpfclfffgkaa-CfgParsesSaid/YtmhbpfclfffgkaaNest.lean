/- Arguments opened to their cells, whatever they are made of: structs and arrays that hold slices and strings, slices of such. -/
import Derived.Test.YtmhbpfclfffgkaaOpen
namespace Go.Proofs.Ytmhbpfclfffgkaa
set_option linter.unusedVariables false
open Go.RowKit Go.ChangeShapes Go.WideShapes

/-- How a value of a type reads: its cells; what its slices hold lies below B. -/
def Sh (P : Program) (w : World) (B : Nat) : Nat → TypeId → List Value → Prop
  | 0, _, _ => False
  | n + 1, t, cs =>
    match P.underlying t with
    | some .bool => ∃ b, cs = [.bool b]
    | some (.int k) => ∃ m, cs = [.int k m] ∧ (Lit.int k m).wf = true
    | some .string => ∃ s : ByteArray, cs = [.string s] ∧ s.size ≤ maxLen
    | some (.struct fs) => cs.length = P.cellsOf t ∧ ∀ (i : Nat) (f : Field), fs[i]? = some f → Sh P w B n f.type ((cs.drop f.offset).take (P.cellsOf f.type))
    | some (.array m e) => cs.length = P.cellsOf t ∧ ∀ i, i < m → Sh P w B n e ((cs.drop (i * P.cellsOf e)).take (P.cellsOf e))
    | some (.slice e) => ∃ (A : Option Addr) (len cap : Nat) (f : Nat → List Value), cs = [.slice A len cap] ∧ len ≤ cap ∧ cap ≤ maxLen ∧
        (∀ i, i < len → Sh P w B n e (f i) ∧ (f i).length = P.cellsOf e) ∧
        (0 < P.cellsOf e → 0 < len → ∃ b off, A = some ⟨b, off, none⟩ ∧ b < B ∧ ∀ i, i < len → ∀ j, j < P.cellsOf e → w.cell? ⟨b, off + (i * P.cellsOf e + j), none⟩ = (f i)[j]?)
    | _ => True

section
variable {H : Type} {enc : TypeId × Value → H} {P : Program} {w : World} {spare : Nat → Bool} {held : Bool} {B : Nat}

theorem sh_of_trod : ∀ (fuel : Nat) (t : TypeId) (cs : List Value) (x : DataW H × List MemPlace), DataW.trod enc P w 0 spare held fuel t cs = some x → (∀ y ∈ x.2, y.block < B) → Sh P w B fuel t cs
  | 0, _, _, _, h, _ => by simp [DataW.trod] at h
  | fuel + 1, t, cs, x, h, hlt => by
    have ih := fun t cs x => sh_of_trod fuel t cs x
    unfold Sh
    split
    · rename_i hu
      obtain ⟨b, rfl, _⟩ := DataW.trod_bool hu h
      exact ⟨b, rfl⟩
    · rename_i k hu
      obtain ⟨m, rfl, _, hw⟩ := DataW.trod_int hu h
      exact ⟨m, rfl, hw⟩
    · rename_i hu
      obtain ⟨s, rfl, _, hs⟩ := DataW.trod_string hu h
      exact ⟨s, rfl, hs⟩
    · rename_i fs hu
      obtain ⟨xs, m, hm, rfl, hl, hxl, hg⟩ := DataW.trod_struct hu h
      have : m = fuel := by omega
      subst this
      refine ⟨hl, fun i f hf => ?_⟩
      have hi : i < xs.length := by rw [hxl]; exact (Array.getElem?_eq_some_iff.1 hf).1
      have h1 := hg i f hf
      rw [List.getElem?_eq_getElem hi] at h1
      exact ih _ _ _ h1 fun y hy => hlt y (List.mem_flatMap.2 ⟨_, List.getElem_mem hi, hy⟩)
    · rename_i m e hu
      obtain ⟨xs, m', hm, rfl, hl, hxl, hg⟩ := DataW.trod_array hu h
      have : m' = fuel := by omega
      subst this
      refine ⟨hl, fun i hi => ?_⟩
      have hi' : i < xs.length := by omega
      have h1 := hg i hi
      rw [List.getElem?_eq_getElem hi'] at h1
      exact ih _ _ _ h1 fun y hy => hlt y (List.mem_flatMap.2 ⟨_, List.getElem_mem hi', hy⟩)
    · rename_i e hu
      rcases DataW.trod_slice hu h with ⟨hcs, _⟩ | ⟨a, len, cap, elems, rest, n, hn, rfl, rfl, _, hl, hm, hlen, hel, _, _⟩
      · exact ⟨none, 0, 0, fun _ => [], hcs, Nat.le_refl _, by simp [maxLen], fun i hi => absurd hi (by omega), fun _ hi => absurd hi (by omega)⟩
      · have : n = fuel := by omega
        subst this
        have hel' : ∀ i, i < len → ∃ cs', w.cells? 0 (a.add (i * P.cellsOf e)) (P.cellsOf e) = some cs' ∧ Sh P w B n e cs' := fun i hi => by
          have h1 := hel i hi
          have hi' : i < elems.length := by omega
          rw [List.getElem?_eq_getElem hi', Option.bind_eq_some_iff] at h1
          obtain ⟨cs', h2, h3⟩ := h1
          exact ⟨cs', h2, ih _ _ _ h3 fun y hy => hlt y (List.mem_append_right _ (List.mem_flatMap.2 ⟨_, List.mem_append_left _ (List.getElem_mem hi'), hy⟩))⟩
        obtain ⟨f, hf⟩ := Go.Deep.choose_lt (α := List Value) hel'
        refine ⟨some a, len, cap, f, rfl, hl, hm, fun i hi => ⟨(hf i hi).2, (World.cells?_some (hf i hi).1).2.1⟩, fun hp hpos => ?_⟩
        obtain ⟨hs, hcell⟩ := cells_of_add hp hpos (fun i hi => (hf i hi).1)
        obtain ⟨b, off, sp⟩ := a
        simp only at hs
        subst hs
        refine ⟨b, off, rfl, ?_, hcell⟩
        have hin : MemPlace.cell b off ∈ MemPlace.row ⟨b, off, none⟩ ((elems.length + rest.length) * P.cellsOf e) := by
          unfold MemPlace.row
          exact List.mem_map.2 ⟨0, List.mem_range.2 (Nat.mul_pos (by omega) hp), by simp⟩
        exact hlt _ (List.mem_append_left _ hin)
    · trivial
end
end Go.Proofs.Ytmhbpfclfffgkaa
namespace Go.Proofs.Ytmhbpfclfffgkaa
set_option linter.unusedVariables false
open Go.RowKit Go.ChangeShapes Go.WideShapes

def plainFields (P : Program) (q : TypeId → Bool) : List Field → Nat → Option Nat
  | [], off => some off
  | f :: fs, off => if f.offset = off ∧ q f.type = true then plainFields P q fs (off + P.cellsOf f.type) else none
/-- A type made of numbers, bools, strings, slices, structs and arrays. -/
def plainT (P : Program) : Nat → TypeId → Bool
  | 0, _ => false
  | n + 1, t =>
    match P.underlying t with
    | some .bool => true
    | some (.int _) => true
    | some .string => true
    | some (.slice _) => true
    | some (.struct fs) => plainFields P (plainT P n) fs.toList 0 == some (P.cellsOf t)
    | some (.array m e) => plainT P n e && P.cellsOf t == m * P.cellsOf e
    | _ => false
section
variable {P : Program} {w : World} {B : Nat}
theorem one_fields {n : Nat} {q : TypeId → Bool} (ih : ∀ t cs, q t = true → Sh P w B n t cs → ∀ u ∈ cs, u.oneCell' = true) :
    ∀ (fs : List Field) (off E : Nat) (cs : List Value), plainFields P q fs off = some E → cs.length = E → (∀ (i : Nat) (f : Field), fs[i]? = some f → Sh P w B n f.type ((cs.drop f.offset).take (P.cellsOf f.type))) → ∀ u ∈ cs.drop off, u.oneCell' = true
  | [], off, E, cs, h, hl, _, u, hu => by
    simp only [plainFields, Option.some.injEq] at h
    rw [List.drop_of_length_le (by omega)] at hu
    cases hu
  | f :: fs, off, E, cs, h, hl, hf, u, hu => by
    simp only [plainFields] at h
    split at h
    · rename_i hc
      have h0 := hf 0 f rfl
      rw [hc.1] at h0
      have e : cs.drop off = (cs.drop off).take (P.cellsOf f.type) ++ cs.drop (off + P.cellsOf f.type) := by
        rw [← List.drop_drop]; exact (List.take_append_drop _ _).symm
      rw [e] at hu
      rcases List.mem_append.1 hu with hu | hu
      · exact ih _ _ hc.2 h0 u hu
      · exact one_fields ih fs _ E cs h hl (fun i g hg => hf (i + 1) g hg) u hu
    · cases h
theorem sh_one : ∀ (n n' : Nat) (t : TypeId) (cs : List Value), plainT P n' t = true → Sh P w B n t cs → ∀ u ∈ cs, u.oneCell' = true
  | 0, _, _, _, _, h => absurd h (by simp [Sh])
  | n + 1, 0, _, _, h, _ => by simp [plainT] at h
  | n + 1, n' + 1, t, cs, hp, h => by
    have ih := fun t cs => sh_one n n' t cs
    unfold Sh at h
    unfold plainT at hp
    split at h
    · obtain ⟨b, rfl⟩ := h
      intro u hu; simp at hu; subst hu; rfl
    · obtain ⟨m, rfl, _⟩ := h
      intro u hu; simp at hu; subst hu; rfl
    · obtain ⟨s, rfl, _⟩ := h
      intro u hu; simp at hu; subst hu; rfl
    · rename_i fs hu'
      rw [hu'] at hp
      simp only [beq_iff_eq] at hp
      intro u hu
      exact one_fields ih fs.toList 0 _ cs hp h.1 (fun i f hf => h.2 i f (by simpa using hf)) u (by simpa using hu)
    · rename_i m e hu'
      rw [hu'] at hp
      simp only [Bool.and_eq_true, beq_iff_eq] at hp
      intro u hu
      obtain ⟨j, hj, rfl⟩ := List.getElem_of_mem hu
      have hlt : j < m * P.cellsOf e := by rw [← hp.2, ← h.1]; exact hj
      have hpos : 0 < P.cellsOf e := by
        rcases Nat.eq_zero_or_pos (P.cellsOf e) with h0 | h0
        · rw [h0, Nat.mul_zero] at hlt; omega
        · exact h0
      have hq : j / P.cellsOf e < m := (Nat.div_lt_iff_lt_mul hpos).2 hlt
      refine ih _ _ hp.1 (h.2 _ hq) _ ?_
      have hr := Nat.mod_lt j hpos
      have e1 : j / P.cellsOf e * P.cellsOf e + j % P.cellsOf e = j := by have := Nat.div_add_mod j (P.cellsOf e); rw [Nat.mul_comm] at this; omega
      refine List.mem_of_getElem? (i := j % P.cellsOf e) ?_
      rw [List.getElem?_take, if_pos hr, List.getElem?_drop, e1, List.getElem?_eq_getElem hj]
    · obtain ⟨A, len, cap, f, rfl, _⟩ := h
      intro u hu; simp at hu; subst hu; rfl
    · rename_i h1 h2 h3 h4 h5 h6
      split at hp
      · rename_i hx; exact absurd hx h1
      · rename_i hx; exact absurd hx (h2 _)
      · rename_i hx; exact absurd hx h3
      · rename_i hx; exact absurd hx (h6 _)
      · rename_i hx; exact absurd hx (h4 _)
      · rename_i hx; exact absurd hx (h5 _ _)
      · cases hp
/-- A slice's rows, put one behind the other. -/
theorem rd_of_rows {len k : Nat} {A : Option Addr} {f : Nat → List Value} (hk : 0 < k) (hlen : ∀ i, i < len → (f i).length = k)
    (h : 0 < len → ∃ b off, A = some ⟨b, off, none⟩ ∧ b < B ∧ ∀ i, i < len → ∀ j, j < k → w.cell? ⟨b, off + (i * k + j), none⟩ = (f i)[j]?) : Rd w B k A len (((List.range len).map f).flatten) := by
  have hfl : ∀ j, j ≤ len → ((List.range j).map f).flatten.length = j * k := by
    intro j
    induction j with
    | zero => intro _; simp
    | succ j ih =>
      intro hj
      rw [List.range_succ, List.map_append, List.flatten_append, List.length_append, ih (by omega)]
      simp [hlen j (by omega), Nat.succ_mul]
  refine ⟨hfl len (Nat.le_refl _), fun hn => ?_⟩
  obtain ⟨b, off, hA, hb, hc⟩ := h hn
  refine ⟨b, off, hA, hb, fun j u hu => ?_⟩
  have hj : j < len * k := by
    have h1 := (List.getElem?_eq_some_iff.1 hu).1
    rwa [hfl len (Nat.le_refl _)] at h1
  have hq : j / k < len := (Nat.div_lt_iff_lt_mul hk).2 hj
  have hr := Nat.mod_lt j hk
  have e1 : j / k * k + j % k = j := by have := Nat.div_add_mod j k; rw [Nat.mul_comm] at this; omega
  have hc1 := hc _ hq _ hr
  rw [e1] at hc1
  rw [hc1, ← hu]
  have hg : ∀ (xss : List (List Value)) (q r : Nat), (∀ xs ∈ xss, xs.length = k) → r < k → (hq : q < xss.length) → xss.flatten[q * k + r]? = (xss[q])[r]? := by
    intro xss
    induction xss with
    | nil => intro q r _ _ hq; simp at hq
    | cons x xs ih =>
      intro q r hx hr hq
      have hxl := hx x (List.mem_cons_self ..)
      cases q with
      | zero => simp only [List.flatten_cons, Nat.zero_mul, Nat.zero_add, List.getElem_cons_zero]; rw [List.getElem?_append_left (by omega)]
      | succ q =>
        simp only [List.flatten_cons, List.getElem_cons_succ]
        rw [List.getElem?_append_right (by rw [Nat.succ_mul]; omega), show (q + 1) * k + r - x.length = q * k + r by rw [Nat.succ_mul]; omega]
        exact ih q r (fun y hy => hx y (List.mem_cons_of_mem _ hy)) hr (by simpa using hq)
  have := hg ((List.range len).map f) (j / k) (j % k) (fun xs hxs => by
    obtain ⟨i, hir, rfl⟩ := List.mem_map.1 hxs
    exact hlen i (List.mem_range.1 hir)) hr (by simpa using hq)
  rw [e1] at this
  rw [this]
  simp
end
end Go.Proofs.Ytmhbpfclfffgkaa
namespace Go.Proofs.Ytmhbpfclfffgkaa
set_option linter.unusedVariables false
open Go.RowKit Go.ChangeShapes Go.WideShapes

section
variable {P : Program} {w : World} {B n : Nat} {t : TypeId} {cs : List Value}
theorem sh_bool (hu : P.underlying t = some .bool) (h : Sh P w B n t cs) : ∃ b, cs = [.bool b] := by
  cases n with
  | zero => exact h.elim
  | succ n => unfold Sh at h; rw [hu] at h; exact h
theorem sh_int {k : IntKind} (hu : P.underlying t = some (.int k)) (h : Sh P w B n t cs) : ∃ m, cs = [.int k m] ∧ (Lit.int k m).wf = true := by
  cases n with
  | zero => exact h.elim
  | succ n => unfold Sh at h; rw [hu] at h; exact h
theorem sh_string (hu : P.underlying t = some .string) (h : Sh P w B n t cs) : ∃ s : ByteArray, cs = [.string s] ∧ s.size ≤ maxLen := by
  cases n with
  | zero => exact h.elim
  | succ n => unfold Sh at h; rw [hu] at h; exact h
theorem sh_struct {fs : Array Field} (hu : P.underlying t = some (.struct fs)) (h : Sh P w B n t cs) : ∃ m, cs.length = P.cellsOf t ∧ ∀ (i : Nat) (f : Field), fs[i]? = some f → Sh P w B m f.type ((cs.drop f.offset).take (P.cellsOf f.type)) := by
  cases n with
  | zero => exact h.elim
  | succ n => unfold Sh at h; rw [hu] at h; exact ⟨n, h⟩
theorem sh_field {fs : Array Field} {m : Nat} (hf : ∀ (i : Nat) (f : Field), fs[i]? = some f → Sh P w B m f.type ((cs.drop f.offset).take (P.cellsOf f.type))) (i : Nat) (T : TypeId) (o k : Nat) (hi : (fs[i]?.map fun f => (f.type, f.offset)) = some (T, o)) (hk : P.cellsOf T = k) : Sh P w B m T ((cs.drop o).take k) := by
  subst hk
  rw [Option.map_eq_some_iff] at hi
  obtain ⟨f, h1, h2⟩ := hi
  simp only [Prod.mk.injEq] at h2
  have := hf i f h1
  rw [h2.1, h2.2] at this
  exact this
theorem sh_list {α : Type} {enc : α → List Value} {ok : α → Prop} {e : TypeId} {k : Nat} (hu : P.underlying t = some (.slice e)) (hk : P.cellsOf e = k) (hpos : 0 < k) (hdec : ∀ m cs, Sh P w B m e cs → ∃ x, cs = enc x ∧ ok x) (h : Sh P w B n t cs) :
    ∃ (A : Option Addr) (len cap : Nat) (l : List α), cs = [.slice A len cap] ∧ len ≤ cap ∧ cap ≤ maxLen ∧ l.length = len ∧ (∀ x ∈ l, ok x) ∧ Rd w B k A len (l.flatMap enc) := by
  subst hk
  cases n with
  | zero => exact h.elim
  | succ n =>
    unfold Sh at h
    rw [hu] at h
    obtain ⟨A, len, cap, f, rfl, h1, h2, h3, h4⟩ := h
    obtain ⟨l, hl, hf, hok⟩ := list_of_rows (enc := enc) (ok := ok) ((List.range len).map f) (fun xs hxs => by
      obtain ⟨i, hi, rfl⟩ := List.mem_map.1 hxs
      exact hdec _ _ (h3 i (List.mem_range.1 hi)).1)
    have hr := rd_of_rows hpos (fun i hi => (h3 i hi).2) (h4 hpos)
    rw [hf] at hr
    exact ⟨A, len, cap, l, rfl, h1, h2, by simpa using hl, hok, hr⟩
theorem list3 {α : Type} {cs : List α} {a b c : α} (hl : cs.length = 3) (h0 : cs[0]? = some a) (h1 : cs[1]? = some b) (h2 : cs[2]? = some c) : cs = [a, b, c] := by
  match cs, hl with
  | [x, y, z], _ =>
    simp at h0 h1 h2
    rw [h0, h1, h2]
theorem piece1 {cs : List Value} {o : Nat} {v : Value} (h : (cs.drop o).take 1 = [v]) : cs[o]? = some v := by
  have : ((cs.drop o).take 1)[0]? = some v := by rw [h]; rfl
  rw [List.getElem?_take, if_pos (by decide), List.getElem?_drop] at this
  simpa using this
end

section
variable {H : Type} {enc : TypeId × Value → H} {P : Program} {w : World}
/-- An argument by value that is a struct. -/
theorem open_sh {r : Reach} {b0 : Nat} {t : TypeId} {v : Value} {d : DataW H} {p : List MemPlace} {fs : Array Field} (hu : P.underlying t = some (.struct fs))
    (hv : Value.okWide P w r b0 t v) (h : DataW.Trod enc P w 0 (fun _ => true) true t v d p) (hlt : ∀ x ∈ p, x.block < w.heap.size) : ∃ (cs : List Value) (n : Nat), v = .agg cs.toArray ∧ Sh P w w.heap.size n t cs := by
  have hag : ∃ cs, v = .agg cs := by
    unfold Value.okWide at hv
    split at hv
    · exact ⟨_, hv.choose_spec.1⟩
    · exact ⟨_, hv.choose_spec.1⟩
    · rename_i h1 h2
      exact absurd hu (h1 _)
  obtain ⟨⟨cs⟩, rfl⟩ := hag
  obtain ⟨fuel, hf⟩ := h
  exact ⟨cs, fuel, rfl, sh_of_trod fuel t cs _ hf hlt⟩
/-- A slice. -/
theorem open_sh_slice {r : Reach} {b0 : Nat} {t e : TypeId} {v : Value} {d : DataW H} {p : List MemPlace} (ht : P.underlying t = some (.slice e))
    (hv : Value.okWide P w r b0 t v) (h : DataW.Trod enc P w 0 (fun _ => true) true t v d p) (hlt : ∀ x ∈ p, x.block < w.heap.size) : ∃ (A : Option Addr) (l c n : Nat), v = .slice A l c ∧ Sh P w w.heap.size n t [.slice A l c] := by
  obtain ⟨A0, l0, c0, rfl⟩ := okWide_slice ht hv
  obtain ⟨fuel, hf⟩ := h
  exact ⟨A0, l0, c0, fuel, rfl, sh_of_trod fuel t _ _ hf hlt⟩
end
end Go.Proofs.Ytmhbpfclfffgkaa
