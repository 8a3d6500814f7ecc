/- What is opened, by its type's shape. -/
import Derived.Test.YtnkpaockginooaaNest2
namespace Go.Proofs.Ytnkpaockginooaa
set_option linter.unusedVariables false
open Go.RowKit Go.ChangeShapes Go.WideShapes

section
variable {P : Program} {w : World} {B n : Nat} {t : TypeId} {cs : List Value}
theorem sh_bool (hu : P.underlying t = some .bool) (h : Sh P w B n t cs) : ∃ b, cs = [.bool b] := by
  cases n with
  | zero => exact h.elim
  | succ n => unfold Sh at h; rw [hu] at h; exact h
theorem sh_int {k : IntKind} (hu : P.underlying t = some (.int k)) (h : Sh P w B n t cs) : ∃ m, cs = [.int k m] ∧ (Lit.int k m).wf = true := by
  cases n with
  | zero => exact h.elim
  | succ n => unfold Sh at h; rw [hu] at h; exact h
theorem sh_string (hu : P.underlying t = some .string) (h : Sh P w B n t cs) : ∃ s : ByteArray, cs = [.string s] ∧ s.size ≤ maxLen := by
  cases n with
  | zero => exact h.elim
  | succ n => unfold Sh at h; rw [hu] at h; exact h
theorem sh_struct {fs : Array Field} (hu : P.underlying t = some (.struct fs)) (h : Sh P w B n t cs) : ∃ m, cs.length = P.cellsOf t ∧ ∀ (i : Nat) (f : Field), fs[i]? = some f → Sh P w B m f.type ((cs.drop f.offset).take (P.cellsOf f.type)) := by
  cases n with
  | zero => exact h.elim
  | succ n => unfold Sh at h; rw [hu] at h; exact ⟨n, h⟩
theorem sh_field {fs : Array Field} {m : Nat} (hf : ∀ (i : Nat) (f : Field), fs[i]? = some f → Sh P w B m f.type ((cs.drop f.offset).take (P.cellsOf f.type))) (i : Nat) (T : TypeId) (o k : Nat) (hi : (fs[i]?.map fun f => (f.type, f.offset)) = some (T, o)) (hk : P.cellsOf T = k) : Sh P w B m T ((cs.drop o).take k) := by
  subst hk
  rw [Option.map_eq_some_iff] at hi
  obtain ⟨f, h1, h2⟩ := hi
  simp only [Prod.mk.injEq] at h2
  have := hf i f h1
  rw [h2.1, h2.2] at this
  exact this
theorem sh_list {α : Type} {enc : α → List Value} {ok : α → Prop} {e : TypeId} {k : Nat} (hu : P.underlying t = some (.slice e)) (hk : P.cellsOf e = k) (hpos : 0 < k) (hdec : ∀ m cs, Sh P w B m e cs → ∃ x, cs = enc x ∧ ok x) (h : Sh P w B n t cs) :
    ∃ (A : Option Addr) (len cap : Nat) (l : List α), cs = [.slice A len cap] ∧ len ≤ cap ∧ cap ≤ maxLen ∧ l.length = len ∧ (∀ x ∈ l, ok x) ∧ Rd w B k A len (l.flatMap enc) := by
  subst hk
  cases n with
  | zero => exact h.elim
  | succ n =>
    unfold Sh at h
    rw [hu] at h
    obtain ⟨A, len, cap, f, rfl, h1, h2, h3, h4⟩ := h
    obtain ⟨l, hl, hf, hok⟩ := list_of_rows (enc := enc) (ok := ok) ((List.range len).map f) (fun xs hxs => by
      obtain ⟨i, hi, rfl⟩ := List.mem_map.1 hxs
      exact hdec _ _ (h3 i (List.mem_range.1 hi)).1)
    have hr := rd_of_rows hpos (fun i hi => (h3 i hi).2) (h4 hpos)
    rw [hf] at hr
    exact ⟨A, len, cap, l, rfl, h1, h2, by simpa using hl, hok, hr⟩
theorem list3 {α : Type} {cs : List α} {a b c : α} (hl : cs.length = 3) (h0 : cs[0]? = some a) (h1 : cs[1]? = some b) (h2 : cs[2]? = some c) : cs = [a, b, c] := by
  match cs, hl with
  | [x, y, z], _ =>
    simp at h0 h1 h2
    rw [h0, h1, h2]
theorem piece1 {cs : List Value} {o : Nat} {v : Value} (h : (cs.drop o).take 1 = [v]) : cs[o]? = some v := by
  have : ((cs.drop o).take 1)[0]? = some v := by rw [h]; rfl
  rw [List.getElem?_take, if_pos (by decide), List.getElem?_drop] at this
  simpa using this
end

section
variable {H : Type} {enc : TypeId × Value → H} {P : Program} {w : World}
/-- An argument by value that is a struct. -/
theorem open_sh {r : Reach} {b0 : Nat} {t : TypeId} {v : Value} {d : DataW H} {p : List MemPlace} {fs : Array Field} (hu : P.underlying t = some (.struct fs))
    (hv : Value.okWide P w r b0 t v) (h : DataW.Trod enc P w 0 (fun _ => true) true t v d p) (hlt : ∀ x ∈ p, x.block < w.heap.size) : ∃ (cs : List Value) (n : Nat), v = .agg cs.toArray ∧ Sh P w w.heap.size n t cs := by
  have hag : ∃ cs, v = .agg cs := by
    unfold Value.okWide at hv
    split at hv
    · exact ⟨_, hv.choose_spec.1⟩
    · exact ⟨_, hv.choose_spec.1⟩
    · rename_i h1 h2
      exact absurd hu (h1 _)
  obtain ⟨⟨cs⟩, rfl⟩ := hag
  obtain ⟨fuel, hf⟩ := h
  exact ⟨cs, fuel, rfl, sh_of_trod fuel t cs _ hf hlt⟩
/-- A slice. -/
theorem open_sh_slice {r : Reach} {b0 : Nat} {t e : TypeId} {v : Value} {d : DataW H} {p : List MemPlace} (ht : P.underlying t = some (.slice e))
    (hv : Value.okWide P w r b0 t v) (h : DataW.Trod enc P w 0 (fun _ => true) true t v d p) (hlt : ∀ x ∈ p, x.block < w.heap.size) : ∃ (A : Option Addr) (l c n : Nat), v = .slice A l c ∧ Sh P w w.heap.size n t [.slice A l c] := by
  obtain ⟨A0, l0, c0, rfl⟩ := okWide_slice ht hv
  obtain ⟨fuel, hf⟩ := h
  exact ⟨A0, l0, c0, fuel, rfl, sh_of_trod fuel t _ _ hf hlt⟩
end
end Go.Proofs.Ytnkpaockginooaa
