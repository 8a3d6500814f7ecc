/- Device trees: opened with the bounds of what a machine holds. -/
import Derived.Test.YtnkpaockginooaaNestR
namespace Go.Proofs.Ytnkpaockginooaa
set_option linter.unusedVariables false
open Go.RowKit Go.ChangeShapes Go.WideShapes

/-- No name, no row is longer than a machine holds. -/
def LensF : Nat → Tr → Prop
  | 0, _ => False
  | n + 1, t => t.nm.size ≤ 140737488355328 ∧ t.ps.length ≤ 140737488355328 ∧ t.ks.length ≤ 140737488355328 ∧ (∀ p ∈ t.ps, p.1.size ≤ 140737488355328 ∧ p.2.length ≤ 140737488355328) ∧ ∀ k ∈ t.ks, LensF n k
theorem LensF.mono : ∀ {n m : Nat} {t : Tr}, LensF n t → n ≤ m → LensF m t
  | 0, _, _, h, _ => h.elim
  | n + 1, 0, _, _, hm => absurd hm (by omega)
  | n + 1, m + 1, t, ⟨h1, h2, h3, h4, h5⟩, hm => ⟨h1, h2, h3, h4, fun k hk => LensF.mono (h5 k hk) (by omega)⟩
theorem shr_field {P : Program} {w : World} {B : Nat} {cs : List Value} {fs : Array Field} {m : Nat} (hf : ∀ (i : Nat) (f : Field), fs[i]? = some f → ShR P w B m f.type ((cs.drop f.offset).take (P.cellsOf f.type))) (i : Nat) (T : TypeId) (o k : Nat) (hi : (fs[i]?.map fun f => (f.type, f.offset)) = some (T, o)) (hk : P.cellsOf T = k) : ShR P w B m T ((cs.drop o).take k) := by
  subst hk
  rw [Option.map_eq_some_iff] at hi
  obtain ⟨f, h1, h2⟩ := hi
  simp only [Prod.mk.injEq] at h2
  have := hf i f h1
  rw [h2.1, h2.2] at this
  exact this
section
variable {P : Program} {w : World} {B m : Nat} {t e : TypeId} {cs : List Value}
theorem shr_string (hu : P.underlying t = some .string) {s : ByteArray} (h : ShR P w B m t [.string s]) : s.size ≤ 140737488355328 := by
  cases m with
  | zero => exact h.elim
  | succ n =>
    unfold ShR at h; rw [hu] at h
    obtain ⟨s', e, _, h2⟩ := h
    simp only [List.cons.injEq, Value.string.injEq, and_true] at e
    subst e
    unfold reachBytes at h2
    omega
theorem shr_len (hu : P.underlying t = some (.slice e)) (hpos : 0 < P.bytesOf e) {A : Option Addr} {l c : Nat} (h : ShR P w B m t [.slice A l c]) : l ≤ 140737488355328 := by
  cases m with
  | zero => exact h.elim
  | succ n =>
    unfold ShR at h; rw [hu] at h
    obtain ⟨_, _, _, _, e, _, _, h2, _⟩ := h
    simp only [List.cons.injEq, Value.slice.injEq, and_true] at e
    obtain ⟨_, rfl, _⟩ := e
    have := Nat.le_mul_of_pos_right l hpos
    unfold reachBytes at h2
    omega
theorem shr_row (hu : P.underlying t = some (.slice e)) {k : Nat} (hk : P.cellsOf e = k) (hpos : 0 < k) {A : Option Addr} {l c : Nat} {f : Nat → List Value} (h : ShR P w B (m + 1) t [.slice A l c]) (hr : RowsAt w B k A l f) (i : Nat) (hi : i < l) (hl : (f i).length = k) : ShR P w B m e (f i) := by
  subst hk
  unfold ShR at h; rw [hu] at h
  obtain ⟨_, _, _, g, e, _, _, _, h3, h4⟩ := h
  simp only [List.cons.injEq, Value.slice.injEq, and_true] at e
  obtain ⟨rfl, rfl, _⟩ := e
  obtain ⟨b, off, e1, _, hc1⟩ := hr (by omega)
  obtain ⟨b', off', e2, _, hc2⟩ := h4 hpos (by omega)
  rw [e1] at e2
  simp only [Option.some.injEq, Addr.mk.injEq, and_true] at e2
  obtain ⟨rfl, rfl⟩ := e2
  have : f i = g i := by
    apply List.ext_getElem?
    intro j
    rcases Nat.lt_or_ge j (P.cellsOf e) with hj | hj
    · rw [← hc1 i hi j hj, ← hc2 i hi j hj]
    · rw [List.getElem?_eq_none (by omega), List.getElem?_eq_none (by have := (h3 i hi).2; omega)]
  rw [this]
  exact (h3 i hi).1
end
theorem bytes_pos : 0 < Try.prog.bytesOf 5 ∧ 0 < Try.prog.bytesOf 88 ∧ 0 < Try.prog.bytesOf 25 := by
  refine ⟨?_, ?_, ?_⟩ <;> (apply of_decide_eq_true; kernel_rfl)
set_option maxRecDepth 100000 in
theorem lens_of {w : World} {B : Nat} : ∀ (n m : Nat) (t : Tr) (cs : List Value), TrOk w B n t cs → ShR Try.prog w B m 25 cs → LensF n t
  | 0, _, _, _, h, _ => h.elim
  | n + 1, 0, _, _, _, h => h.elim
  | n + 1, m + 1, t, cs, ⟨h0, A1, c1, A2, c2, f, g, hcs, h2, h3, h4, h5, h6, h7, h8, h9⟩, h => by
    subst hcs
    have hu : Try.prog.underlying 25 = some _ := Try.underlying25
    unfold ShR at h
    rw [hu] at h
    obtain ⟨_, hf⟩ := h
    have f0 : ShR Try.prog w B m 9 [.string t.nm] := shr_field hf 0 9 0 1 (by kernel_rfl) info_tree.2.2.2.2.1
    have f1 : ShR Try.prog w B m 22 [.slice A1 t.ps.length c1] := shr_field hf 1 22 1 1 (by kernel_rfl) info_tree.2.2.2.1
    have f2 : ShR Try.prog w B m 23 [.slice A2 t.ks.length c2] := shr_field hf 2 23 2 1 (by kernel_rfl) info_tree.2.2.1
    clear hf
    refine ⟨shr_string (by exact Try.underlying9) f0, shr_len (by exact Try.underlying22) bytes_pos.2.1 f1, shr_len (by exact Try.underlying23) bytes_pos.2.2 f2, fun p hp => ?_, fun k hk => ?_⟩
    · obtain ⟨i, hi, rfl⟩ := List.getElem_of_mem hp
      obtain ⟨_, _, A, c, e, _⟩ := h8 i _ (List.getElem?_eq_getElem hi)
      cases m with
      | zero => exact f1.elim
      | succ m =>
        have hr := shr_row (by exact Try.underlying22) info_tree.2.1 (by decide) f1 h6 i hi (by rw [e]; rfl)
        rw [e] at hr
        have hu : Try.prog.underlying 88 = some _ := Try.underlying88
        cases m with
        | zero => exact hr.elim
        | succ m =>
          unfold ShR at hr
          rw [hu] at hr
          obtain ⟨_, hf⟩ := hr
          have g0 : ShR Try.prog w B m 9 [.string (t.ps[i]).1] := shr_field hf 0 9 0 1 (by kernel_rfl) info_tree.2.2.2.2.1
          have g1 : ShR Try.prog w B m 28 [.slice A (t.ps[i]).2.length c] := shr_field hf 1 28 1 1 (by kernel_rfl) info_tree.2.2.2.2.2.1
          exact ⟨shr_string (by exact Try.underlying9) g0, shr_len (by exact Try.underlying28) bytes_pos.1 g1⟩
    · obtain ⟨i, hi, rfl⟩ := List.getElem_of_mem hk
      have hK := h9 i _ (List.getElem?_eq_getElem hi)
      cases m with
      | zero => exact f2.elim
      | succ m =>
        refine lens_of n m _ _ hK (shr_row (by exact Try.underlying23) info_tree.1 (by decide) f2 h7 i hi ?_)
        cases n with
        | zero => exact hK.elim
        | succ n =>
          obtain ⟨_, _, _, _, _, _, _, e, _⟩ := hK
          rw [e]
          rfl
set_option maxRecDepth 100000 in
/-- A tree that came in, with its bounds. -/
theorem open_treeR {H : Type} {enc : TypeId × Value → H} {W : World} {v : Value} {d : DataW H} {p : List MemPlace} {b0 : Nat} {r : Reach}
    (hv : Value.okWide Try.prog W r b0 25 v) (h : DataW.Trod enc Try.prog W 0 (fun _ => true) true 25 v d p) (hlt : ∀ x ∈ p, x.block < W.heap.size) (hwt : ∀ n ∈ d.weights Try.prog 25, n ≤ reachBytes) :
    ∃ (cs : List Value) (n : Nat) (t : Tr), v = .agg cs.toArray ∧ TrOk W W.heap.size n t cs ∧ LensF n t := by
  obtain ⟨cs, n, t, rfl, ht⟩ := open_tree hv h hlt
  obtain ⟨fuel, hf⟩ := h
  exact ⟨cs, n, t, rfl, ht, lens_of n fuel t cs ht (shr_of_trod fuel _ _ _ hf hlt hwt)⟩
end Go.Proofs.Ytnkpaockginooaa
