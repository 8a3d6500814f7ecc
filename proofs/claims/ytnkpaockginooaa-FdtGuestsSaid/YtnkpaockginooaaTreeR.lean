/- Arguments opened to their cells, with the bound on what a machine holds. -/
import Derived.Test.YtnkpaockginooaaTreeA
import Derived.SizedLaws
namespace Go.Proofs.Ytnkpaockginooaa
set_option linter.unusedVariables false
open Go.RowKit Go.ChangeShapes Go.WideShapes

/-- How a value of a type reads: its cells; what its slices hold lies below B. -/
def ShR (P : Program) (w : World) (B : Nat) : Nat → TypeId → List Value → Prop
  | 0, _, _ => False
  | n + 1, t, cs =>
    match P.underlying t with
    | some .bool => ∃ b, cs = [.bool b]
    | some (.int k) => ∃ m, cs = [.int k m] ∧ (Lit.int k m).wf = true
    | some .string => ∃ s : ByteArray, cs = [.string s] ∧ s.size ≤ maxLen ∧ s.size ≤ reachBytes
    | some (.struct fs) => cs.length = P.cellsOf t ∧ ∀ (i : Nat) (f : Field), fs[i]? = some f → ShR P w B n f.type ((cs.drop f.offset).take (P.cellsOf f.type))
    | some (.array m e) => cs.length = P.cellsOf t ∧ ∀ i, i < m → ShR P w B n e ((cs.drop (i * P.cellsOf e)).take (P.cellsOf e))
    | some (.slice e) => ∃ (A : Option Addr) (len cap : Nat) (f : Nat → List Value), cs = [.slice A len cap] ∧ len ≤ cap ∧ cap ≤ maxLen ∧ len * P.bytesOf e ≤ reachBytes ∧
        (∀ i, i < len → ShR P w B n e (f i) ∧ (f i).length = P.cellsOf e) ∧
        (0 < P.cellsOf e → 0 < len → ∃ b off, A = some ⟨b, off, none⟩ ∧ b < B ∧ ∀ i, i < len → ∀ j, j < P.cellsOf e → w.cell? ⟨b, off + (i * P.cellsOf e + j), none⟩ = (f i)[j]?)
    | _ => True

section
variable {H : Type} {enc : TypeId × Value → H} {P : Program} {w : World} {spare : Nat → Bool} {held : Bool} {B : Nat}

theorem mem_weightsAll {e : TypeId} {d : DataW H} {n : Nat} : ∀ {l : List (DataW H)}, d ∈ l → n ∈ d.weights P e → n ∈ DataW.weightsAll P e l
  | [], h, _ => by cases h
  | x :: l, h, hn => by
    unfold DataW.weightsAll
    rcases List.mem_cons.1 h with rfl | h
    · exact List.mem_append_left _ hn
    · exact List.mem_append_right _ (mem_weightsAll h hn)
theorem shr_of_trod : ∀ (fuel : Nat) (t : TypeId) (cs : List Value) (x : DataW H × List MemPlace), DataW.trod enc P w 0 spare held fuel t cs = some x → (∀ y ∈ x.2, y.block < B) → (∀ n ∈ x.1.weights P t, n ≤ reachBytes) → ShR P w B fuel t cs
  | 0, _, _, _, h, _, _ => by simp [DataW.trod] at h
  | fuel + 1, t, cs, x, h, hlt, hwt => by
    have ih := fun t cs x => shr_of_trod fuel t cs x
    unfold ShR
    split
    · rename_i hu
      obtain ⟨b, rfl, _⟩ := DataW.trod_bool hu h
      exact ⟨b, rfl⟩
    · rename_i k hu
      obtain ⟨m, rfl, _, hw⟩ := DataW.trod_int hu h
      exact ⟨m, rfl, hw⟩
    · rename_i hu
      obtain ⟨s, rfl, hx, hs⟩ := DataW.trod_string hu h
      subst hx
      exact ⟨s, rfl, hs, hwt _ (by simp [DataW.weights])⟩
    · rename_i fs hu
      obtain ⟨xs, m, hm, rfl, hl, hxl, hg⟩ := DataW.trod_struct hu h
      have : m = fuel := by omega
      subst this
      refine ⟨hl, fun i f hf => ?_⟩
      have hi : i < xs.length := by rw [hxl]; exact (Array.getElem?_eq_some_iff.1 hf).1
      have h1 := hg i f hf
      rw [List.getElem?_eq_getElem hi] at h1
      refine ih _ _ _ h1 (fun y hy => hlt y (List.mem_flatMap.2 ⟨_, List.getElem_mem hi, hy⟩)) fun n hn => hwt n ?_
      simp only [DataW.weights, hu]
      exact DataW.weights_mem_each (ts := fs.toList.map (·.type)) (ds := xs.map (·.1)) (j := i) (t := f.type) (d := xs[i].1) (by simp [hf]) (by simp [hi]) n hn
    · rename_i m e hu
      obtain ⟨xs, m', hm, rfl, hl, hxl, hg⟩ := DataW.trod_array hu h
      have : m' = fuel := by omega
      subst this
      refine ⟨hl, fun i hi => ?_⟩
      have hi' : i < xs.length := by omega
      have h1 := hg i hi
      rw [List.getElem?_eq_getElem hi'] at h1
      refine ih _ _ _ h1 (fun y hy => hlt y (List.mem_flatMap.2 ⟨_, List.getElem_mem hi', hy⟩)) fun n hn => hwt n ?_
      simp only [DataW.weights, hu]
      exact mem_weightsAll (List.mem_map.2 ⟨_, List.getElem_mem hi', rfl⟩) hn
    · rename_i e hu
      rcases DataW.trod_slice hu h with ⟨hcs, _⟩ | ⟨a, len, cap, elems, rest, n, hn, rfl, rfl, _, hl, hm, hlen, hel, _, _⟩
      · exact ⟨none, 0, 0, fun _ => [], hcs, Nat.le_refl _, by simp [maxLen], by simp, fun i hi => absurd hi (by omega), fun _ hi => absurd hi (by omega)⟩
      · have : n = fuel := by omega
        subst this
        have hel' : ∀ i, i < len → ∃ cs', w.cells? 0 (a.add (i * P.cellsOf e)) (P.cellsOf e) = some cs' ∧ ShR P w B n e cs' := fun i hi => by
          have h1 := hel i hi
          have hi' : i < elems.length := by omega
          rw [List.getElem?_eq_getElem hi', Option.bind_eq_some_iff] at h1
          obtain ⟨cs', h2, h3⟩ := h1
          refine ⟨cs', h2, ih _ _ _ h3 (fun y hy => hlt y (List.mem_append_right _ (List.mem_flatMap.2 ⟨_, List.mem_append_left _ (List.getElem_mem hi'), hy⟩))) fun n hn => hwt n ?_⟩
          simp only [DataW.weights, hu]
          exact List.mem_cons_of_mem _ (List.mem_append_left _ (mem_weightsAll (List.mem_map.2 ⟨_, List.getElem_mem hi', rfl⟩) hn))
        obtain ⟨f, hf⟩ := Go.Deep.choose_lt (α := List Value) hel'
        have hsz : len * P.bytesOf e ≤ reachBytes := by
          have h1 := hwt (((elems.map (·.1)).length + (rest.map (·.1)).length) * P.bytesOf e) (by simp only [DataW.weights, hu]; exact List.mem_cons_self ..)
          refine Nat.le_trans (Nat.mul_le_mul_right _ ?_) h1
          simp
          omega
        refine ⟨some a, len, cap, f, rfl, hl, hm, hsz, fun i hi => ⟨(hf i hi).2, (World.cells?_some (hf i hi).1).2.1⟩, fun hp hpos => ?_⟩
        obtain ⟨hs, hcell⟩ := cells_of_add hp hpos (fun i hi => (hf i hi).1)
        obtain ⟨b, off, sp⟩ := a
        simp only at hs
        subst hs
        refine ⟨b, off, rfl, ?_, hcell⟩
        have hin : MemPlace.cell b off ∈ MemPlace.row ⟨b, off, none⟩ ((elems.length + rest.length) * P.cellsOf e) := by
          unfold MemPlace.row
          exact List.mem_map.2 ⟨0, List.mem_range.2 (Nat.mul_pos (by omega) hp), by simp⟩
        exact hlt _ (List.mem_append_left _ hin)
    · trivial
end
end Go.Proofs.Ytnkpaockginooaa
namespace Go.Proofs.Ytnkpaockginooaa
set_option linter.unusedVariables false
open Go.RowKit Go.ChangeShapes Go.WideShapes

/-- No name, no row is longer than a machine holds. -/
def LensF : Nat → Tr → Prop
  | 0, _ => False
  | n + 1, t => t.nm.size ≤ 140737488355328 ∧ t.ps.length ≤ 140737488355328 ∧ t.ks.length ≤ 140737488355328 ∧ (∀ p ∈ t.ps, p.1.size ≤ 140737488355328 ∧ p.2.length ≤ 140737488355328) ∧ ∀ k ∈ t.ks, LensF n k
theorem LensF.mono : ∀ {n m : Nat} {t : Tr}, LensF n t → n ≤ m → LensF m t
  | 0, _, _, h, _ => h.elim
  | n + 1, 0, _, _, hm => absurd hm (by omega)
  | n + 1, m + 1, t, ⟨h1, h2, h3, h4, h5⟩, hm => ⟨h1, h2, h3, h4, fun k hk => LensF.mono (h5 k hk) (by omega)⟩
theorem shr_field {P : Program} {w : World} {B : Nat} {cs : List Value} {fs : Array Field} {m : Nat} (hf : ∀ (i : Nat) (f : Field), fs[i]? = some f → ShR P w B m f.type ((cs.drop f.offset).take (P.cellsOf f.type))) (i : Nat) (T : TypeId) (o k : Nat) (hi : (fs[i]?.map fun f => (f.type, f.offset)) = some (T, o)) (hk : P.cellsOf T = k) : ShR P w B m T ((cs.drop o).take k) := by
  subst hk
  rw [Option.map_eq_some_iff] at hi
  obtain ⟨f, h1, h2⟩ := hi
  simp only [Prod.mk.injEq] at h2
  have := hf i f h1
  rw [h2.1, h2.2] at this
  exact this
section
variable {P : Program} {w : World} {B m : Nat} {t e : TypeId} {cs : List Value}
theorem shr_string (hu : P.underlying t = some .string) {s : ByteArray} (h : ShR P w B m t [.string s]) : s.size ≤ 140737488355328 := by
  cases m with
  | zero => exact h.elim
  | succ n =>
    unfold ShR at h; rw [hu] at h
    obtain ⟨s', e, _, h2⟩ := h
    simp only [List.cons.injEq, Value.string.injEq, and_true] at e
    subst e
    unfold reachBytes at h2
    omega
theorem shr_len (hu : P.underlying t = some (.slice e)) (hpos : 0 < P.bytesOf e) {A : Option Addr} {l c : Nat} (h : ShR P w B m t [.slice A l c]) : l ≤ 140737488355328 := by
  cases m with
  | zero => exact h.elim
  | succ n =>
    unfold ShR at h; rw [hu] at h
    obtain ⟨_, _, _, _, e, _, _, h2, _⟩ := h
    simp only [List.cons.injEq, Value.slice.injEq, and_true] at e
    obtain ⟨_, rfl, _⟩ := e
    have := Nat.le_mul_of_pos_right l hpos
    unfold reachBytes at h2
    omega
theorem shr_row (hu : P.underlying t = some (.slice e)) {k : Nat} (hk : P.cellsOf e = k) (hpos : 0 < k) {A : Option Addr} {l c : Nat} {f : Nat → List Value} (h : ShR P w B (m + 1) t [.slice A l c]) (hr : RowsAt w B k A l f) (i : Nat) (hi : i < l) (hl : (f i).length = k) : ShR P w B m e (f i) := by
  subst hk
  unfold ShR at h; rw [hu] at h
  obtain ⟨_, _, _, g, e, _, _, _, h3, h4⟩ := h
  simp only [List.cons.injEq, Value.slice.injEq, and_true] at e
  obtain ⟨rfl, rfl, _⟩ := e
  obtain ⟨b, off, e1, _, hc1⟩ := hr (by omega)
  obtain ⟨b', off', e2, _, hc2⟩ := h4 hpos (by omega)
  rw [e1] at e2
  simp only [Option.some.injEq, Addr.mk.injEq, and_true] at e2
  obtain ⟨rfl, rfl⟩ := e2
  have : f i = g i := by
    apply List.ext_getElem?
    intro j
    rcases Nat.lt_or_ge j (P.cellsOf e) with hj | hj
    · rw [← hc1 i hi j hj, ← hc2 i hi j hj]
    · rw [List.getElem?_eq_none (by omega), List.getElem?_eq_none (by have := (h3 i hi).2; omega)]
  rw [this]
  exact (h3 i hi).1
end
theorem bytes_pos : 0 < Try.prog.bytesOf 5 ∧ 0 < Try.prog.bytesOf 88 ∧ 0 < Try.prog.bytesOf 25 := by
  refine ⟨?_, ?_, ?_⟩ <;> (apply of_decide_eq_true; kernel_rfl)
set_option maxRecDepth 100000 in
theorem lens_of {w : World} {B : Nat} : ∀ (n m : Nat) (t : Tr) (cs : List Value), TrOk w B n t cs → ShR Try.prog w B m 25 cs → LensF n t
  | 0, _, _, _, h, _ => h.elim
  | n + 1, 0, _, _, _, h => h.elim
  | n + 1, m + 1, t, cs, ⟨h0, A1, c1, A2, c2, f, g, hcs, h2, h3, h4, h5, h6, h7, h8, h9⟩, h => by
    subst hcs
    have hu : Try.prog.underlying 25 = some _ := Try.underlying25
    unfold ShR at h
    rw [hu] at h
    obtain ⟨_, hf⟩ := h
    have f0 : ShR Try.prog w B m 9 [.string t.nm] := shr_field hf 0 9 0 1 (by kernel_rfl) info_tree.2.2.2.2.1
    have f1 : ShR Try.prog w B m 22 [.slice A1 t.ps.length c1] := shr_field hf 1 22 1 1 (by kernel_rfl) info_tree.2.2.2.1
    have f2 : ShR Try.prog w B m 23 [.slice A2 t.ks.length c2] := shr_field hf 2 23 2 1 (by kernel_rfl) info_tree.2.2.1
    clear hf
    refine ⟨shr_string (by exact Try.underlying9) f0, shr_len (by exact Try.underlying22) bytes_pos.2.1 f1, shr_len (by exact Try.underlying23) bytes_pos.2.2 f2, fun p hp => ?_, fun k hk => ?_⟩
    · obtain ⟨i, hi, rfl⟩ := List.getElem_of_mem hp
      obtain ⟨_, _, A, c, e, _⟩ := h8 i _ (List.getElem?_eq_getElem hi)
      cases m with
      | zero => exact f1.elim
      | succ m =>
        have hr := shr_row (by exact Try.underlying22) info_tree.2.1 (by decide) f1 h6 i hi (by rw [e]; rfl)
        rw [e] at hr
        have hu : Try.prog.underlying 88 = some _ := Try.underlying88
        cases m with
        | zero => exact hr.elim
        | succ m =>
          unfold ShR at hr
          rw [hu] at hr
          obtain ⟨_, hf⟩ := hr
          have g0 : ShR Try.prog w B m 9 [.string (t.ps[i]).1] := shr_field hf 0 9 0 1 (by kernel_rfl) info_tree.2.2.2.2.1
          have g1 : ShR Try.prog w B m 28 [.slice A (t.ps[i]).2.length c] := shr_field hf 1 28 1 1 (by kernel_rfl) info_tree.2.2.2.2.2.1
          exact ⟨shr_string (by exact Try.underlying9) g0, shr_len (by exact Try.underlying28) bytes_pos.1 g1⟩
    · obtain ⟨i, hi, rfl⟩ := List.getElem_of_mem hk
      have hK := h9 i _ (List.getElem?_eq_getElem hi)
      cases m with
      | zero => exact f2.elim
      | succ m =>
        refine lens_of n m _ _ hK (shr_row (by exact Try.underlying23) info_tree.1 (by decide) f2 h7 i hi ?_)
        cases n with
        | zero => exact hK.elim
        | succ n =>
          obtain ⟨_, _, _, _, _, _, _, e, _⟩ := hK
          rw [e]
          rfl
set_option maxRecDepth 100000 in
/-- A tree that came in, with its bounds. -/
theorem open_treeR {H : Type} {enc : TypeId × Value → H} {W : World} {v : Value} {d : DataW H} {p : List MemPlace} {b0 : Nat} {r : Reach}
    (hv : Value.okWide Try.prog W r b0 25 v) (h : DataW.Trod enc Try.prog W 0 (fun _ => true) true 25 v d p) (hlt : ∀ x ∈ p, x.block < W.heap.size) (hwt : ∀ n ∈ d.weights Try.prog 25, n ≤ reachBytes) :
    ∃ (cs : List Value) (n : Nat) (t : Tr), v = .agg cs.toArray ∧ TrOk W W.heap.size n t cs ∧ LensF n t := by
  obtain ⟨cs, n, t, rfl, ht⟩ := open_tree hv h hlt
  obtain ⟨fuel, hf⟩ := h
  exact ⟨cs, n, t, rfl, ht, lens_of n fuel t cs ht (shr_of_trod fuel _ _ _ hf hlt hwt)⟩
end Go.Proofs.Ytnkpaockginooaa
