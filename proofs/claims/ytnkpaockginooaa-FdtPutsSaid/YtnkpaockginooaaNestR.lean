/- Arguments opened to their cells, with the bound on what a machine holds. -/
import Derived.Test.YtnkpaockginooaaTreeA
import Derived.SizedLaws
namespace Go.Proofs.Ytnkpaockginooaa
set_option linter.unusedVariables false
open Go.RowKit Go.ChangeShapes Go.WideShapes

/-- How a value of a type reads: its cells; what its slices hold lies below B. -/
def ShR (P : Program) (w : World) (B : Nat) : Nat → TypeId → List Value → Prop
  | 0, _, _ => False
  | n + 1, t, cs =>
    match P.underlying t with
    | some .bool => ∃ b, cs = [.bool b]
    | some (.int k) => ∃ m, cs = [.int k m] ∧ (Lit.int k m).wf = true
    | some .string => ∃ s : ByteArray, cs = [.string s] ∧ s.size ≤ maxLen ∧ s.size ≤ reachBytes
    | some (.struct fs) => cs.length = P.cellsOf t ∧ ∀ (i : Nat) (f : Field), fs[i]? = some f → ShR P w B n f.type ((cs.drop f.offset).take (P.cellsOf f.type))
    | some (.array m e) => cs.length = P.cellsOf t ∧ ∀ i, i < m → ShR P w B n e ((cs.drop (i * P.cellsOf e)).take (P.cellsOf e))
    | some (.slice e) => ∃ (A : Option Addr) (len cap : Nat) (f : Nat → List Value), cs = [.slice A len cap] ∧ len ≤ cap ∧ cap ≤ maxLen ∧ len * P.bytesOf e ≤ reachBytes ∧
        (∀ i, i < len → ShR P w B n e (f i) ∧ (f i).length = P.cellsOf e) ∧
        (0 < P.cellsOf e → 0 < len → ∃ b off, A = some ⟨b, off, none⟩ ∧ b < B ∧ ∀ i, i < len → ∀ j, j < P.cellsOf e → w.cell? ⟨b, off + (i * P.cellsOf e + j), none⟩ = (f i)[j]?)
    | _ => True

section
variable {H : Type} {enc : TypeId × Value → H} {P : Program} {w : World} {spare : Nat → Bool} {held : Bool} {B : Nat}

theorem mem_weightsAll {e : TypeId} {d : DataW H} {n : Nat} : ∀ {l : List (DataW H)}, d ∈ l → n ∈ d.weights P e → n ∈ DataW.weightsAll P e l
  | [], h, _ => by cases h
  | x :: l, h, hn => by
    unfold DataW.weightsAll
    rcases List.mem_cons.1 h with rfl | h
    · exact List.mem_append_left _ hn
    · exact List.mem_append_right _ (mem_weightsAll h hn)
theorem shr_of_trod : ∀ (fuel : Nat) (t : TypeId) (cs : List Value) (x : DataW H × List MemPlace), DataW.trod enc P w 0 spare held fuel t cs = some x → (∀ y ∈ x.2, y.block < B) → (∀ n ∈ x.1.weights P t, n ≤ reachBytes) → ShR P w B fuel t cs
  | 0, _, _, _, h, _, _ => by simp [DataW.trod] at h
  | fuel + 1, t, cs, x, h, hlt, hwt => by
    have ih := fun t cs x => shr_of_trod fuel t cs x
    unfold ShR
    split
    · rename_i hu
      obtain ⟨b, rfl, _⟩ := DataW.trod_bool hu h
      exact ⟨b, rfl⟩
    · rename_i k hu
      obtain ⟨m, rfl, _, hw⟩ := DataW.trod_int hu h
      exact ⟨m, rfl, hw⟩
    · rename_i hu
      obtain ⟨s, rfl, hx, hs⟩ := DataW.trod_string hu h
      subst hx
      exact ⟨s, rfl, hs, hwt _ (by simp [DataW.weights])⟩
    · rename_i fs hu
      obtain ⟨xs, m, hm, rfl, hl, hxl, hg⟩ := DataW.trod_struct hu h
      have : m = fuel := by omega
      subst this
      refine ⟨hl, fun i f hf => ?_⟩
      have hi : i < xs.length := by rw [hxl]; exact (Array.getElem?_eq_some_iff.1 hf).1
      have h1 := hg i f hf
      rw [List.getElem?_eq_getElem hi] at h1
      refine ih _ _ _ h1 (fun y hy => hlt y (List.mem_flatMap.2 ⟨_, List.getElem_mem hi, hy⟩)) fun n hn => hwt n ?_
      simp only [DataW.weights, hu]
      exact DataW.weights_mem_each (ts := fs.toList.map (·.type)) (ds := xs.map (·.1)) (j := i) (t := f.type) (d := xs[i].1) (by simp [hf]) (by simp [hi]) n hn
    · rename_i m e hu
      obtain ⟨xs, m', hm, rfl, hl, hxl, hg⟩ := DataW.trod_array hu h
      have : m' = fuel := by omega
      subst this
      refine ⟨hl, fun i hi => ?_⟩
      have hi' : i < xs.length := by omega
      have h1 := hg i hi
      rw [List.getElem?_eq_getElem hi'] at h1
      refine ih _ _ _ h1 (fun y hy => hlt y (List.mem_flatMap.2 ⟨_, List.getElem_mem hi', hy⟩)) fun n hn => hwt n ?_
      simp only [DataW.weights, hu]
      exact mem_weightsAll (List.mem_map.2 ⟨_, List.getElem_mem hi', rfl⟩) hn
    · rename_i e hu
      rcases DataW.trod_slice hu h with ⟨hcs, _⟩ | ⟨a, len, cap, elems, rest, n, hn, rfl, rfl, _, hl, hm, hlen, hel, _, _⟩
      · exact ⟨none, 0, 0, fun _ => [], hcs, Nat.le_refl _, by simp [maxLen], by simp, fun i hi => absurd hi (by omega), fun _ hi => absurd hi (by omega)⟩
      · have : n = fuel := by omega
        subst this
        have hel' : ∀ i, i < len → ∃ cs', w.cells? 0 (a.add (i * P.cellsOf e)) (P.cellsOf e) = some cs' ∧ ShR P w B n e cs' := fun i hi => by
          have h1 := hel i hi
          have hi' : i < elems.length := by omega
          rw [List.getElem?_eq_getElem hi', Option.bind_eq_some_iff] at h1
          obtain ⟨cs', h2, h3⟩ := h1
          refine ⟨cs', h2, ih _ _ _ h3 (fun y hy => hlt y (List.mem_append_right _ (List.mem_flatMap.2 ⟨_, List.mem_append_left _ (List.getElem_mem hi'), hy⟩))) fun n hn => hwt n ?_⟩
          simp only [DataW.weights, hu]
          exact List.mem_cons_of_mem _ (List.mem_append_left _ (mem_weightsAll (List.mem_map.2 ⟨_, List.getElem_mem hi', rfl⟩) hn))
        obtain ⟨f, hf⟩ := Go.Deep.choose_lt (α := List Value) hel'
        have hsz : len * P.bytesOf e ≤ reachBytes := by
          have h1 := hwt (((elems.map (·.1)).length + (rest.map (·.1)).length) * P.bytesOf e) (by simp only [DataW.weights, hu]; exact List.mem_cons_self ..)
          refine Nat.le_trans (Nat.mul_le_mul_right _ ?_) h1
          simp
          omega
        refine ⟨some a, len, cap, f, rfl, hl, hm, hsz, fun i hi => ⟨(hf i hi).2, (World.cells?_some (hf i hi).1).2.1⟩, fun hp hpos => ?_⟩
        obtain ⟨hs, hcell⟩ := cells_of_add hp hpos (fun i hi => (hf i hi).1)
        obtain ⟨b, off, sp⟩ := a
        simp only at hs
        subst hs
        refine ⟨b, off, rfl, ?_, hcell⟩
        have hin : MemPlace.cell b off ∈ MemPlace.row ⟨b, off, none⟩ ((elems.length + rest.length) * P.cellsOf e) := by
          unfold MemPlace.row
          exact List.mem_map.2 ⟨0, List.mem_range.2 (Nat.mul_pos (by omega) hp), by simp⟩
        exact hlt _ (List.mem_append_left _ hin)
    · trivial
end
end Go.Proofs.Ytnkpaockginooaa
