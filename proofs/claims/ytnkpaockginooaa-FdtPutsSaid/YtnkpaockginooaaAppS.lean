/- A string as bytes, and one byte behind it. -/
import Derived.Test.YtnkpaockginooaaBytes
import Derived.Test.YtnkpaockginooaaNear
import Derived.Lib.ConvBytes
import Derived.Lib.AppendZeros
namespace Go.Proofs.Ytnkpaockginooaa
set_option linter.unusedVariables false
set_option linter.unusedSimpArgs false
open Go.RowKit

/-- A text's bytes. -/
def strB (s : ByteArray) : List Int := s.data.toList.map fun b => (b.toNat : Int)
theorem strB_len (s : ByteArray) : (strB s).length = s.size := by simp [strB]
theorem strB_ok (s : ByteArray) : BytesOk (strB s) := by
  intro x hx
  obtain ⟨b, _, rfl⟩ := List.mem_map.1 hx
  have := b.toNat_lt
  omega
theorem flatB_map (l : List Int) : l.flatMap encB = l.map (Value.int .u8) := by
  induction l with
  | nil => rfl
  | cons x l ih => simp [encB, ih]
/-- A row that is one string's bytes, and room. -/
def StrRow (w : World) (base g cap n : Nat) (bs : List Int) : Prop :=
  ∃ cur fz, w.heap[g]? = some (.cells cur 5 fz) ∧ cur.size ≤ fz.1 ∧ cur.size = cap ∧ n ≤ cap ∧ cap ≤ maxLen ∧ bs.length = n ∧ cur.toList.take n = bs.flatMap encB ∧ base ≤ g
theorem StrRow.kept {w w' : World} {base g cap n : Nat} {bs : List Int} (h : StrRow w base g cap n bs) (e : w'.heap[g]? = w.heap[g]?) : StrRow w' base g cap n bs := by
  obtain ⟨cur, fz, h1, h2⟩ := h
  exact ⟨cur, fz, e.trans h1, h2⟩
theorem conv_row (w : World) (s : ByteArray) (hs : s.size ≤ maxLen) : (convert 9 28 (.string s)).run Try.prog w = .ok (.slice (some ⟨w.heap.size, 0, none⟩) s.size (grownCap w s.size 0 5)) (Lib.bytesWorld w 5 s) ∧
    StrRow (Lib.bytesWorld w 5 s) w.heap.size w.heap.size (grownCap w s.size 0 5) s.size (strB s) ∧ Below w.heap.size w (Lib.bytesWorld w 5 s) := by
  have hge := grownCap_ge w s.size 0 5
  have hle := grownCap_le_maxLen w s.size 0 5 hs
  have hsz : (Lib.bytesCells w 5 s).size = grownCap w s.size 0 5 := by
    have : s.data.size = s.size := rfl
    simp [Lib.bytesCells, this]
    omega
  refine ⟨Lib.run_convert_string_bytes w 9 28 5 s Try.underlying9 Try.underlying28 Try.underlying5, ⟨_, _, Lib.bytesWorld_at_new w 5 s, ?_, hsz, hge, hle, strB_len s, ?_, Nat.le_refl _⟩, ⟨rfl, rfl, rfl, ?_, fun j hj => Lib.bytesWorld_at_old w 5 s j hj⟩⟩
  · simp
  · have hd : s.data.toList.length = s.size := rfl
    rw [flatB_map]
    simp only [Lib.bytesCells, strB, Array.toList_append, Array.toList_map, List.map_map]
    rw [List.take_left' (by simp [hd])]
    rfl
  · rw [Lib.bytesWorld_size]; omega
theorem run_app0 (w : World) (ty : TypeId) (base g cap n c : Nat) (a : Addr) (bs : List Int) (x : Int) (h : StrRow w base g cap n bs) (hsrc : w.cell? a = some (.int .u8 x)) (hn : n ≤ 50000000) (hbase : base ≤ w.heap.size) :
    ∃ A' c' w', (Builtin.append_ #[28, 28] ty #[.slice (some ⟨g, 0, none⟩) n cap, .slice (some a) 1 c]).run Try.prog w = .ok (.slice A' (n + 1) c') w' ∧ n + 1 ≤ c' ∧ c' ≤ maxLen ∧ Rd w' w'.heap.size 1 A' (n + 1) ((bs ++ [x]).flatMap encB) ∧ Below base w w' ∧ ∃ b o cs fz, A' = some ⟨b, o, none⟩ ∧ w'.heap[b]? = some (.cells cs 5 fz) := by
  obtain ⟨cur, fz, hg, hfz, hcs, hnc, hcm, hbl, htake, hbg⟩ := h
  obtain ⟨i, hi, hz, hs, hb⟩ := info_parts info_u8
  have ht := Try.underlying28
  have hgl := (Array.getElem?_eq_some_iff.1 hg).1
  have hf := run_firstCells_some (P := Try.prog) w i.size 1 a 1 c [.int .u8 x] (by rw [hs]; rfl) (fun j u hj => by
    cases j with
    | zero => simp at hj; subst hj; simpa [Addr.add] using hsrc
    | succ j => simp at hj)
  have hread : ∀ j u, (bs.flatMap encB)[j]? = some u → cur[j]? = some u := fun j u hj => by
    have hjl : j < n := by
      have := (List.getElem?_eq_some_iff.1 hj).1
      rwa [flatB_len, hbl] at this
    rw [← htake, List.getElem?_take, if_pos hjl] at hj
    simpa using hj
  by_cases hroom : n + 1 ≤ cap
  · have hfr : w.frozen? ⟨g, n, none⟩ = false := by
      simp [World.frozen?, hg]
      omega
    have hcell : w.cell? ⟨g, n, none⟩ = some (cur[n]'(by omega)) := by simp [World.cell?, hg, show n < cur.size by omega]
    have hadd : ((⟨g, 0, none⟩ : Addr).add n).add 0 = ⟨g, n, none⟩ := by cases n <;> simp [Addr.add]
    have hst : (storeCells ((⟨g, 0, none⟩ : Addr).add n) [.int .u8 x]).run Try.prog w = .ok () (w.setCell ⟨g, n, none⟩ (.int .u8 x)) := by
      simp only [storeCells, hadd, Sem.run_bind]
      rw [run_store Try.prog w _ (.int .u8 x) _ rfl, hcell]
      simp [hfr]
    refine ⟨some ⟨g, 0, none⟩, cap, w.setCell ⟨g, n, none⟩ (.int .u8 x), ?_, hroom, hcm, ?_, (Below.refl base w).setCell (p := ⟨g, n, none⟩) hbg _, g, 0, cur.setIfInBounds n (.int .u8 x), fz, rfl, by rw [setCell_eq_setRow w g n cur 5 fz _ hg]; exact setRow_heap w g cur _ 5 fz hg⟩
    · rw [hs] at hf
      simp [Builtin.append_, run_underlying ht, sizeOf, typeInfo, hi, Builtin.lenOf, hroom, hf, hs, hst]
    · have hcells : (w.setCell ⟨g, n, none⟩ (.int .u8 x)).heap[g]? = some (.cells (cur.setIfInBounds n (.int .u8 x)) 5 fz) := by
        rw [setCell_eq_setRow w g n cur 5 fz _ hg]
        exact setRow_heap w g cur _ 5 fz hg
      refine ⟨by rw [flatB_len]; simp [hbl], fun _ => ⟨g, 0, rfl, by simpa using hgl, fun j u hj => ?_⟩⟩
      rw [Nat.zero_add]
      unfold World.cell?
      simp only [hcells]
      rw [Array.getElem?_setIfInBounds]
      rw [List.flatMap_append] at hj
      by_cases hjn : j = n
      · rw [hjn] at hj ⊢
        rw [List.getElem?_append_right (by rw [flatB_len, hbl]; exact Nat.le_refl _), flatB_len, hbl] at hj
        simp [encB] at hj
        simp [show n < cur.size by omega, hj]
      · have hne : ¬ n = j := fun e => hjn e.symm
        simp only [hne, if_false]
        have hjl : j < n := by
          have := (List.getElem?_eq_some_iff.1 hj).1
          rw [List.length_append, flatB_len, hbl] at this
          simp [encB] at this
          omega
        rw [List.getElem?_append_left (by rw [flatB_len, hbl]; exact hjl)] at hj
        exact hread j u hj
  · have hnoroom : cap < n + 1 := by omega
    have holds : ∀ j u, (bs.flatMap encB)[j]? = some u → w.cell? ((⟨g, 0, none⟩ : Addr).add j) = some u := fun j u hj => by
      rw [show ((⟨g, 0, none⟩ : Addr).add j) = ⟨g, j, none⟩ by cases j <;> simp [Addr.add]]
      simp only [World.cell?, hg]
      exact hread j u hj
    have hr := run_append_grow (P := Try.prog) w 28 ty 5 i _ ht hi hz ⟨g, 0, none⟩ n cap (bs.flatMap encB) (by rw [hs, flatB_len, hbl]; omega) holds a 1 c [.int .u8 x] (by rw [hs]; rfl) (fun j u hj => by
      cases j with
      | zero => simp at hj; subst hj; simpa [Addr.add] using hsrc
      | succ j => simp at hj) (by omega) (by omega) (growslice_fits (by omega) (by rw [hb]; omega))
    refine ⟨_, _, _, hr, grownCap_ge _ _ _ _, grownCap_le_maxLen _ _ _ _ (by unfold maxLen; omega), ?_, ?_, _, _, _, _, rfl, heap_alloc_new w.drew _⟩
    · refine ⟨by rw [flatB_len]; simp [hbl], fun _ => ⟨w.heap.size, 0, rfl, by simp, fun j u hj => ?_⟩⟩
      have hnew := heap_alloc_new w.drew (.cells ((bs.flatMap encB).toArray ++ [Value.int .u8 x].toArray ++ Builtin.zeroCells (Value.int .u8 0).cells (grownCap w (n + 1) cap 5 - (n + 1))) 5)
      rw [Nat.zero_add]
      unfold World.cell?
      rw [show (w.drew.heap.size) = w.heap.size from rfl] at hnew
      simp only [hnew]
      have hjl : j < (bs.flatMap encB).length + 1 := by
        have := (List.getElem?_eq_some_iff.1 hj).1
        simpa [encB] using this
      rw [List.flatMap_append] at hj
      rw [Array.getElem?_append_left (by simp; simpa using hjl)]
      simpa [encB] using hj
    · exact bal' (Below.refl _ _).drew _ (by simpa using hbase)
end Go.Proofs.Ytnkpaockginooaa
