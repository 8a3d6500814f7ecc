/- Chapter 14: names; the program's and the document's; walked. -/
import Derived.Test.YtmhbpfclfffgkaaConfG
import Derived.Test.YtmhbpfclfffgkaaAppL
namespace Go.Proofs.Ytmhbpfclfffgkaa
set_option linter.unusedVariables false
set_option linter.unusedSimpArgs false
open Go.RowKit Go.Sort

/-- A sign of a name; a name. -/
def nchr (c : Int) : Bool := ((decide (97 ≤ c) && decide (c ≤ 122)) || (decide (48 ≤ c) && decide (c ≤ 57))) || decide (c = 45)
def nameN (l : List Int) : Bool := (l.all nchr && decide (1 ≤ l.length)) && decide (l.length ≤ 16)
theorem getD_lt {l : List Int} {j : Nat} (h : j < l.length) : l.getD j 0 ∈ l := by
  rw [List.getD_eq_getElem?_getD, List.getElem?_eq_getElem h]
  exact List.getElem_mem _
theorem all_getD {p : Int → Bool} {l : List Int} : l.all p = true ↔ ∀ j, j < l.length → p (l.getD j 0) = true := by
  rw [List.all_eq_true]
  constructor
  · exact fun h j hj => h _ (getD_lt hj)
  · intro h x hx
    obtain ⟨j, hj, rfl⟩ := List.getElem_of_mem hx
    have := h j hj
    rwa [List.getD_eq_getElem?_getD, List.getElem?_eq_getElem hj] at this
theorem nchr_cases (c : Int) : (nchr c = true ∧ (97 ≤ c ∧ c ≤ 122)) ∨ (nchr c = true ∧ (48 ≤ c ∧ c ≤ 57)) ∨ (nchr c = true ∧ c = 45) ∨ (nchr c = false ∧ c < 48 ∧ c ≠ 45) ∨ (nchr c = false ∧ 58 ≤ c ∧ c ≤ 96) ∨ (nchr c = false ∧ 123 ≤ c) := by
  unfold nchr
  rw [← Bool.not_eq_true]
  simp
  omega
theorem name_bad {l : List Int} {j : Nat} (hj : j < l.length) (h : nchr (l.getD j 0) = false) : nameN l = false := by
  unfold nameN
  have : l.all nchr = false := by
    rw [← Bool.not_eq_true, all_getD]
    intro h'
    rw [h' j hj] at h
    cases h
  rw [this]; rfl
theorem name_end {l : List Int} (h : ∀ j, j < l.length → nchr (l.getD j 0) = true) : nameN l = (decide (1 ≤ l.length) && decide (l.length ≤ 16)) := by
  unfold nameN
  rw [all_getD.2 h, Bool.true_and]
/-- The bytes of a text, in memory. -/
theorem str_cells {w W : World} {s : ByteArray} {base g cap : Nat} (h : StrRow w base g cap s.size (strB s)) (hW : Below w.heap.size w W) (j : Nat) (hj : j < s.size) : W.cell? ⟨g, j, none⟩ = some (.int .u8 ((strB s).getD j 0)) := by
  obtain ⟨cur, fz, r1, r2, r3, r4, r5, r6, r7, r8⟩ := h
  have hlt : g < w.heap.size := (Array.getElem?_eq_some_iff.1 r1).1
  rw [cell_of_row W g j cur 5 fz ((hW.block _ hlt).trans r1)]
  have h1 : cur.toList[j]? = ((strB s).flatMap encB)[j]? := by rw [← r7, List.getElem?_take, if_pos hj]
  rw [← Array.getElem?_toList, h1]
  have h2 := flatMap_get (enc := encB) (s := 1) (fun _ => rfl) (strB s) j 0 (by omega) (by rw [strB_len]; exact hj)
  rw [Nat.mul_one, Nat.add_zero] at h2
  rw [h2]
  simp [encB, List.getD_eq_getElem?_getD, show j < (strB s).length by rw [strB_len]; exact hj]
theorem ba_empty (s : ByteArray) : s.toList.isEmpty = decide (s.size = 0) := by
  rw [ByteArray.toList_eq, Bool.eq_iff_iff, List.isEmpty_iff, decide_eq_true_eq, ← List.length_eq_zero_iff]
  simp
theorem strB_at (s : ByteArray) (j : Nat) (h : j < s.size) : (strB s).getD j 0 = (s[j].toNat : Int) := by
  unfold strB
  rw [List.getD_eq_getElem?_getD, List.getElem?_map, Array.getElem?_toList, Array.getElem?_eq_getElem (by simpa using h)]
  rfl
set_option maxRecDepth 100000 in
set_option maxHeartbeats 2000000 in
theorem name_any (s : ByteArray) (w : World) (hs : s.size ≤ 1000000000) : Calls Try.prog 18 #[.string s] w fun e w' => e = .returned (.bool (nameN (strB s))) ∧ Below w.heap.size w w' := by
  obtain ⟨hcv, hrow, hb1⟩ := conv_row w s (by unfold maxLen; omega)
  obtain ⟨rr, hrr⟩ : ∃ b, nameN (strB s) = b := ⟨_, rfl⟩
  rw [hrr]
  have HRR := Lib.hid hrr
  have HC := Lib.hid (fun W hW => str_cells (W := W) hrow hW)
  clear hrr hrow
  go_enter Try.func18, Try.ntmps18
  generalize Lib.bytesWorld w 5 s = w1 at *
  go_wp2_with fail
  go_loopw [8] (fun i wr => ∃ j : Nat, j ≤ s.size ∧ i = .int .i64 j ∧ Hid (∀ i, i < j → nchr ((strB s).getD i 0) = true) ∧ wr = w1) (fun i _ => s.size - (intOf i).toNat)
  case atStart => exact ⟨0, by omega, rfl, fun i hi => absurd hi (by omega), rfl⟩
  case round =>
    obtain ⟨j, hj, rfl, hq, rfl⟩ := hrel
    by_cases hlt : j < s.size
    · have d0 := HC.out wr (Below.refl _ _) j hlt
      obtain ⟨c, hc⟩ : ∃ c, (strB s).getD j 0 = c := ⟨_, rfl⟩
      rw [hc] at d0
      have HSt : Hid (nchr c = true → Hid (∀ i, i < j + 1 → nchr ((strB s).getD i 0) = true)) := Lib.hid (fun h => Lib.hid (fun i hi => by
        rcases Nat.lt_or_ge i j with h1 | h1
        · exact hq.out i h1
        · obtain rfl : i = j := by omega
          rw [hc]; exact h))
      have HBad : Hid (nchr c = false → rr = false) := Lib.hid (fun h => by rw [← HRR.out]; exact name_bad (j := j) (by rw [strB_len]; exact hlt) (by rw [hc]; exact h))
      clear hc
      go_wp2
      all_goals first
        | (refine ⟨⟨j + 1, by omega, by go_num, HSt.out ?_, trivial⟩, ?_⟩
           · unfold nchr; simp at *; omega
           · simp [intOf]; omega)
        | (go_ret
           have hr := HBad.out (by unfold nchr; rw [← Bool.not_eq_true]; simp at *; omega)
           rw [hr]
           exact ⟨rfl, hb1⟩)
    · obtain rfl : j = s.size := by omega
      have he := (name_end (l := strB s) (by rw [strB_len]; exact hq.out)).symm.trans HRR.out
      rw [strB_len] at he
      have HE := Lib.hid he
      clear he
      have hem := ba_empty s
      by_cases h0 : s.size = 0
      · rw [decide_eq_true h0] at hem
        have hr : rr = false := by rw [← HE.out, h0]; rfl
        clear h0
        go_wp2
        go_ret
        exact ⟨by rw [hr]; rfl, hb1⟩
      · rw [decide_eq_false h0] at hem
        have hr : rr = decide ((s.size : Int) ≤ 16) := by
          rw [← HE.out, Bool.eq_iff_iff]
          simp
          omega
        clear h0
        go_wp2
        go_ret
        exact ⟨by rw [hr]; rfl, hb1⟩
set_option maxRecDepth 100000 in
set_option maxHeartbeats 2000000 in
theorem rname_any (s : ByteArray) (w : World) (hs : s.size ≤ 1000000000) : Calls Try.prog 19 #[.string s] w fun e w' => e = .returned (.bool (nameN (strB s))) ∧ w = w' := by
  obtain ⟨rr, hrr⟩ : ∃ b, nameN (strB s) = b := ⟨_, rfl⟩
  rw [hrr]
  have HRR := Lib.hid hrr
  clear hrr
  go_enter Try.func19, Try.ntmps19
  go_wp2_with fail
  go_loopw [3] (fun i wr => ∃ j : Nat, j ≤ s.size ∧ i = .int .i64 j ∧ Hid (∀ i, i < j → nchr ((strB s).getD i 0) = true) ∧ w = wr) (fun i _ => s.size - (intOf i).toNat)
  case atStart => exact ⟨0, by omega, rfl, fun i hi => absurd hi (by omega), rfl⟩
  case round =>
    obtain ⟨j, hj, rfl, hq, rfl⟩ := hrel
    by_cases hlt : j < s.size
    · have hc := strB_at s j hlt
      have hc0 : (0 : Int) ≤ (s[j].toNat : Int) := by omega
      have HSt : Hid (nchr (s[j].toNat : Int) = true → Hid (∀ i, i < j + 1 → nchr ((strB s).getD i 0) = true)) := Lib.hid (fun h => Lib.hid (fun i hi => by
        rcases Nat.lt_or_ge i j with h1 | h1
        · exact hq.out i h1
        · obtain rfl : i = j := by omega
          rw [hc]; exact h))
      have HBad : Hid (nchr (s[j].toNat : Int) = false → rr = false) := Lib.hid (fun h => by rw [← HRR.out]; exact name_bad (j := j) (by rw [strB_len]; exact hlt) (by rw [hc]; exact h))
      clear hc
      go_wp2
      all_goals first
        | (refine ⟨⟨j + 1, by omega, by go_num, HSt.out ?_, trivial⟩, ?_⟩
           · unfold nchr; simp at *; omega
           · simp [intOf]; omega)
        | (go_ret
           have hr := HBad.out (by unfold nchr; rw [← Bool.not_eq_true]; simp at *; omega)
           rw [hr]
           exact ⟨rfl, rfl⟩)
    · obtain rfl : j = s.size := by omega
      have he := (name_end (l := strB s) (by rw [strB_len]; exact hq.out)).symm.trans HRR.out
      rw [strB_len] at he
      have HE := Lib.hid he
      clear he
      go_wp2
      all_goals
        go_ret
        refine ⟨congrArg (fun b => Ending.returned (.bool b)) ?_, rfl⟩
        rw [← HE.out, Bool.eq_iff_iff]
        simp at *
        omega
end Go.Proofs.Ytmhbpfclfffgkaa
