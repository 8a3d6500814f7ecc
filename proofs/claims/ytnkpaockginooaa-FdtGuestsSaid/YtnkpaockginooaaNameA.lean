/- Names: letters and signs; the program's and the document's; walked. -/
import Derived.Test.YtnkpaockginooaaAppL
import Derived.Test.YtnkpaockginooaaTreeC
import Derived.Test.YtnkpaockginooaaNear
import Derived.Lib.Bytealg
import Derived.Deep.CutRange
import Derived.Test.YtnkpaockginooaaBytes
import Derived.Maps.OwnOps
import Derived.Maps.OwnSet
namespace Go.Proofs.Ytnkpaockginooaa
set_option linter.unusedVariables false
set_option linter.unusedSimpArgs false
open Go.RowKit Go.Sort

def letterB (c : Int) : Bool := (decide (97 ≤ c) && decide (c ≤ 122)) || (decide (65 ≤ c) && decide (c ≤ 90)) || (decide (48 ≤ c) && decide (c ≤ 57))
def signB (more : ByteArray) (c : Int) : Bool := letterB c || (strB more).contains c
def nameB (s more : ByteArray) : Bool := ((strB s).all (signB more) && decide (1 ≤ s.size)) && decide (s.size ≤ 31)
set_option maxHeartbeats 1000000 in
theorem rletter_any (c : Int) (w : World) : Calls Try.prog 106 #[.int .u8 c] w fun e w' => e = .returned (.bool (letterB c)) ∧ w = w' := by
  go_enter Try.func106, Try.ntmps106
  go_wp2
  all_goals
    go_ret
    refine ⟨congrArg (fun b => Ending.returned (.bool b)) ?_, rfl⟩
    unfold letterB
    rw [Bool.eq_iff_iff]
    simp
    omega
set_option maxHeartbeats 1000000 in
theorem indexByte_any (s : ByteArray) (c : Int) (w : World) : Calls Try.prog 105 #[.string s, .int .u8 c] w fun e w' => e = .returned (.int .i64 (Lib.indexByte s.data.toList c.toNat.toUInt8)) ∧ w = w' := by
  have hx : ∀ w : World, (callFunc 119 #[.string s, .int .u8 c]).run Try.prog w = .ok (.value (.int .i64 (Lib.indexByte s.data.toList c.toNat.toUInt8))) w := fun w => by
    rw [run_callFunc_extern Try.func119 (by kernel_rfl) (by kernel_rfl) (by kernel_rfl) (e := Extern.BytealgIndexByte.indexByte) (by kernel_rfl), Lib.run_indexByteString]
    rfl
  go_enter Try.func105, Try.ntmps105
  go_wp2
  go_ret
  exact ⟨rfl, rfl⟩
theorem indexByte_neg (l : List UInt8) (c : UInt8) : decide (Lib.indexByte l c < 0) = !l.contains c := by
  induction l with
  | nil => simp [Lib.indexByte]
  | cons x l ih =>
    have hge := Lib.indexByte_ge l c
    unfold Lib.indexByte
    by_cases h : x = c
    · subst h
      simp
    · have h1 : (x == c) = false := by simpa using h
      have h2 : (c == x) = false := by simpa using fun e : c = x => h e.symm
      rw [h1, List.contains_cons, h2, Bool.false_or, ← ih]
      simp only [Bool.false_eq_true, if_false]
      by_cases h3 : Lib.indexByte l c = -1
      · simp [h3]
      · have h4 : (Lib.indexByte l c == -1) = false := by simpa using h3
        rw [h4]
        simp only [Bool.false_eq_true, if_false]
        rw [decide_eq_false (by omega), decide_eq_false (by omega)]
theorem contains_strB (s : ByteArray) (c : Int) (hc : 0 ≤ c ∧ c < 256) : s.data.toList.contains c.toNat.toUInt8 = (strB s).contains c := by
  obtain ⟨n, rfl⟩ := Int.eq_ofNat_of_zero_le hc.1
  have hn : n < 256 := by omega
  unfold strB
  induction s.data.toList with
  | nil => rfl
  | cons x l ih =>
    rw [List.map_cons, List.contains_cons, List.contains_cons, ih]
    congr 1
    rw [Bool.eq_iff_iff, beq_iff_eq, beq_iff_eq]
    constructor
    · rintro rfl
      simp [Nat.toUInt8, UInt8.toNat_ofNat']
      omega
    · intro h
      apply UInt8.toNat_inj.1
      simp [Nat.toUInt8, UInt8.toNat_ofNat']
      omega
set_option maxRecDepth 100000 in
set_option maxHeartbeats 2000000 in
theorem named_any (s more : ByteArray) (w : World) (hs : s.size ≤ 140737488355328) : Calls Try.prog 86 #[.string s, .string more] w fun e w' => e = .returned (.bool (nameB s more)) ∧ Below w.heap.size w w' := by
  obtain ⟨hcv, hrow, hb1⟩ := conv_row w s (by unfold maxLen; omega)
  obtain ⟨rr, hrr⟩ : ∃ b, nameB s more = b := ⟨_, rfl⟩
  rw [hrr]
  have HRR := Lib.hid hrr
  clear hrr
  obtain ⟨cur, fz, r1, r2, r3, r4, r5, r6, r7, r8⟩ := hrow
  have HC := Lib.hid (fun (W : World) (hW : Below (Lib.bytesWorld w 5 s).heap.size (Lib.bytesWorld w 5 s) W) (j : Nat) (hj : j < s.size) => show W.cell? ⟨w.heap.size, j, none⟩ = some (.int .u8 ((strB s).getD j 0)) from by
    have hlt : w.heap.size < (Lib.bytesWorld w 5 s).heap.size := (Array.getElem?_eq_some_iff.1 r1).1
    rw [cell_of_row W w.heap.size j cur 5 fz ((hW.block _ hlt).trans r1)]
    have h1 : cur.toList[j]? = ((strB s).flatMap encB)[j]? := by rw [← r7, List.getElem?_take, if_pos hj]
    rw [← Array.getElem?_toList, h1]
    have h2 := flatMap_get (enc := encB) (s := 1) (fun _ => rfl) (strB s) j 0 (by omega) (by rw [strB_len]; exact hj)
    rw [Nat.mul_one, Nat.add_zero] at h2
    rw [h2]
    simp [encB, List.getD_eq_getElem?_getD, show j < (strB s).length by rw [strB_len]; exact hj])
  go_enter Try.func86, Try.ntmps86
  generalize Lib.bytesWorld w 5 s = w1 at *
  clear r1 r3 r4 r5 r7 r8
  go_wp2_with fail
  go_loopw [6, 7, 11] (fun _ _ i wr => ∃ j : Nat, j ≤ s.size ∧ i = .int .i64 j ∧ Hid (∀ i, i < j → signB more ((strB s).getD i 0) = true) ∧ wr = w1) (fun _ _ i _ => s.size - (intOf i).toNat)
  case atStart => exact ⟨0, by omega, rfl, fun i hi => absurd hi (by omega), rfl⟩
  case round =>
    obtain ⟨j, hj, rfl, hq, rfl⟩ := hrel
    by_cases hlt : j < s.size
    · have d0 := HC.out wr (Below.refl _ _) j hlt
      have hbd := strB_ok s ((strB s).getD j 0) (by
        rw [List.getD_eq_getElem?_getD, List.getElem?_eq_getElem (by rw [strB_len]; exact hlt)]
        exact List.getElem_mem _)
      obtain ⟨c, hc⟩ : ∃ c, (strB s).getD j 0 = c := ⟨_, rfl⟩
      rw [hc] at d0 hbd
      have HCc := Lib.hid hc
      have hin := indexByte_neg more.data.toList c.toNat.toUInt8
      rw [contains_strB more c hbd] at hin
      have hall : (97 ≤ c ∧ c ≤ 122) ∨ (65 ≤ c ∧ c ≤ 90) ∨ (48 ≤ c ∧ c ≤ 57) ∨ c < 48 ∨ (58 ≤ c ∧ c ≤ 64) ∨ (91 ≤ c ∧ c ≤ 96) ∨ 123 ≤ c := by omega
      clear hc
      rcases hall with h | h | h | h | h | h | h
      · have hl : letterB c = true := by unfold letterB; simp; omega
        have f97 : decide (97 ≤ c) = true := decide_eq_true (by omega)
        have f65 : decide (65 ≤ c) = true := decide_eq_true (by omega)
        have f48 : decide (48 ≤ c) = true := decide_eq_true (by omega)
        have f122 : decide (c ≤ 122) = true := decide_eq_true (by omega)
        have f90 : decide (c ≤ 90) = false := decide_eq_false (by omega)
        have f57 : decide (c ≤ 57) = false := decide_eq_false (by omega)
        have hsg : signB more c = true := by unfold signB; rw [hl]; rfl
        go_wp2_with (go_at_call 105; refine (indexByte_any more c _).mono ?_; rintro e w5 ⟨rfl, rfl⟩)
        go_roundw
        case rel =>
          refine ⟨j + 1, by omega, by go_num, fun i hi => ?_, trivial⟩
          rcases Nat.lt_or_ge i j with h1 | h1
          · exact hq.out i h1
          · obtain rfl : i = j := by omega
            rw [HCc.out]
            exact hsg
        case measure => simp [intOf]; omega
      · have hl : letterB c = true := by unfold letterB; simp; omega
        have f97 : decide (97 ≤ c) = false := decide_eq_false (by omega)
        have f65 : decide (65 ≤ c) = true := decide_eq_true (by omega)
        have f48 : decide (48 ≤ c) = true := decide_eq_true (by omega)
        have f122 : decide (c ≤ 122) = true := decide_eq_true (by omega)
        have f90 : decide (c ≤ 90) = true := decide_eq_true (by omega)
        have f57 : decide (c ≤ 57) = false := decide_eq_false (by omega)
        have hsg : signB more c = true := by unfold signB; rw [hl]; rfl
        go_wp2_with (go_at_call 105; refine (indexByte_any more c _).mono ?_; rintro e w5 ⟨rfl, rfl⟩)
        go_roundw
        case rel =>
          refine ⟨j + 1, by omega, by go_num, fun i hi => ?_, trivial⟩
          rcases Nat.lt_or_ge i j with h1 | h1
          · exact hq.out i h1
          · obtain rfl : i = j := by omega
            rw [HCc.out]
            exact hsg
        case measure => simp [intOf]; omega
      · have hl : letterB c = true := by unfold letterB; simp; omega
        have f97 : decide (97 ≤ c) = false := decide_eq_false (by omega)
        have f65 : decide (65 ≤ c) = false := decide_eq_false (by omega)
        have f48 : decide (48 ≤ c) = true := decide_eq_true (by omega)
        have f122 : decide (c ≤ 122) = true := decide_eq_true (by omega)
        have f90 : decide (c ≤ 90) = true := decide_eq_true (by omega)
        have f57 : decide (c ≤ 57) = true := decide_eq_true (by omega)
        have hsg : signB more c = true := by unfold signB; rw [hl]; rfl
        go_wp2_with (go_at_call 105; refine (indexByte_any more c _).mono ?_; rintro e w5 ⟨rfl, rfl⟩)
        go_roundw
        case rel =>
          refine ⟨j + 1, by omega, by go_num, fun i hi => ?_, trivial⟩
          rcases Nat.lt_or_ge i j with h1 | h1
          · exact hq.out i h1
          · obtain rfl : i = j := by omega
            rw [HCc.out]
            exact hsg
        case measure => simp [intOf]; omega
      · have hl : letterB c = false := by unfold letterB; simp; omega
        have f97 : decide (97 ≤ c) = false := decide_eq_false (by omega)
        have f65 : decide (65 ≤ c) = false := decide_eq_false (by omega)
        have f48 : decide (48 ≤ c) = false := decide_eq_false (by omega)
        have f122 : decide (c ≤ 122) = true := decide_eq_true (by omega)
        have f90 : decide (c ≤ 90) = true := decide_eq_true (by omega)
        have f57 : decide (c ≤ 57) = true := decide_eq_true (by omega)
        rcases hm : (strB more).contains c with _ | _
        · rw [hm] at hin
          have hsg : signB more c = false := by unfold signB; rw [hl, hm]; rfl
          have e9 : rr = false := by
            rw [← HRR.out]
            unfold nameB
            have : (strB s).all (signB more) = false := by
              rw [List.all_eq_false]
              refine ⟨c, ?_, by rw [hsg]; simp⟩
              rw [← HCc.out, List.getD_eq_getElem?_getD, List.getElem?_eq_getElem (by rw [strB_len]; exact hlt)]
              exact List.getElem_mem _
            rw [this]
            rfl
          subst e9
          go_wp2_with (go_at_call 105; refine (indexByte_any more c _).mono ?_; rintro e w5 ⟨rfl, rfl⟩)
          go_ret
          exact ⟨rfl, hb1⟩
        · rw [hm] at hin
          have hsg : signB more c = true := by unfold signB; rw [hl, hm]; rfl
          go_wp2_with (go_at_call 105; refine (indexByte_any more c _).mono ?_; rintro e w5 ⟨rfl, rfl⟩)
          go_roundw
          case rel =>
            refine ⟨j + 1, by omega, by go_num, fun i hi => ?_, trivial⟩
            rcases Nat.lt_or_ge i j with h1 | h1
            · exact hq.out i h1
            · obtain rfl : i = j := by omega
              rw [HCc.out]
              exact hsg
          case measure => simp [intOf]; omega
      · have hl : letterB c = false := by unfold letterB; simp; omega
        have f97 : decide (97 ≤ c) = false := decide_eq_false (by omega)
        have f65 : decide (65 ≤ c) = false := decide_eq_false (by omega)
        have f48 : decide (48 ≤ c) = true := decide_eq_true (by omega)
        have f122 : decide (c ≤ 122) = true := decide_eq_true (by omega)
        have f90 : decide (c ≤ 90) = true := decide_eq_true (by omega)
        have f57 : decide (c ≤ 57) = false := decide_eq_false (by omega)
        rcases hm : (strB more).contains c with _ | _
        · rw [hm] at hin
          have hsg : signB more c = false := by unfold signB; rw [hl, hm]; rfl
          have e9 : rr = false := by
            rw [← HRR.out]
            unfold nameB
            have : (strB s).all (signB more) = false := by
              rw [List.all_eq_false]
              refine ⟨c, ?_, by rw [hsg]; simp⟩
              rw [← HCc.out, List.getD_eq_getElem?_getD, List.getElem?_eq_getElem (by rw [strB_len]; exact hlt)]
              exact List.getElem_mem _
            rw [this]
            rfl
          subst e9
          go_wp2_with (go_at_call 105; refine (indexByte_any more c _).mono ?_; rintro e w5 ⟨rfl, rfl⟩)
          go_ret
          exact ⟨rfl, hb1⟩
        · rw [hm] at hin
          have hsg : signB more c = true := by unfold signB; rw [hl, hm]; rfl
          go_wp2_with (go_at_call 105; refine (indexByte_any more c _).mono ?_; rintro e w5 ⟨rfl, rfl⟩)
          go_roundw
          case rel =>
            refine ⟨j + 1, by omega, by go_num, fun i hi => ?_, trivial⟩
            rcases Nat.lt_or_ge i j with h1 | h1
            · exact hq.out i h1
            · obtain rfl : i = j := by omega
              rw [HCc.out]
              exact hsg
          case measure => simp [intOf]; omega
      · have hl : letterB c = false := by unfold letterB; simp; omega
        have f97 : decide (97 ≤ c) = false := decide_eq_false (by omega)
        have f65 : decide (65 ≤ c) = true := decide_eq_true (by omega)
        have f48 : decide (48 ≤ c) = true := decide_eq_true (by omega)
        have f122 : decide (c ≤ 122) = true := decide_eq_true (by omega)
        have f90 : decide (c ≤ 90) = false := decide_eq_false (by omega)
        have f57 : decide (c ≤ 57) = false := decide_eq_false (by omega)
        rcases hm : (strB more).contains c with _ | _
        · rw [hm] at hin
          have hsg : signB more c = false := by unfold signB; rw [hl, hm]; rfl
          have e9 : rr = false := by
            rw [← HRR.out]
            unfold nameB
            have : (strB s).all (signB more) = false := by
              rw [List.all_eq_false]
              refine ⟨c, ?_, by rw [hsg]; simp⟩
              rw [← HCc.out, List.getD_eq_getElem?_getD, List.getElem?_eq_getElem (by rw [strB_len]; exact hlt)]
              exact List.getElem_mem _
            rw [this]
            rfl
          subst e9
          go_wp2_with (go_at_call 105; refine (indexByte_any more c _).mono ?_; rintro e w5 ⟨rfl, rfl⟩)
          go_ret
          exact ⟨rfl, hb1⟩
        · rw [hm] at hin
          have hsg : signB more c = true := by unfold signB; rw [hl, hm]; rfl
          go_wp2_with (go_at_call 105; refine (indexByte_any more c _).mono ?_; rintro e w5 ⟨rfl, rfl⟩)
          go_roundw
          case rel =>
            refine ⟨j + 1, by omega, by go_num, fun i hi => ?_, trivial⟩
            rcases Nat.lt_or_ge i j with h1 | h1
            · exact hq.out i h1
            · obtain rfl : i = j := by omega
              rw [HCc.out]
              exact hsg
          case measure => simp [intOf]; omega
      · have hl : letterB c = false := by unfold letterB; simp; omega
        have f97 : decide (97 ≤ c) = true := decide_eq_true (by omega)
        have f65 : decide (65 ≤ c) = true := decide_eq_true (by omega)
        have f48 : decide (48 ≤ c) = true := decide_eq_true (by omega)
        have f122 : decide (c ≤ 122) = false := decide_eq_false (by omega)
        have f90 : decide (c ≤ 90) = false := decide_eq_false (by omega)
        have f57 : decide (c ≤ 57) = false := decide_eq_false (by omega)
        rcases hm : (strB more).contains c with _ | _
        · rw [hm] at hin
          have hsg : signB more c = false := by unfold signB; rw [hl, hm]; rfl
          have e9 : rr = false := by
            rw [← HRR.out]
            unfold nameB
            have : (strB s).all (signB more) = false := by
              rw [List.all_eq_false]
              refine ⟨c, ?_, by rw [hsg]; simp⟩
              rw [← HCc.out, List.getD_eq_getElem?_getD, List.getElem?_eq_getElem (by rw [strB_len]; exact hlt)]
              exact List.getElem_mem _
            rw [this]
            rfl
          subst e9
          go_wp2_with (go_at_call 105; refine (indexByte_any more c _).mono ?_; rintro e w5 ⟨rfl, rfl⟩)
          go_ret
          exact ⟨rfl, hb1⟩
        · rw [hm] at hin
          have hsg : signB more c = true := by unfold signB; rw [hl, hm]; rfl
          go_wp2_with (go_at_call 105; refine (indexByte_any more c _).mono ?_; rintro e w5 ⟨rfl, rfl⟩)
          go_roundw
          case rel =>
            refine ⟨j + 1, by omega, by go_num, fun i hi => ?_, trivial⟩
            rcases Nat.lt_or_ge i j with h1 | h1
            · exact hq.out i h1
            · obtain rfl : i = j := by omega
              rw [HCc.out]
              exact hsg
          case measure => simp [intOf]; omega
    · obtain rfl : j = s.size := by omega
      have hall : (strB s).all (signB more) = true := by
        rw [List.all_eq_true]
        intro x hx
        obtain ⟨i, hi, rfl⟩ := List.getElem_of_mem hx
        have := hq.out i (by rw [strB_len] at hi; exact hi)
        rw [List.getD_eq_getElem?_getD, List.getElem?_eq_getElem hi] at this
        exact this
      have e9 : rr = (decide (1 ≤ s.size) && decide (s.size ≤ 31)) := by
        rw [← HRR.out]
        unfold nameB
        rw [hall, Bool.true_and]
      by_cases h0 : s.size = 0
      · have hse : s.toList.isEmpty = true := by
          rw [ByteArray.toList_eq, List.isEmpty_iff]
          exact List.eq_nil_of_length_eq_zero h0
        have e8 : rr = false := by rw [e9, h0]; rfl
        subst e8
        clear e9 hall HC hcv
        go_wp2_with fail
        go_ret
        exact ⟨rfl, hb1⟩
      · have hse : s.toList.isEmpty = false := by
          rw [Bool.eq_false_iff]
          intro h
          rw [ByteArray.toList_eq, List.isEmpty_iff] at h
          exact h0 (congrArg List.length h)
        have HE := Lib.hid e9
        clear e9 hall HC hcv
        go_wp2_with fail
        go_ret
        refine ⟨?_, hb1⟩
        rw [HE.out, decide_eq_true (show 1 ≤ s.size by omega), Bool.true_and]
        refine congrArg (fun b => Ending.returned (Value.bool b)) (?_ : decide ((s.size : Int) ≤ 31) = decide (s.size ≤ 31))
        rw [Bool.eq_iff_iff, decide_eq_true_iff, decide_eq_true_iff]
        omega
theorem idx_str (s : ByteArray) (j : Nat) (hj : j < s.size) (w : World) : (Instr.index 9 (.string s) (.int .i64 (j : Int))).run Try.prog w = .ok (.int .u8 ((strB s).getD j 0)) w := by
  rw [run_index_string w _ _ _ _ Try.underlying9]
  rw [dif_pos (by omega)]
  have e : (strB s).getD j 0 = ((s[j]'hj).toNat : Int) := by
    rw [List.getD_eq_getElem?_getD, List.getElem?_eq_getElem (by rw [strB_len]; exact hj)]
    simp [strB]
    rfl
  rw [e]
  rfl
set_option maxRecDepth 100000 in
set_option maxHeartbeats 1000000 in
theorem rin_any (c : Int) (s : ByteArray) (w : World) (hs : s.size ≤ 140737488355328) : Calls Try.prog 107 #[.int .u8 c, .string s] w fun e w' => e = .returned (.bool ((strB s).contains c)) ∧ w = w' := by
  obtain ⟨rr, hrr⟩ : ∃ b, (strB s).contains c = b := ⟨_, rfl⟩
  rw [hrr]
  have HRR := Lib.hid hrr
  clear hrr
  go_enter Try.func107, Try.ntmps107
  go_wp2_with fail
  go_loopw [5] (fun i wr => ∃ j : Nat, j ≤ s.size ∧ i = .int .i64 j ∧ Hid (∀ i, i < j → (strB s).getD i 0 ≠ c) ∧ wr = w) (fun i _ => s.size - (intOf i).toNat)
  case atStart => exact ⟨0, by omega, rfl, fun i hi => absurd hi (by omega), rfl⟩
  case round =>
    obtain ⟨j, hj, rfl, hq, rfl⟩ := hrel
    by_cases hlt : j < s.size
    · have hix := idx_str s j hlt
      obtain ⟨d, hd⟩ : ∃ d, (strB s).getD j 0 = d := ⟨_, rfl⟩
      rw [hd] at hix
      have HD := Lib.hid hd
      clear hd
      by_cases h : d = c
      · subst h
        have e9 : rr = true := by
          rw [← HRR.out, List.contains_iff_mem, ← HD.out, List.getD_eq_getElem?_getD, List.getElem?_eq_getElem (by rw [strB_len]; exact hlt)]
          exact List.getElem_mem _
        subst e9
        go_wp2_with fail
        go_ret
        exact ⟨rfl, rfl⟩
      · have h1 : (d == c) = false := by simpa using h
        go_wp2_with fail
        go_roundw
        case rel =>
          refine ⟨j + 1, by omega, by go_num, fun i hi => ?_, trivial⟩
          rcases Nat.lt_or_ge i j with h2 | h2
          · exact hq.out i h2
          · obtain rfl : i = j := by omega
            rw [HD.out]
            exact h
        case measure => simp [intOf]; omega
    · obtain rfl : j = s.size := by omega
      have e9 : rr = false := by
        rw [← HRR.out, Bool.eq_false_iff, Ne, List.contains_iff_mem]
        intro hm
        obtain ⟨i, hi, hx⟩ := List.getElem_of_mem hm
        refine hq.out i (by rw [strB_len] at hi; exact hi) ?_
        rw [List.getD_eq_getElem?_getD, List.getElem?_eq_getElem hi]
        exact hx
      subst e9
      go_wp2_with fail
      go_ret
      exact ⟨rfl, rfl⟩
set_option maxRecDepth 100000 in
set_option maxHeartbeats 1000000 in
theorem rname_any (s more : ByteArray) (w : World) (hs : s.size ≤ 140737488355328) (hm : more.size ≤ 140737488355328) : Calls Try.prog 88 #[.string s, .string more] w fun e w' => e = .returned (.bool (nameB s more)) ∧ w = w' := by
  obtain ⟨rr, hrr⟩ : ∃ b, nameB s more = b := ⟨_, rfl⟩
  rw [hrr]
  have HRR := Lib.hid hrr
  clear hrr
  go_enter Try.func88, Try.ntmps88
  go_wp2_with fail
  go_loopw [5] (fun i wr => ∃ j : Nat, j ≤ s.size ∧ i = .int .i64 j ∧ Hid (∀ i, i < j → signB more ((strB s).getD i 0) = true) ∧ wr = w) (fun i _ => s.size - (intOf i).toNat)
  case atStart => exact ⟨0, by omega, rfl, fun i hi => absurd hi (by omega), rfl⟩
  case round =>
    obtain ⟨j, hj, rfl, hq, rfl⟩ := hrel
    by_cases hlt : j < s.size
    · have hix := idx_str s j hlt
      obtain ⟨c, hc⟩ : ∃ c, (strB s).getD j 0 = c := ⟨_, rfl⟩
      rw [hc] at hix
      have HCc := Lib.hid hc
      clear hc
      have HL := Lib.hid (fun w => rletter_any c w)
      have HI := Lib.hid (fun w => rin_any c more w hm)
      have hsg : signB more c = (letterB c || (strB more).contains c) := rfl
      rcases hl : letterB c with _ | _
      · rcases hcn : (strB more).contains c with _ | _
        · rw [hl] at HL
          rw [hcn] at HI
          rw [hl, hcn] at hsg
          have HS := Lib.hid hsg
          have e9 : rr = false := by
            rw [← HRR.out]
            unfold nameB
            have : (strB s).all (signB more) = false := by
              rw [List.all_eq_false]
              refine ⟨c, ?_, by rw [HS.out]; simp⟩
              rw [← HCc.out, List.getD_eq_getElem?_getD, List.getElem?_eq_getElem (by rw [strB_len]; exact hlt)]
              exact List.getElem_mem _
            rw [this]
            rfl
          subst e9
          clear hsg hl hcn
          go_wp2_with (first | (go_at_call 106; refine (HL.out _).mono ?_; rintro e w5 ⟨rfl, rfl⟩) | (go_at_call 107; refine (HI.out _).mono ?_; rintro e w5 ⟨rfl, rfl⟩))
          go_ret
          exact ⟨rfl, rfl⟩
        · rw [hl] at HL
          rw [hcn] at HI
          rw [hl, hcn] at hsg
          have HS := Lib.hid hsg
          clear hsg hl hcn
          go_wp2_with (first | (go_at_call 106; refine (HL.out _).mono ?_; rintro e w5 ⟨rfl, rfl⟩) | (go_at_call 107; refine (HI.out _).mono ?_; rintro e w5 ⟨rfl, rfl⟩))
          go_roundw
          case rel =>
            refine ⟨j + 1, by omega, by go_num, fun i hi => ?_, trivial⟩
            rcases Nat.lt_or_ge i j with h2 | h2
            · exact hq.out i h2
            · obtain rfl : i = j := by omega
              rw [HCc.out]
              exact HS.out.trans (by simp)
          case measure => simp [intOf]; omega
      · rw [hl] at HL
        rw [hl] at hsg
        have hcn : True := trivial
        have HS := Lib.hid hsg
        clear hsg hl hcn
        go_wp2_with (first | (go_at_call 106; refine (HL.out _).mono ?_; rintro e w5 ⟨rfl, rfl⟩) | (go_at_call 107; refine (HI.out _).mono ?_; rintro e w5 ⟨rfl, rfl⟩))
        go_roundw
        case rel =>
          refine ⟨j + 1, by omega, by go_num, fun i hi => ?_, trivial⟩
          rcases Nat.lt_or_ge i j with h2 | h2
          · exact hq.out i h2
          · obtain rfl : i = j := by omega
            rw [HCc.out]
            exact HS.out.trans (by simp)
        case measure => simp [intOf]; omega
    · obtain rfl : j = s.size := by omega
      have hall : (strB s).all (signB more) = true := by
        rw [List.all_eq_true]
        intro x hx
        obtain ⟨i, hi, rfl⟩ := List.getElem_of_mem hx
        have := hq.out i (by rw [strB_len] at hi; exact hi)
        rw [List.getD_eq_getElem?_getD, List.getElem?_eq_getElem hi] at this
        exact this
      have e9 : rr = (decide (1 ≤ s.size) && decide (s.size ≤ 31)) := by
        rw [← HRR.out]
        unfold nameB
        rw [hall, Bool.true_and]
      have HE := Lib.hid e9
      clear e9 hall
      by_cases h1 : 1 ≤ s.size
      · have h1' : decide (1 ≤ (s.size : Int)) = true := decide_eq_true (by omega)
        go_wp2_with fail
        go_ret
        refine ⟨?_, rfl⟩
        rw [HE.out, decide_eq_true h1, Bool.true_and]
        refine congrArg (fun b => Ending.returned (Value.bool b)) (?_ : decide ((s.size : Int) ≤ 31) = decide (s.size ≤ 31))
        rw [Bool.eq_iff_iff, decide_eq_true_iff, decide_eq_true_iff]
        omega
      · have h1' : decide (1 ≤ (s.size : Int)) = false := decide_eq_false (by omega)
        go_wp2_with fail
        go_ret
        refine ⟨?_, rfl⟩
        rw [HE.out, decide_eq_false h1]
        rfl
end Go.Proofs.Ytnkpaockginooaa
namespace Go.Proofs.Ytnkpaockginooaa
set_option linter.unusedVariables false
set_option linter.unusedSimpArgs false
open Go.RowKit Go.Sort Go.Maps Go.WideShapes Go.ChangeShapes

def encS (s : ByteArray) : List Value := [.string s]
theorem law_s : Keyed Try.prog 9 := string_keyed Try.underlying9
theorem zero_int (w : World) : (zeroValue 3).run Try.prog w = .ok (.int .i64 0) w := by kernel_rfl
def kl (s : ByteArray) : Lit := .string s.data.toList
theorem kl_inj {s t : ByteArray} (h : kl s = kl t) : s = t := by
  unfold kl at h
  injection h with h
  apply ByteArray.ext
  exact Array.toList_inj.1 h
theorem kl_key (s : ByteArray) : Go.WideAt.IsKeyLit (kl s) := by
  unfold kl
  first | trivial | exact Or.inr (Or.inr ⟨_, rfl⟩) | simp [Go.WideAt.IsKeyLit]
theorem key_s (s : ByteArray) (h : s.size ≤ maxLen) : keyOf Try.prog 9 (.string s) = some (kl s) := Go.WideMaps.keyOf_string_mk Try.underlying9 h
set_option maxRecDepth 100000 in
set_option maxHeartbeats 2000000 in
theorem twice_any (A : Option Addr) (n c : Nat) (l : List ByteArray) (hl : l.length = n) (hn : n ≤ 1000000) (hs : ∀ s ∈ l, s.size ≤ maxLen) (w : World) (hr : Rd w w.heap.size 1 A n (l.flatMap encS)) :
    Calls Try.prog 87 #[.slice A n c] w fun e w' => ∃ b, e = .returned (.bool b) ∧ (b = true ↔ ¬ l.Nodup) ∧ Below w.heap.size w w' := by
  have hmm := @run_makeMap Try.prog
  have HL := Lib.hid hl
  have HR := Lib.hid hr
  have HS := Lib.hid hs
  clear hl hr hs
  go_enter Try.func87, Try.ntmps87
  go_wp2_with fail
  go_loopw [5, 9] (fun _ i wr => ∃ (k : Nat) (D : DataW Unit), k ≤ n ∧ i = .int .i64 k ∧ wr.ownsMap Try.prog 9 (plainElem Try.prog 3) w.heap.size k D ∧ Hid (l.take k).Nodup ∧ Hid (∀ s, (s ∈ l.take k → D.atKey (kl s) (.lit (.int .i64 0)) = .lit (.int .i64 1)) ∧ (s ∉ l.take k → D.atKey (kl s) (.lit (.int .i64 0)) = .lit (.int .i64 0))) ∧ Below w.heap.size w wr) (fun _ i _ => n - (intOf i).toNat)
  case atStart => exact ⟨0, _, Nat.zero_le _, rfl, World.ownsMap_made _ _ _ _, by simp [Hid], fun s => ⟨fun h => by simp at h, fun _ => by simp [DataW.atKey]⟩, (Below.refl _ _).alloc (Nat.le_refl _) _⟩
  case round =>
    obtain ⟨k, D, hk, rfl, hown, hnd, hD, hnx⟩ := hrel
    by_cases hlt : k < n
    · obtain ⟨s, hp⟩ : ∃ p, l[k]? = some p := ⟨_, List.getElem?_eq_getElem (by rw [HL.out]; exact hlt)⟩
      obtain ⟨b1, o1, rfl, hb1, hd1⟩ := (HR.out.keep (fun p hp => hnx.cell hp)).row (enc := encS) (fun _ => rfl) (k := k) (by rw [HL.out]; exact hlt) HL.out
      have hg1 : l[k]'(by rw [HL.out]; exact hlt) = s := (List.getElem?_eq_some_iff.1 hp).2
      have d0 := hd1 0 (by omega)
      rw [hg1] at d0
      simp only [encS, Nat.add_zero, Nat.mul_one, List.getElem?_cons_zero] at d0
      have hkey := key_s s (HS.out s (List.mem_of_getElem? hp))
      have HP := Lib.hid hp
      clear hd1 hg1 hp
      have htk : l.take (k + 1) = l.take k ++ [s] := by
        have := List.take_succ_eq_append_getElem (l := l) (i := k) (by rw [HL.out]; exact hlt)
        rw [this]
        have hg1 : l[k]'(by rw [HL.out]; exact hlt) = s := (List.getElem?_eq_some_iff.1 HP.out).2
        rw [hg1]
      have HTk := Lib.hid htk
      clear htk
      by_cases hmem : s ∈ l.take k
      · have hv := (hD.out s).1 hmem
        have hdup : ¬ l.Nodup := fun h => by
          have h2 : (l.take (k + 1)).Nodup := h.sublist (List.take_sublist _ _)
          rw [HTk.out, List.nodup_append] at h2
          exact h2.2.2 s hmem s (List.mem_singleton.2 rfl) rfl
        have HM := Lib.hid hmem
        clear hmem
        go_wp2_with (first
          | (at_lookup; first
            | (refine wpList_lookup_own_int _ rfl _ _ 176 rfl 9 3 .i64 law_s Try.underlying176 Try.underlying3 (zero_int _) w.heap.size k _ rfl hown _ _ rfl hkey ?_; intro cc hat hwc; rw [hv] at hat; simp only [DataW.lit.injEq, Lit.int.injEq, true_and] at hat; subst hat)
            | (refine wpList_lookup_own_int _ rfl _ _ 176 rfl 9 3 .i64 law_s Try.underlying176 Try.underlying3 (zero_int _) w.heap.size (k + 1) _ rfl hown1 _ _ rfl hkey ?_; intro c2 hat2 hwc2; rw [atKey_put_same (hown.tidy law_s).isMap (kl_key s)] at hat2; simp only [DataW.lit.injEq, Lit.int.injEq, true_and] at hat2; subst hat2))
          | (at_mapUpdate; refine wpList_mapUpdate_own _ rfl _ _ _ 176 rfl 9 3 law_s Try.underlying176 _ w.heap.size k _ rfl hown (by unfold maxLen; omega) _ _ _ rfl rfl hkey _ [] (plainElem_int Try.underlying3 (by decide)) ?_; intro w1 hown1 hgrow1; have hg2 := hown1.lookup_int law_s Try.underlying176 Try.underlying3 (zero_int _) hkey; obtain ⟨c2, hrun2, hat2, _⟩ := hg2; rw [atKey_put_same (hown.tidy law_s).isMap (kl_key s)] at hat2; simp only [DataW.lit.injEq, Lit.int.injEq, true_and] at hat2; subst hat2))
        have hnx1 := hnx.grown hgrow1 hnx.size (fun j hj => by cases hj; exact Nat.le_refl _)
        go_ret
        exact ⟨true, rfl, by simp [hdup], hnx1⟩
      · have hv := (hD.out s).2 hmem
        have HM := Lib.hid hmem
        clear hmem
        go_wp2_with (first
          | (at_lookup; first
            | (refine wpList_lookup_own_int _ rfl _ _ 176 rfl 9 3 .i64 law_s Try.underlying176 Try.underlying3 (zero_int _) w.heap.size k _ rfl hown _ _ rfl hkey ?_; intro cc hat hwc; rw [hv] at hat; simp only [DataW.lit.injEq, Lit.int.injEq, true_and] at hat; subst hat)
            | (refine wpList_lookup_own_int _ rfl _ _ 176 rfl 9 3 .i64 law_s Try.underlying176 Try.underlying3 (zero_int _) w.heap.size (k + 1) _ rfl hown1 _ _ rfl hkey ?_; intro c2 hat2 hwc2; rw [atKey_put_same (hown.tidy law_s).isMap (kl_key s)] at hat2; simp only [DataW.lit.injEq, Lit.int.injEq, true_and] at hat2; subst hat2))
          | (at_mapUpdate; refine wpList_mapUpdate_own _ rfl _ _ _ 176 rfl 9 3 law_s Try.underlying176 _ w.heap.size k _ rfl hown (by unfold maxLen; omega) _ _ _ rfl rfl hkey _ [] (plainElem_int Try.underlying3 (by decide)) ?_; intro w1 hown1 hgrow1; have hg2 := hown1.lookup_int law_s Try.underlying176 Try.underlying3 (zero_int _) hkey; obtain ⟨c2, hrun2, hat2, _⟩ := hg2; rw [atKey_put_same (hown.tidy law_s).isMap (kl_key s)] at hat2; simp only [DataW.lit.injEq, Lit.int.injEq, true_and] at hat2; subst hat2))
        have hnx1 := hnx.grown hgrow1 hnx.size (fun j hj => by cases hj; exact Nat.le_refl _)
        have hmap := (hown.tidy law_s).isMap
        go_roundw
        case rel =>
          refine ⟨k + 1, _, by omega, by go_num, hown1, ?_, fun s' => ?_, hnx1⟩
          · show (l.take (k + 1)).Nodup
            rw [HTk.out, List.nodup_append]
            exact ⟨hnd.out, (by simp), fun a ha b hb => by
              rw [List.mem_singleton] at hb
              subst hb
              rintro rfl
              exact HM.out ha⟩
          · rw [HTk.out]
            by_cases he : s' = s
            · subst he
              exact ⟨fun _ => atKey_put_same hmap (kl_key _) _ _, fun h => absurd (List.mem_append_right _ (List.mem_singleton.2 rfl)) h⟩
            · have ho := hD.out s'
              have e1 : s' ∈ l.take k ++ [s] ↔ s' ∈ l.take k := by simp [he]
              rw [e1, atKey_put_other (fun h => he (kl_inj h))]
              exact ho
        case measure => simp [intOf]; omega
    · obtain rfl : k = n := by omega
      go_wp2_with fail
      go_ret
      exact ⟨_, rfl, by
        have := hnd.out
        rw [List.take_of_length_le (by rw [HL.out]; exact Nat.le_refl _)] at this
        simp [this], hnx⟩
end Go.Proofs.Ytnkpaockginooaa
