/- Numbers as hexadecimal digits: the program's and the document's, walked. -/
import Derived.Test.YtnkpaockginooaaBytes
import Derived.Test.YtnkpaockginooaaNear
import Derived.Laws.Bits64b
import Derived.Deep.CutRange
import Derived.Lib.QuietBelow
namespace Go.Proofs.Ytnkpaockginooaa
set_option linter.unusedVariables false
set_option linter.unusedSimpArgs false
open Go.RowKit Go.Sort

/-- A digit's sign; a number's digits, the highest ahead. -/
def sg (d : Nat) : Int := if d < 10 then 48 + d else 87 + d
def hexF : Nat → Nat → List Int
  | 0, _ => []
  | f + 1, n => if n / 16 = 0 then [sg (n % 16)] else hexF f (n / 16) ++ [sg (n % 16)]
def hexN (n : Nat) : List Int := hexF 16 n
theorem and15 (a : Nat) (ha : a < 18446744073709551616) : bits .and .u64 (a : Int) 15 = ((a % 16 : Nat) : Int) := by
  have h := bits_and_u64_nat a 15 ha (by omega)
  have e : a &&& 15 = a % 16 := Nat.and_two_pow_sub_one_eq_mod a 4
  rw [e] at h
  exact h
theorem run_sign (k : IntKind) (d : Nat) (h : d < 16) (w : World) : (Instr.index 9 (.string ⟨#[48, 49, 50, 51, 52, 53, 54, 55, 56, 57, 97, 98, 99, 100, 101, 102]⟩) (.int k (d : Int))).run Try.prog w = .ok (.int .u8 (sg d)) w := by
  rw [run_index_string w _ _ _ _ Try.underlying9]
  have hs : (⟨#[48, 49, 50, 51, 52, 53, 54, 55, 56, 57, 97, 98, 99, 100, 101, 102]⟩ : ByteArray).size = 16 := rfl
  rw [dif_pos (by rw [hs]; omega)]
  have : d = 0 ∨ d = 1 ∨ d = 2 ∨ d = 3 ∨ d = 4 ∨ d = 5 ∨ d = 6 ∨ d = 7 ∨ d = 8 ∨ d = 9 ∨ d = 10 ∨ d = 11 ∨ d = 12 ∨ d = 13 ∨ d = 14 ∨ d = 15 := by omega
  rcases this with rfl | rfl | rfl | rfl | rfl | rfl | rfl | rfl | rfl | rfl | rfl | rfl | rfl | rfl | rfl | rfl <;> rfl
theorem sign_at (d : Nat) (h : d < 16) : ∀ (g : d < (⟨#[48, 49, 50, 51, 52, 53, 54, 55, 56, 57, 97, 98, 99, 100, 101, 102]⟩ : ByteArray).size), (((⟨#[48, 49, 50, 51, 52, 53, 54, 55, 56, 57, 97, 98, 99, 100, 101, 102]⟩ : ByteArray)[d]'g).toNat : Int) = sg d := by
  have : d = 0 ∨ d = 1 ∨ d = 2 ∨ d = 3 ∨ d = 4 ∨ d = 5 ∨ d = 6 ∨ d = 7 ∨ d = 8 ∨ d = 9 ∨ d = 10 ∨ d = 11 ∨ d = 12 ∨ d = 13 ∨ d = 14 ∨ d = 15 := by omega
  rcases this with rfl | rfl | rfl | rfl | rfl | rfl | rfl | rfl | rfl | rfl | rfl | rfl | rfl | rfl | rfl | rfl <;> (intro g; rfl)
set_option maxRecDepth 100000 in
theorem run_cut16 (w : World) (b c : Nat) (h : c ≤ 16) : (Instr.sliceAt 180 (.pointer (some ⟨b, 0, none⟩)) (some (.int .i64 (c : Int))) none none).run Try.prog w = .ok (slicedAt ⟨b, 0, none⟩ c 16 16 1) w := by
  have h16 : (c : Int) ≤ ((Try.prog.arrayLen 180 : Nat) : Int) := Int.ofNat_le.2 h
  exact (run_sliceAt_array_l w 180 ⟨b, 0, none⟩ Try.underlying180 .i64 (c : Int) (Int.natCast_nonneg c) h16).trans rfl
theorem sg_bd (d : Nat) (h : d < 16) : 0 ≤ sg d ∧ sg d < 256 := by
  unfold sg
  split <;> omega
theorem hexF_ok : ∀ (f n : Nat), BytesOk (hexF f n)
  | 0, _ => fun x hx => by cases hx
  | f + 1, n => by
    have hb := sg_bd (n % 16) (by omega)
    unfold hexF
    split
    · intro x hx
      simp at hx
      subst hx
      exact hb
    · intro x hx
      rcases List.mem_append.1 hx with h | h
      · exact hexF_ok f _ x h
      · simp at h
        subst h
        exact hb
/-- The digits so far, from the lowest on. -/
theorem hexF_step {f n : Nat} (h : n / 16 ≠ 0) : hexF (f + 1) n = hexF f (n / 16) ++ [sg (n % 16)] := by rw [hexF, if_neg h]
theorem hexF_last {f n : Nat} (h : n / 16 = 0) : hexF (f + 1) n = [sg (n % 16)] := by rw [hexF, if_pos h]
/-- The buffer: the last k places are these digits. -/
def bufH (l : List Int) : Array Value := ((List.replicate (16 - l.length) (0 : Int) ++ l).flatMap encB).toArray
theorem bufH_size {l : List Int} (h : l.length ≤ 16) : (bufH l).size = 16 := by
  unfold bufH
  rw [List.size_toArray, flatB_len]
  simp
  omega
theorem bufH_set {l : List Int} {d : Int} (h : l.length < 16) : (bufH l).setIfInBounds (15 - l.length) (.int .u8 d) = bufH (d :: l) := by
  unfold bufH
  obtain ⟨m, hm⟩ : ∃ m, 16 - l.length = m + 1 := ⟨15 - l.length, by omega⟩
  rw [hm, show 15 - l.length = m by omega, show 16 - (d :: l).length = m by simp; omega, List.replicate_succ', List.append_assoc]
  have e : ∀ (a b : List Int) (x y : Int), (((a ++ ([x] ++ b)).flatMap encB).toArray).setIfInBounds a.length (.int .u8 y) = ((a ++ (y :: b)).flatMap encB).toArray := fun a b x y => by
    rw [List.setIfInBounds_toArray]
    congr 1
    rw [List.flatMap_append, List.flatMap_append, List.flatMap_append, List.flatMap_cons]
    have hl : (a.flatMap encB).length = a.length := flatB_len a
    rw [← hl, List.set_append_right _ _ (Nat.le_refl _)]
    simp [encB]
  have := e (List.replicate m 0) l 0 d
  rw [List.length_replicate] at this
  exact this
theorem bufH_tail (l : List Int) (h : l.length ≤ 16) (j : Nat) : (bufH l)[16 - l.length + j]? = (l.flatMap encB)[j]? := by
  unfold bufH
  rw [List.flatMap_append]
  have e : ((List.replicate (16 - l.length) (0 : Int)).flatMap encB).length = 16 - l.length := by
    rw [flatB_len, List.length_replicate]
  rw [List.getElem?_toArray, List.getElem?_append_right (by rw [e]; omega), e]
  congr 1
  omega
theorem bufH_rd {w : World} {b c : Nat} {l : List Int} (hB : Blk w b 180 (bufH l)) (hc : c + l.length = 16) : Rd w (b + 1) 1 (some ⟨b, c, none⟩) (16 - c) (l.flatMap encB) := by
  refine ⟨?_, fun _ => ⟨b, c, rfl, Nat.lt_succ_self b, fun j u hj => ?_⟩⟩
  · rw [flatB_len]
    omega
  · rw [hB.cell, ← hj, ← bufH_tail l (by omega) j]
    congr 1
    omega
set_option maxRecDepth 100000 in
set_option maxHeartbeats 2000000 in
theorem hex_any (n : Nat) (hn : n < 18446744073709551616) (w : World) : Calls Try.prog 91 #[.int .u64 n] w fun e w' => e = .returned (.string (strOfNums (hexN n))) ∧ Below w.heap.size w w' := by
  go_enter Try.func91, Try.ntmps91
  go_wp2_with fail
  have hB0 : Blk (w.alloc (.cells #[.int .u8 0, .int .u8 0, .int .u8 0, .int .u8 0, .int .u8 0, .int .u8 0, .int .u8 0, .int .u8 0, .int .u8 0, .int .u8 0, .int .u8 0, .int .u8 0, .int .u8 0, .int .u8 0, .int .u8 0, .int .u8 0] 180)) w.heap.size 180 (bufH []) := Blk.new w _ _
  have hb0 := bal (Below.refl w.heap.size w) (.cells #[.int .u8 0, .int .u8 0, .int .u8 0, .int .u8 0, .int .u8 0, .int .u8 0, .int .u8 0, .int .u8 0, .int .u8 0, .int .u8 0, .int .u8 0, .int .u8 0, .int .u8 0, .int .u8 0, .int .u8 0, .int .u8 0] 180)
  go_loopw [0, 4] (fun nv iv wr => ∃ (m c : Nat) (l : List Int), nv = .int .u64 m ∧ iv = .int .i64 ((c + 1 : Nat) : Int) ∧ c + 1 + l.length = 16 ∧ Hid (hexN n = hexF (c + 1) m ++ l) ∧ Hid (m < 16 ^ (c + 1)) ∧ m < 18446744073709551616 ∧ Hid (Blk wr w.heap.size 180 (bufH l)) ∧ Below w.heap.size w wr) (fun nv _ _ => (intOf nv).toNat)
  case atStart => exact ⟨n, 15, [], rfl, rfl, rfl, by simp [hexN, Hid], hn, hn, hB0, hb0⟩
  case round =>
    obtain ⟨m, c, l, rfl, rfl, hcl, hx, hm16, hm, hB, hb⟩ := hrel
    clear hB0 hb0
    have hll : l.length < 16 := by omega
    have hcb : c < 16 := by omega
    have ha := and15 m hm
    have hsg := sign_at (m % 16) (by omega)
    have hcut := fun w' => run_cut16 w' w.heap.size c (by omega)
    have hset := bufH_set (l := l) (d := sg (m % 16)) hll
    rw [show 15 - l.length = c by omega] at hset
    have hsz := bufH_size (l := l) (by omega)
    have hcell := hB.out.cell c
    have hfr := hB.out.frozen c
    obtain ⟨u0, hu0⟩ : ∃ u, (bufH l)[c]? = some u := ⟨_, Array.getElem?_eq_getElem (by rw [hsz]; omega)⟩
    rw [hu0] at hcell
    have HB2 := Lib.hid (show Blk (wr.setCell ⟨w.heap.size, c, none⟩ (.int .u8 (sg (m % 16)))) w.heap.size 180 (bufH (sg (m % 16) :: l)) by
      have := hB.out.set_ c (.int .u8 (sg (m % 16)))
      rw [hset] at this
      exact this)
    have hb2 := hb.setCell (p := ⟨w.heap.size, c, none⟩) (Nat.le_refl _) (.int .u8 (sg (m % 16)))
    clear hset hu0 hB hsz
    by_cases h0 : m / 16 = 0
    · have hcv := conv_str (n := 16 - c) (l := sg (m % 16) :: l) (A := some ⟨w.heap.size, c, none⟩) (bufH_rd (c := c) HB2.out (by rw [List.length_cons]; omega)) (by rw [List.length_cons]; omega) (16 - c)
      have hq : ((m : Int) / 16 == 0) = true := by simpa using (show (m : Int) / 16 = 0 by omega)
      clear HB2
      go_wp2_with fail
      have hx' := hx.out
      rw [hexF_last h0] at hx'
      have hx2 : sg (m % 16) :: l = hexN n := hx'.symm
      rw [hx2]
      exact bodyPost_ret (v := .string (strOfNums (hexN n))) (by simp [results, Try.results91, go_sem]) rfl ⟨rfl, hb2⟩
    · have hq : ((m : Int) / 16 == 0) = false := by simpa using (show ¬ (m : Int) / 16 = 0 by omega)
      clear hcut
      go_wp2_with fail
      have hc1 : 1 ≤ c := by
        rcases Nat.eq_zero_or_pos c with h | h
        · subst h
          have := hm16.out
          omega
        · exact h
      obtain ⟨c', rfl⟩ : ∃ c', c = c' + 1 := ⟨c - 1, by omega⟩
      refine ⟨⟨m / 16, c', sg (m % 16) :: l, rfl, rfl, by simp; omega, ?_, ?_, by omega, HB2, hb2⟩, ?_⟩
      · have hx' := hx.out
        rw [hexF_step h0] at hx'
        show hexN n = _
        simpa using hx'
      · have := hm16.out
        rw [Nat.pow_succ] at this
        exact (Nat.div_lt_iff_lt_mul (by omega)).2 this
      · show ((m : Int) / 16).toNat < (m : Int).toNat
        omega
end Go.Proofs.Ytnkpaockginooaa
namespace Go.Proofs.Ytnkpaockginooaa
set_option linter.unusedVariables false
set_option linter.unusedSimpArgs false
open Go.RowKit Go.Sort

theorem enc_sg (d : Nat) (h : d < 16) : Utf8.encode (sg d) = strOfNums [sg d] := by
  have : d = 0 ∨ d = 1 ∨ d = 2 ∨ d = 3 ∨ d = 4 ∨ d = 5 ∨ d = 6 ∨ d = 7 ∨ d = 8 ∨ d = 9 ∨ d = 10 ∨ d = 11 ∨ d = 12 ∨ d = 13 ∨ d = 14 ∨ d = 15 := by omega
  rcases this with rfl | rfl | rfl | rfl | rfl | rfl | rfl | rfl | rfl | rfl | rfl | rfl | rfl | rfl | rfl | rfl <;> decide +kernel
theorem strOfNums_app (a b : List Int) : strOfNums a ++ strOfNums b = strOfNums (a ++ b) := by
  apply ByteArray.ext
  rw [ByteArray.data_append]
  simp [strOfNums]
theorem run_cat (w : World) (a b : List Int) (h : a.length + b.length ≤ 8388608) : (Op.stringOp .add (strOfNums a) (strOfNums b)).run Try.prog w = .ok (.string (strOfNums (a ++ b))) w := by
  have h1 : (strOfNums a).size + (strOfNums b).size ≤ 9223372036854775807 := by
    rw [strOfNums_size, strOfNums_size]
    omega
  have h2 := run_string_add_sum (P := Try.prog) (w := w) _ _ h1
  rw [strOfNums_app] at h2
  exact h2
set_option maxRecDepth 100000 in
set_option maxHeartbeats 2000000 in
theorem refHex_any (n : Nat) (hn : n < 18446744073709551616) (w : World) : Calls Try.prog 59 #[.int .u64 n] w fun e w' => e = .returned (.string (strOfNums (hexN n))) ∧ w' = w := by
  go_enter Try.func59, Try.ntmps59
  have hsg := sign_at (n % 16) (by omega)
  have hen := enc_sg (n % 16) (by omega)
  go_wp2_with fail
  clear hsg hen
  go_loopw [0, 3] (fun nv iv wr => ∃ (m f : Nat) (l : List Int), nv = .int .u64 m ∧ iv = .string (strOfNums (sg (m % 16) :: l)) ∧ f + l.length = 15 ∧ Hid (hexN n = hexF (f + 1) m ++ l) ∧ Hid (m < 16 ^ (f + 1)) ∧ m < 18446744073709551616 ∧ wr = w) (fun nv _ _ => (intOf nv).toNat)
  case atStart => exact ⟨n, 15, [], rfl, rfl, rfl, by simp [hexN, Hid], hn, hn, rfl⟩
  case round =>
    obtain ⟨m, f, l, rfl, rfl, hfl, hx, hm16, hm, rfl⟩ := hrel
    have hsg := sign_at (m / 16 % 16) (by omega)
    have hen := enc_sg (m / 16 % 16) (by omega)
    have hap := run_cat wr [sg (m / 16 % 16)] (sg (m % 16) :: l) (by simp; omega)
    by_cases h0 : 16 ≤ m
    · have hq : decide (16 ≤ (m : Int)) = true := by simpa using (show 16 ≤ (m : Int) by omega)
      go_wp2_with fail
      have hf1 : 1 ≤ f := by
        rcases Nat.eq_zero_or_pos f with h | h
        · subst h
          have := hm16.out
          omega
        · exact h
      obtain ⟨f', rfl⟩ : ∃ c', f = c' + 1 := ⟨f - 1, by omega⟩
      refine ⟨⟨m / 16, f', sg (m % 16) :: l, rfl, rfl, by rw [List.length_cons]; omega, ?_, ?_, by omega, trivial⟩, ?_⟩
      · have hx' := hx.out
        rw [hexF_step (by omega)] at hx'
        show hexN n = _
        simpa using hx'
      · have := hm16.out
        rw [Nat.pow_succ] at this
        exact (Nat.div_lt_iff_lt_mul (by omega)).2 this
      · show ((m : Int) / 16).toNat < (m : Int).toNat
        omega
    · have hq : decide (16 ≤ (m : Int)) = false := by simpa using (show ¬ 16 ≤ (m : Int) by omega)
      clear hap hsg hen
      go_wp2_with fail
      have hx' := hx.out
      rw [hexF_last (by omega)] at hx'
      have hx2 : sg (m % 16) :: l = hexN n := hx'.symm
      rw [hx2]
      exact bodyPost_ret (v := .string (strOfNums (hexN n))) (by simp [results, Try.results59, go_sem]) rfl ⟨rfl, rfl⟩
end Go.Proofs.Ytnkpaockginooaa
