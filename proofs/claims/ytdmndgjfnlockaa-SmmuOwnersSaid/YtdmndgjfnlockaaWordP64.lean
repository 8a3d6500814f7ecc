/- Numbers of eight bytes, put (word.put at uint64). -/
import Derived.Test.YtdmndgjfnlockaaWord64
import Derived.Laws.CopyOwn
import Derived.Laws.MakeOwn
namespace Go.Proofs.Ytdmndgjfnlockaa
set_option linter.unusedVariables false
open Go.RowKit Go.Sort

def encQ (x : Int) : List Value := [.int .u64 x]
def byteN (x : Int) (j : Nat) : Int := x / 2 ^ (8 * j) % 256
/-- The bytes of a number. -/
def bytesOf (low : Bool) (x : Int) : List Int := (List.range 8).map fun i => byteN x (if low then i else 7 - i)
theorem bytesOf_len (low : Bool) (x : Int) : (bytesOf low x).length = 8 := by simp [bytesOf]
theorem bytesOf_step (low : Bool) (x : Int) (i : Nat) (h : i < 8) : (bytesOf low x).take (i + 1) = (bytesOf low x).take i ++ [byteN x (if low then i else 7 - i)] := by
  rw [List.take_succ_eq_append_getElem (by rw [bytesOf_len]; exact h)]
  simp [bytesOf]
theorem info_u8 : (Try.prog.info? 5).map (fun i => (i.zero, i.size, i.bytes)) = some (some (.int .u8 0), 1, 1) := by kernel_rfl
theorem u8_elem : ElemInfo Try.prog 61 5 1 1 := by
  obtain ⟨i, hi, hz, hs, hb⟩ := info_parts info_u8
  exact ⟨Try.underlying61, ⟨i, _, hi, hz, hs, hb, rfl⟩, by decide⟩
theorem one_b (l : List Int) : ∀ u ∈ l.flatMap encB, u.oneCell' = true := by
  intro u hu; obtain ⟨x, _, hx⟩ := List.mem_flatMap.1 hu; simp [encB] at hx; subst hx; rfl
theorem flatB_len (l : List Int) : (l.flatMap encB).length = l.length := by rw [flatMap_length (s := 1) (fun _ => rfl)]; omega

/-- make([]byte, m, c). -/
theorem make_b (w : World) (m c : Nat) (h : m ≤ c) (hc : c ≤ 1000000000000) :
    (Instr.makeSlice 61 (.int .i64 (m : Int)) (.int .i64 (c : Int))).run Try.prog w = .ok (.slice (some ⟨w.heap.size, 0, none⟩) m c) (w.alloc (.cells (madeCells (Value.int .u8 0).cells (c * 1)) 5)) := by
  obtain ⟨i, hi, hz, hs, hb⟩ := info_parts info_u8
  have := run_make (P := Try.prog) w 61 5 i _ Try.underlying61 hi hz .i64 .i64 m c (by omega) (by omega) (by rw [hb]; omega) (by omega)
  rw [hs] at this
  simpa using this

set_option maxHeartbeats 2000000 in
theorem bal' {B : Nat} {w w1 : World} (h : Below B w w1) (o : Obj) (hB : B ≤ w1.heap.size := by omega) : Below B w (w1.alloc o) := h.alloc hB o
theorem rd_pos {w : World} {B n : Nat} {A d : Option Addr} {xs : List Value} (h : Rd w B 1 A n xs) (hn : 0 < xs.length → 0 < n) : 0 < xs.length → d = d ∧ ∃ ad, A = some ad ∧ ∀ j v, xs[j]? = some v → w.cell? (ad.add j) = some v := by
  intro hp
  obtain ⟨b, o, rfl, hb, hc⟩ := h.2 (hn hp)
  refine ⟨rfl, _, rfl, fun j v hv => ?_⟩
  have := hc j v hv
  by_cases hj : j = 0
  · subst hj; simpa [Addr.add] using this
  · simpa [Addr.add, hj] using this

set_option maxRecDepth 100000 in
set_option maxHeartbeats 2000000 in
theorem put64_any (A A2 : Option Addr) (n c n2 c2 : Nat) (bs l : List Int) (low : Bool) (w : World) (hl : bs.length = n) (hl2 : l.length = n2) (hm : n ≤ 100000000) (hm2 : n2 ≤ 100000000) (hx : ∀ x ∈ l, 0 ≤ x ∧ x < 18446744073709551616)
    (hr : Rd w w.heap.size 1 A n (bs.flatMap encB)) (hr2 : Rd w w.heap.size 1 A2 n2 (l.flatMap encQ)) :
    Calls Try.prog 37 #[.slice A n c, .bool low, .slice A2 n2 c2] w fun e w' => ∃ A' c', e = .returned (.slice A' (n + 8 * n2) c') ∧ w'.ownsRow w.heap.size 5 1 (.slice A' (n + 8 * n2) c') (n + 8 * n2) ((bs ++ l.flatMap (bytesOf low)).flatMap encB) ∧ Below w.heap.size w w' := by
  have hmk := fun w => make_b w n (n + 8 * n2) (by omega) (by omega)
  rw [show (((n + 8 * n2 : Nat)) : Int) = (n : Int) + 8 * (n2 : Int) by omega] at hmk
  have HL := Lib.hid hl
  have HL2 := Lib.hid hl2
  have HR := Lib.hid hr
  have HR2 := Lib.hid hr2
  have HX := Lib.hid hx
  clear hl hl2 hr hr2 hx
  go_enter Try.func37, Try.ntmps37
  have hmc : (madeCells #[Value.int .u8 0] (n + 8 * n2)).size = n + 8 * n2 := by have := size_madeCells #[Value.int .u8 0] (n + 8 * n2); simpa using this
  have HG := Lib.hid (show (w.alloc (.cells (madeCells #[Value.int .u8 0] (n + 8 * n2)) 5)).heap[w.heap.size]? = some (.cells (madeCells #[Value.int .u8 0] (n + 8 * n2)).toList.toArray 5 (0, 0)) from heap_alloc_new w _)
  have HN := Lib.hid (show (bs.flatMap encB).length = Nat.min n n by rw [flatB_len, HL.out]; exact (Nat.min_self n).symm)
  have HP := Lib.hid (show 0 < (bs.flatMap encB).length → 0 < n by rw [flatB_len, HL.out]; exact id)
  have HF := Lib.hid (show 0 + (bs.flatMap encB).length ≤ (madeCells #[Value.int .u8 0] (n + 8 * n2)).toList.length by rw [flatB_len, HL.out, Array.length_toList, hmc]; omega)
  have HSZ := Lib.hid (show (Try.prog.info? 5).map (·.size) = some 1 by kernel_rfl)
  have HMC := Lib.hid hmc
  clear hmc
  have tok : True := trivial
  go_upto_region 3 with (go_at_call 39; refine (size64_any _).mono ?_; rintro e w1 ⟨rfl, rfl⟩)
  go_wp2_with (first
    | (refine wpList_copy_splice (by rfl) (.tmp 24) (.tmp 25) _ _ (by rfl) 5 Try.underlying61 HSZ.out (some ⟨w.heap.size, 0, none⟩) A n (n + 8 * n2) n c (by rfl) (by rfl) w.heap.size 0 (madeCells #[Value.int .u8 0] (n + 8 * n2)).toList 5 HG.out (bs.flatMap encB) HN.out (rd_pos (HR.out.alloc (Nat.le_refl _) _) HP.out) HF.out (one_b bs) w.heap.size w ((Below.refl _ _).alloc (Nat.le_refl _) _) (Nat.le_refl _) ?_
       intro w2 hg2 hb2))
  have hown : w2.ownsRow w.heap.size 5 1 (.slice (some ⟨w.heap.size, 0, none⟩) n (n + 8 * n2)) n (bs.flatMap encB) := by
    refine ⟨by rw [flatB_len, HL.out, Nat.mul_one], .inr ⟨w.heap.size, n + 8 * n2, _, rfl, Nat.le_refl _, hg2.out, by omega, by unfold maxLen; omega, ?_, ?_⟩⟩
    · have hlb := flatB_len bs
      rw [HL.out] at hlb
      generalize bs.flatMap encB = xs at *
      simp [splice, hlb, HMC.out]
    · have hlb := flatB_len bs
      rw [HL.out] at hlb
      generalize bs.flatMap encB = xs at *
      simp [splice, hlb]
  clear hmk hg2 HG HN HP HF HMC
  go_wp2_with fail
  go_loopw [8, 29] (fun v i wr => ∃ k : Nat, k ≤ n2 ∧ i = .int .i64 k ∧ ∃ A' c', v = .slice A' (n + 8 * k) c' ∧ wr.ownsRow w.heap.size 5 1 (.slice A' (n + 8 * k) c') (n + 8 * k) ((bs ++ (l.take k).flatMap (bytesOf low)).flatMap encB) ∧ Below w.heap.size w wr) (fun _ i _ => n2 - (intOf i).toNat)
  case atStart => exact ⟨0, by omega, rfl, _, _, rfl, by simpa using hown, hb2⟩
  case round =>
    obtain ⟨k, hk, rfl, A', c', rfl, hown1, hb⟩ := hrel
    clear hown hb2
    by_cases hlt : k < n2
    · have hlt' : k < l.length := by rw [HL2.out]; exact hlt
      obtain ⟨b, o, rfl, hbb, hc⟩ := (HR2.out.below hb).row (fun _ => rfl) hlt' HL2.out
      have d := hc 0 (by omega)
      simp only [encQ, Nat.add_zero, Nat.mul_one, List.getElem?_cons_zero] at d
      obtain ⟨hx0, hx1⟩ := HX.out _ (List.getElem_mem hlt')
      have HT := Lib.hid (List.take_succ_eq_append_getElem hlt')
      clear hc
      generalize l[k] = x at *
      obtain ⟨wo, rfl⟩ : ∃ wo : World, wo = wr := ⟨_, rfl⟩
      have HO := Lib.hid hown1
      clear hown1
      go_wp2_with fail
      go_loopw [8, 34] (fun v i wi => ∃ j : Nat, j ≤ 8 ∧ i = .int .i64 j ∧ ∃ A1 c1, v = .slice A1 (n + 8 * k + j) c1 ∧ wi.ownsRow w.heap.size 5 1 (.slice A1 (n + 8 * k + j) c1) (n + 8 * k + j) (((bs ++ (l.take k).flatMap (bytesOf low)) ++ (bytesOf low x).take j).flatMap encB) ∧ Below w.heap.size w wi) (fun _ i _ => 8 - (intOf i).toNat)
      case atStart => exact ⟨0, by omega, rfl, _, _, rfl, by simpa using HO.out, hb⟩
      case round =>
        obtain ⟨j, hj, rfl, A1, c1, rfl, hown2, hb1⟩ := hrel
        by_cases hjt : j < 8
        · have hbj := Lib.hid (bytesOf_step low x j hjt)
          have hM : (n + 8 * k + j) + 1 ≤ maxLen := by unfold maxLen; omega
          have HM := Lib.hid hM
          have HM2 := Lib.hid (show ((n + 8 * k + j) + 1) * 1 ≤ 140737488355328 by omega)
          clear hM
          have hn0 : w.heap.size ≤ wr.heap.size := hb1.size
          cases low
          all_goals
            go_wp2_with (at_builtin; refine wpList_app u8_elem rfl (.tmp 43) (.tmp 49) rfl w.heap.size (hown2.alloc _) rfl rfl (Rd.fresh _ _ _ 1 1 _ rfl) (by simp [Value.oneCell']) HM.out HM2.out (by simp; omega) ?_; intro v3 w3 hown3 hb3 _; obtain ⟨A3, c3, rfl, _, _⟩ := own_slice hown3)
            go_roundw
            case rel =>
              refine ⟨j + 1, by omega, by go_num, A3, c3, rfl, ?_, (bal' hb1 _).trans hb3⟩
              rw [hbj.out, ← List.append_assoc, List.flatMap_append]
              exact hown3
            case measure => simp [intOf]; omega
        · obtain rfl : j = 8 := by omega
          clear HO
          go_wp2_with fail
          go_roundw
          case rel =>
            refine ⟨k + 1, by omega, by go_num, A1, c1, by rw [show n + 8 * k + 8 = n + 8 * (k + 1) by omega], ?_, hb1⟩
            rw [HT.out, show bs ++ (List.take k l ++ [x]).flatMap (bytesOf low) = bs ++ (List.take k l).flatMap (bytesOf low) ++ bytesOf low x by simp]
            rw [show (bytesOf low x).take 8 = bytesOf low x from List.take_of_length_le (by rw [bytesOf_len]; exact Nat.le_refl _), show n + 8 * k + 8 = n + 8 * (k + 1) by omega] at hown2
            exact hown2
          case measure => simp [intOf]; omega
    · obtain rfl : k = n2 := by omega
      go_wp2_with fail
      go_ret
      rw [List.take_of_length_le (by rw [HL2.out]; exact Nat.le_refl _)] at hown1
      exact ⟨A', c', rfl, hown1, hb⟩
end Go.Proofs.Ytdmndgjfnlockaa
