/- Numbers as bytes, bytes as numbers: the plain law. -/
import Derived.Test.YtmhbpfclfffgkaaBytes
import Derived.Laws.BitsAllLaws
import Derived.Laws.CopyOwn
import Derived.Laws.MakeOwn
import Derived.Deep.CutRange
import Derived.Test.YtmhbpfclfffgkaaNear
namespace Go.Proofs.Ytmhbpfclfffgkaa
set_option linter.unusedVariables false
open Go.RowKit Go.Sort

def encQ (x : Int) : List Value := [.int .u64 x]
def encU32 (x : Int) : List Value := [.int .u32 x]
def byteN (x : Int) (j : Nat) : Int := x / 2 ^ (8 * j) % 256
/-- So many bytes of a number. -/
def bytesN (s : Nat) (low : Bool) (x : Int) : List Int := (List.range s).map fun i => byteN x (if low then i else s - 1 - i)
theorem bytesN_len (s : Nat) (low : Bool) (x : Int) : (bytesN s low x).length = s := by simp [bytesN]
theorem bytesN_step (s : Nat) (low : Bool) (x : Int) (i : Nat) (h : i < s) : (bytesN s low x).take (i + 1) = (bytesN s low x).take i ++ [byteN x (if low then i else s - 1 - i)] := by
  rw [List.take_succ_eq_append_getElem (by rw [bytesN_len]; exact h)]
  simp [bytesN]

/-- The bytes of a number of so many bytes in the order in which they are taken. -/
def seqN (l : List Int) (a s : Nat) (low : Bool) : List Int := if low then ((l.drop a).take s).reverse else (l.drop a).take s
theorem seqN_len {l : List Int} {a s : Nat} {low : Bool} (h : a + s ≤ l.length) : (seqN l a s low).length = s := by
  unfold seqN; split <;> simp <;> omega
theorem seqN_at {l : List Int} {a s k : Nat} {low : Bool} (h : a + s ≤ l.length) (hk : k < s) : (seqN l a s low)[k]? = l[if low then a + (s - 1 - k) else a + k]? := by
  unfold seqN
  cases low
  · simp [hk]
  · have hl : ((l.drop a).take s).length = s := by simp; omega
    simp only [if_true]
    rw [List.getElem?_reverse (by omega), hl, List.getElem?_take, if_pos (by omega), List.getElem?_drop]
theorem seqN_ok {l : List Int} {a s : Nat} {low : Bool} (h : BytesOk l) : BytesOk (seqN l a s low) := by
  intro x hx
  unfold seqN at hx
  split at hx
  · exact h x (List.mem_of_mem_drop (List.mem_of_mem_take (List.mem_reverse.1 hx)))
  · exact h x (List.mem_of_mem_drop (List.mem_of_mem_take hx))

theorem or_byte (x c : Int) (h0 : 0 ≤ x) (h1 : x < 72057594037927936) (k0 : 0 ≤ c) (k1 : c < 256) : bits .or .u64 (x * 256) c = x * 256 + c := by
  obtain ⟨x, rfl⟩ := Int.eq_ofNat_of_zero_le h0
  obtain ⟨c, rfl⟩ := Int.eq_ofNat_of_zero_le k0
  have h := u64_or_nat (x * 256) c (by omega) (by omega)
  have e := Nat.shiftLeft_add_eq_or_of_lt (i := 8) (show c < 2 ^ 8 by omega) x
  rw [Nat.shiftLeft_eq, show (2 : Nat) ^ 8 = 256 by decide] at e
  rw [← e] at h
  simpa using h

set_option maxHeartbeats 2000000 in
theorem rd_pos {w : World} {B n : Nat} {A d : Option Addr} {xs : List Value} (h : Rd w B 1 A n xs) (hn : 0 < xs.length → 0 < n) : 0 < xs.length → d = d ∧ ∃ ad, A = some ad ∧ ∀ j v, xs[j]? = some v → w.cell? (ad.add j) = some v := by
  intro hp
  obtain ⟨b, o, rfl, hb, hc⟩ := h.2 (hn hp)
  refine ⟨rfl, _, rfl, fun j v hv => ?_⟩
  have := hc j v hv
  by_cases hj : j = 0
  · subst hj; simpa [Addr.add] using this
  · simpa [Addr.add, hj] using this

theorem bytesN_ok (s : Nat) (low : Bool) (x : Int) : BytesOk (bytesN s low x) := by
  intro y hy
  obtain ⟨i, _, rfl⟩ := List.mem_map.1 hy
  unfold byteN
  omega
end Go.Proofs.Ytmhbpfclfffgkaa
namespace Go.Proofs.Ytmhbpfclfffgkaa
set_option linter.unusedVariables false
open Go.RowKit Go.Sort

theorem size64_any (w : World) : Calls Try.prog 132 #[] w fun e w' => e = .returned (.int .i64 8) ∧ w = w' := by
  go_enter Try.func132, Try.ntmps132
  go_wp2
  all_goals (go_ret; exact ⟨rfl, rfl⟩)
theorem size32_any (w : World) : Calls Try.prog 128 #[] w fun e w' => e = .returned (.int .i64 4) ∧ w = w' := by
  go_enter Try.func128, Try.ntmps128
  go_wp2
  all_goals (go_ret; exact ⟨rfl, rfl⟩)
set_option maxRecDepth 100000 in
set_option maxHeartbeats 2000000 in
theorem put64_any (A A2 : Option Addr) (n c n2 c2 : Nat) (bs l : List Int) (low : Bool) (w : World) (hl : bs.length = n) (hl2 : l.length = n2) (hm : n ≤ 100000000) (hm2 : n2 ≤ 100000000) (hx : ∀ x ∈ l, 0 ≤ x ∧ x < 18446744073709551616)
    (hr : Rd w w.heap.size 1 A n (bs.flatMap encB)) (hr2 : Rd w w.heap.size 1 A2 n2 (l.flatMap encQ)) :
    Calls Try.prog 111 #[.slice A n c, .bool low, .slice A2 n2 c2] w fun e w' => ∃ A' c', e = .returned (.slice A' (n + 8 * n2) c') ∧ w'.ownsRow w.heap.size 5 1 (.slice A' (n + 8 * n2) c') (n + 8 * n2) ((bs ++ l.flatMap (bytesN 8 low)).flatMap encB) ∧ Below w.heap.size w w' := by
  have hmk := fun w => make_b w n (n + 8 * n2) (by omega) (by omega)
  rw [show (((n + 8 * n2 : Nat)) : Int) = (n : Int) + 8 * (n2 : Int) by omega] at hmk
  have HL := Lib.hid hl
  have HL2 := Lib.hid hl2
  have HR := Lib.hid hr
  have HR2 := Lib.hid hr2
  have HX := Lib.hid hx
  clear hl hl2 hr hr2 hx
  go_enter Try.func111, Try.ntmps111
  have hmc : (madeCells #[Value.int .u8 0] (n + 8 * n2)).size = n + 8 * n2 := by have := size_madeCells #[Value.int .u8 0] (n + 8 * n2); simpa using this
  have HG := Lib.hid (show (w.alloc (.cells (madeCells #[Value.int .u8 0] (n + 8 * n2)) 5)).heap[w.heap.size]? = some (.cells (madeCells #[Value.int .u8 0] (n + 8 * n2)).toList.toArray 5 (0, 0)) from heap_alloc_new w _)
  have HN := Lib.hid (show (bs.flatMap encB).length = Nat.min n n by rw [flatB_len, HL.out]; exact (Nat.min_self n).symm)
  have HP := Lib.hid (show 0 < (bs.flatMap encB).length → 0 < n by rw [flatB_len, HL.out]; exact id)
  have HF := Lib.hid (show 0 + (bs.flatMap encB).length ≤ (madeCells #[Value.int .u8 0] (n + 8 * n2)).toList.length by rw [flatB_len, HL.out, Array.length_toList, hmc]; omega)
  have HSZ := Lib.hid (show (Try.prog.info? 5).map (·.size) = some 1 by kernel_rfl)
  have HMC := Lib.hid hmc
  clear hmc
  have tok : True := trivial
  go_upto_region 3 with (go_at_call 132; refine (size64_any _).mono ?_; rintro e w1 ⟨rfl, rfl⟩)
  go_wp2_with (first
    | (refine wpList_copy_splice (by rfl) (.tmp 24) (.tmp 25) _ _ (by rfl) 5 Try.underlying22 HSZ.out (some ⟨w.heap.size, 0, none⟩) A n (n + 8 * n2) n c (by rfl) (by rfl) w.heap.size 0 (madeCells #[Value.int .u8 0] (n + 8 * n2)).toList 5 HG.out (bs.flatMap encB) HN.out (rd_pos (HR.out.alloc (Nat.le_refl _) _) HP.out) HF.out (one_b bs) w.heap.size w ((Below.refl _ _).alloc (Nat.le_refl _) _) (Nat.le_refl _) ?_
       intro w2 hg2 hb2))
  have hown : w2.ownsRow w.heap.size 5 1 (.slice (some ⟨w.heap.size, 0, none⟩) n (n + 8 * n2)) n (bs.flatMap encB) := by
    refine ⟨by rw [flatB_len, HL.out, Nat.mul_one], .inr ⟨w.heap.size, n + 8 * n2, _, rfl, Nat.le_refl _, hg2.out, by omega, by unfold maxLen; omega, ?_, ?_⟩⟩
    · have hlb := flatB_len bs
      rw [HL.out] at hlb
      generalize bs.flatMap encB = xs at *
      simp [splice, hlb, HMC.out]
    · have hlb := flatB_len bs
      rw [HL.out] at hlb
      generalize bs.flatMap encB = xs at *
      simp [splice, hlb]
  clear hmk hg2 HG HN HP HF HMC
  go_wp2_with fail
  go_loopw [8, 29] (fun v i wr => ∃ k : Nat, k ≤ n2 ∧ i = .int .i64 k ∧ ∃ A' c', v = .slice A' (n + 8 * k) c' ∧ wr.ownsRow w.heap.size 5 1 (.slice A' (n + 8 * k) c') (n + 8 * k) ((bs ++ (l.take k).flatMap (bytesN 8 low)).flatMap encB) ∧ Below w.heap.size w wr) (fun _ i _ => n2 - (intOf i).toNat)
  case atStart => exact ⟨0, by omega, rfl, _, _, rfl, by simpa using hown, hb2⟩
  case round =>
    obtain ⟨k, hk, rfl, A', c', rfl, hown1, hb⟩ := hrel
    clear hown hb2
    by_cases hlt : k < n2
    · have hlt' : k < l.length := by rw [HL2.out]; exact hlt
      obtain ⟨b, o, rfl, hbb, hc⟩ := (HR2.out.below hb).row (fun _ => rfl) hlt' HL2.out
      have d := hc 0 (by omega)
      simp only [encQ, Nat.add_zero, Nat.mul_one, List.getElem?_cons_zero] at d
      obtain ⟨hx0, hx1⟩ := HX.out _ (List.getElem_mem hlt')
      have HT := Lib.hid (List.take_succ_eq_append_getElem hlt')
      clear hc
      generalize l[k] = x at *
      obtain ⟨wo, rfl⟩ : ∃ wo : World, wo = wr := ⟨_, rfl⟩
      have HO := Lib.hid hown1
      clear hown1
      go_wp2_with fail
      go_loopw [8, 34] (fun v i wi => ∃ j : Nat, j ≤ 8 ∧ i = .int .i64 j ∧ ∃ A1 c1, v = .slice A1 (n + 8 * k + j) c1 ∧ wi.ownsRow w.heap.size 5 1 (.slice A1 (n + 8 * k + j) c1) (n + 8 * k + j) (((bs ++ (l.take k).flatMap (bytesN 8 low)) ++ (bytesN 8 low x).take j).flatMap encB) ∧ Below w.heap.size w wi) (fun _ i _ => 8 - (intOf i).toNat)
      case atStart => exact ⟨0, by omega, rfl, _, _, rfl, by simpa using HO.out, hb⟩
      case round =>
        obtain ⟨j, hj, rfl, A1, c1, rfl, hown2, hb1⟩ := hrel
        by_cases hjt : j < 8
        · have hbj := Lib.hid (bytesN_step 8 low x j hjt)
          have hM : (n + 8 * k + j) + 1 ≤ maxLen := by unfold maxLen; omega
          have HM := Lib.hid hM
          have HM2 := Lib.hid (show ((n + 8 * k + j) + 1) * 1 ≤ 140737488355328 by omega)
          clear hM
          have hn0 : w.heap.size ≤ wr.heap.size := hb1.size
          cases low
          all_goals
            go_wp2_with (at_builtin; refine wpList_app u8_elem rfl (.tmp 43) (.tmp 49) rfl w.heap.size (hown2.alloc _) rfl rfl (Rd.fresh _ _ _ 1 1 _ rfl) (by simp [Value.oneCell']) HM.out HM2.out (by simp; omega) ?_; intro v3 w3 hown3 hb3 _; obtain ⟨A3, c3, rfl, _, _⟩ := own_slice hown3)
            go_roundw
            case rel =>
              refine ⟨j + 1, by omega, by go_num, A3, c3, rfl, ?_, (bal' hb1 _).trans hb3⟩
              rw [hbj.out, ← List.append_assoc, List.flatMap_append]
              exact hown3
            case measure => simp [intOf]; omega
        · obtain rfl : j = 8 := by omega
          clear HO
          go_wp2_with fail
          go_roundw
          case rel =>
            refine ⟨k + 1, by omega, by go_num, A1, c1, by rw [show n + 8 * k + 8 = n + 8 * (k + 1) by omega], ?_, hb1⟩
            rw [HT.out, show bs ++ (List.take k l ++ [x]).flatMap (bytesN 8 low) = bs ++ (List.take k l).flatMap (bytesN 8 low) ++ bytesN 8 low x by simp]
            rw [show (bytesN 8 low x).take 8 = bytesN 8 low x from List.take_of_length_le (by rw [bytesN_len]; exact Nat.le_refl _), show n + 8 * k + 8 = n + 8 * (k + 1) by omega] at hown2
            exact hown2
          case measure => simp [intOf]; omega
    · obtain rfl : k = n2 := by omega
      go_wp2_with fail
      go_ret
      rw [List.take_of_length_le (by rw [HL2.out]; exact Nat.le_refl _)] at hown1
      exact ⟨A', c', rfl, hown1, hb⟩

theorem putBe64_any (A A2 : Option Addr) (n c n2 c2 : Nat) (bs l : List Int) (w : World) (hl : bs.length = n) (hl2 : l.length = n2) (hm : n ≤ 100000000) (hm2 : n2 ≤ 100000000) (hx : ∀ x ∈ l, 0 ≤ x ∧ x < 18446744073709551616)
    (hr : Rd w w.heap.size 1 A n (bs.flatMap encB)) (hr2 : Rd w w.heap.size 1 A2 n2 (l.flatMap encQ)) :
    Calls Try.prog 82 #[.slice A n c, .slice A2 n2 c2] w fun e w' => ∃ A' c', e = .returned (.slice A' (n + 8 * n2) c') ∧ w'.ownsRow w.heap.size 5 1 (.slice A' (n + 8 * n2) c') (n + 8 * n2) ((bs ++ l.flatMap (bytesN 8 false)).flatMap encB) ∧ Below w.heap.size w w' := by
  have HP := Lib.hid (put64_any A A2 n c n2 c2 bs l false w hl hl2 hm hm2 hx hr hr2)
  clear hl hl2 hx hr hr2
  go_enter Try.func82, Try.ntmps82
  go_wp2_with (go_at_call 111; refine HP.out.mono ?_; rintro e w1 ⟨A', c', rfl, hown, hb1⟩)
  go_ret
  exact ⟨A', c', rfl, hown, hb1⟩
set_option maxRecDepth 100000 in
set_option maxHeartbeats 2000000 in
theorem put32_any (A A2 : Option Addr) (n c n2 c2 : Nat) (bs l : List Int) (low : Bool) (w : World) (hl : bs.length = n) (hl2 : l.length = n2) (hm : n ≤ 100000000) (hm2 : n2 ≤ 100000000) (hx : ∀ x ∈ l, 0 ≤ x ∧ x < 4294967296)
    (hr : Rd w w.heap.size 1 A n (bs.flatMap encB)) (hr2 : Rd w w.heap.size 1 A2 n2 (l.flatMap encU32)) :
    Calls Try.prog 109 #[.slice A n c, .bool low, .slice A2 n2 c2] w fun e w' => ∃ A' c', e = .returned (.slice A' (n + 4 * n2) c') ∧ w'.ownsRow w.heap.size 5 1 (.slice A' (n + 4 * n2) c') (n + 4 * n2) ((bs ++ l.flatMap (bytesN 4 low)).flatMap encB) ∧ Below w.heap.size w w' := by
  have hmk := fun w => make_b w n (n + 4 * n2) (by omega) (by omega)
  rw [show (((n + 4 * n2 : Nat)) : Int) = (n : Int) + 4 * (n2 : Int) by omega] at hmk
  have HL := Lib.hid hl
  have HL2 := Lib.hid hl2
  have HR := Lib.hid hr
  have HR2 := Lib.hid hr2
  have HX := Lib.hid hx
  clear hl hl2 hr hr2 hx
  go_enter Try.func109, Try.ntmps109
  have hmc : (madeCells #[Value.int .u8 0] (n + 4 * n2)).size = n + 4 * n2 := by have := size_madeCells #[Value.int .u8 0] (n + 4 * n2); simpa using this
  have HG := Lib.hid (show (w.alloc (.cells (madeCells #[Value.int .u8 0] (n + 4 * n2)) 5)).heap[w.heap.size]? = some (.cells (madeCells #[Value.int .u8 0] (n + 4 * n2)).toList.toArray 5 (0, 0)) from heap_alloc_new w _)
  have HN := Lib.hid (show (bs.flatMap encB).length = Nat.min n n by rw [flatB_len, HL.out]; exact (Nat.min_self n).symm)
  have HP := Lib.hid (show 0 < (bs.flatMap encB).length → 0 < n by rw [flatB_len, HL.out]; exact id)
  have HF := Lib.hid (show 0 + (bs.flatMap encB).length ≤ (madeCells #[Value.int .u8 0] (n + 4 * n2)).toList.length by rw [flatB_len, HL.out, Array.length_toList, hmc]; omega)
  have HSZ := Lib.hid (show (Try.prog.info? 5).map (·.size) = some 1 by kernel_rfl)
  have HMC := Lib.hid hmc
  clear hmc
  have tok : True := trivial
  go_upto_region 3 with (go_at_call 128; refine (size32_any _).mono ?_; rintro e w1 ⟨rfl, rfl⟩)
  go_wp2_with (first
    | (refine wpList_copy_splice (by rfl) (.tmp 24) (.tmp 25) _ _ (by rfl) 5 Try.underlying22 HSZ.out (some ⟨w.heap.size, 0, none⟩) A n (n + 4 * n2) n c (by rfl) (by rfl) w.heap.size 0 (madeCells #[Value.int .u8 0] (n + 4 * n2)).toList 5 HG.out (bs.flatMap encB) HN.out (rd_pos (HR.out.alloc (Nat.le_refl _) _) HP.out) HF.out (one_b bs) w.heap.size w ((Below.refl _ _).alloc (Nat.le_refl _) _) (Nat.le_refl _) ?_
       intro w2 hg2 hb2))
  have hown : w2.ownsRow w.heap.size 5 1 (.slice (some ⟨w.heap.size, 0, none⟩) n (n + 4 * n2)) n (bs.flatMap encB) := by
    refine ⟨by rw [flatB_len, HL.out, Nat.mul_one], .inr ⟨w.heap.size, n + 4 * n2, _, rfl, Nat.le_refl _, hg2.out, by omega, by unfold maxLen; omega, ?_, ?_⟩⟩
    · have hlb := flatB_len bs
      rw [HL.out] at hlb
      generalize bs.flatMap encB = xs at *
      simp [splice, hlb, HMC.out]
    · have hlb := flatB_len bs
      rw [HL.out] at hlb
      generalize bs.flatMap encB = xs at *
      simp [splice, hlb]
  clear hmk hg2 HG HN HP HF HMC
  go_wp2_with fail
  go_loopw [8, 29] (fun v i wr => ∃ k : Nat, k ≤ n2 ∧ i = .int .i64 k ∧ ∃ A' c', v = .slice A' (n + 4 * k) c' ∧ wr.ownsRow w.heap.size 5 1 (.slice A' (n + 4 * k) c') (n + 4 * k) ((bs ++ (l.take k).flatMap (bytesN 4 low)).flatMap encB) ∧ Below w.heap.size w wr) (fun _ i _ => n2 - (intOf i).toNat)
  case atStart => exact ⟨0, by omega, rfl, _, _, rfl, by simpa using hown, hb2⟩
  case round =>
    obtain ⟨k, hk, rfl, A', c', rfl, hown1, hb⟩ := hrel
    clear hown hb2
    by_cases hlt : k < n2
    · have hlt' : k < l.length := by rw [HL2.out]; exact hlt
      obtain ⟨b, o, rfl, hbb, hc⟩ := (HR2.out.below hb).row (fun _ => rfl) hlt' HL2.out
      have d := hc 0 (by omega)
      simp only [encU32, Nat.add_zero, Nat.mul_one, List.getElem?_cons_zero] at d
      obtain ⟨hx0, hx1⟩ := HX.out _ (List.getElem_mem hlt')
      have HT := Lib.hid (List.take_succ_eq_append_getElem hlt')
      clear hc
      generalize l[k] = x at *
      obtain ⟨wo, rfl⟩ : ∃ wo : World, wo = wr := ⟨_, rfl⟩
      have HO := Lib.hid hown1
      clear hown1
      go_wp2_with fail
      go_loopw [8, 34] (fun v i wi => ∃ j : Nat, j ≤ 4 ∧ i = .int .i64 j ∧ ∃ A1 c1, v = .slice A1 (n + 4 * k + j) c1 ∧ wi.ownsRow w.heap.size 5 1 (.slice A1 (n + 4 * k + j) c1) (n + 4 * k + j) (((bs ++ (l.take k).flatMap (bytesN 4 low)) ++ (bytesN 4 low x).take j).flatMap encB) ∧ Below w.heap.size w wi) (fun _ i _ => 4 - (intOf i).toNat)
      case atStart => exact ⟨0, by omega, rfl, _, _, rfl, by simpa using HO.out, hb⟩
      case round =>
        obtain ⟨j, hj, rfl, A1, c1, rfl, hown2, hb1⟩ := hrel
        by_cases hjt : j < 4
        · have hbj := Lib.hid (bytesN_step 4 low x j hjt)
          have hM : (n + 4 * k + j) + 1 ≤ maxLen := by unfold maxLen; omega
          have HM := Lib.hid hM
          have HM2 := Lib.hid (show ((n + 4 * k + j) + 1) * 1 ≤ 140737488355328 by omega)
          clear hM
          have hn0 : w.heap.size ≤ wr.heap.size := hb1.size
          cases low
          all_goals
            go_wp2_with (at_builtin; refine wpList_app u8_elem rfl (.tmp 43) (.tmp 49) rfl w.heap.size (hown2.alloc _) rfl rfl (Rd.fresh _ _ _ 1 1 _ rfl) (by simp [Value.oneCell']) HM.out HM2.out (by simp; omega) ?_; intro v3 w3 hown3 hb3 _; obtain ⟨A3, c3, rfl, _, _⟩ := own_slice hown3)
            go_roundw
            case rel =>
              refine ⟨j + 1, by omega, by go_num, A3, c3, rfl, ?_, (bal' hb1 _).trans hb3⟩
              rw [hbj.out, ← List.append_assoc, List.flatMap_append]
              exact hown3
            case measure => simp [intOf]; omega
        · obtain rfl : j = 4 := by omega
          clear HO
          go_wp2_with fail
          go_roundw
          case rel =>
            refine ⟨k + 1, by omega, by go_num, A1, c1, by rw [show n + 4 * k + 4 = n + 4 * (k + 1) by omega], ?_, hb1⟩
            rw [HT.out, show bs ++ (List.take k l ++ [x]).flatMap (bytesN 4 low) = bs ++ (List.take k l).flatMap (bytesN 4 low) ++ bytesN 4 low x by simp]
            rw [show (bytesN 4 low x).take 4 = bytesN 4 low x from List.take_of_length_le (by rw [bytesN_len]; exact Nat.le_refl _), show n + 4 * k + 4 = n + 4 * (k + 1) by omega] at hown2
            exact hown2
          case measure => simp [intOf]; omega
    · obtain rfl : k = n2 := by omega
      go_wp2_with fail
      go_ret
      rw [List.take_of_length_le (by rw [HL2.out]; exact Nat.le_refl _)] at hown1
      exact ⟨A', c', rfl, hown1, hb⟩

theorem putBe32_any (A A2 : Option Addr) (n c n2 c2 : Nat) (bs l : List Int) (w : World) (hl : bs.length = n) (hl2 : l.length = n2) (hm : n ≤ 100000000) (hm2 : n2 ≤ 100000000) (hx : ∀ x ∈ l, 0 ≤ x ∧ x < 4294967296)
    (hr : Rd w w.heap.size 1 A n (bs.flatMap encB)) (hr2 : Rd w w.heap.size 1 A2 n2 (l.flatMap encU32)) :
    Calls Try.prog 79 #[.slice A n c, .slice A2 n2 c2] w fun e w' => ∃ A' c', e = .returned (.slice A' (n + 4 * n2) c') ∧ w'.ownsRow w.heap.size 5 1 (.slice A' (n + 4 * n2) c') (n + 4 * n2) ((bs ++ l.flatMap (bytesN 4 false)).flatMap encB) ∧ Below w.heap.size w w' := by
  have HP := Lib.hid (put32_any A A2 n c n2 c2 bs l false w hl hl2 hm hm2 hx hr hr2)
  clear hl hl2 hx hr hr2
  go_enter Try.func79, Try.ntmps79
  go_wp2_with (go_at_call 109; refine HP.out.mono ?_; rintro e w1 ⟨A', c', rfl, hown, hb1⟩)
  go_ret
  exact ⟨A', c', rfl, hown, hb1⟩
end Go.Proofs.Ytmhbpfclfffgkaa
namespace Go.Proofs.Ytmhbpfclfffgkaa
set_option linter.unusedVariables false
open Go.RowKit Go.Sort

/-- A part: where it lies, its bytes. -/
structure Pt where
  A : Option Addr
  n : Nat
  c : Nat
  bs : List Int
def encPt (p : Pt) : List Value := [.slice p.A p.n p.c]
def PtOk (w : World) (B : Nat) (p : Pt) : Prop := p.bs.length = p.n ∧ Rd w B 1 p.A p.n (p.bs.flatMap encB)
def catN (ps : List Pt) : List Int := ps.flatMap (·.bs)
theorem catN_take (ps : List Pt) (k : Nat) (h : k < ps.length) : catN (ps.take (k + 1)) = catN (ps.take k) ++ (ps[k]).bs := by
  unfold catN
  rw [List.take_succ_eq_append_getElem h, List.flatMap_append]
  simp only [List.flatMap_cons, List.flatMap_nil, List.append_nil]
theorem catN_le (ps : List Pt) (k : Nat) : (catN (ps.take k)).length ≤ (catN ps).length := by
  have : ps = ps.take k ++ ps.drop k := (List.take_append_drop k ps).symm
  conv => rhs; rw [this]
  unfold catN
  rw [List.flatMap_append, List.length_append]
  omega

end Go.Proofs.Ytmhbpfclfffgkaa
