/- Numbers read out of bytes, at uint32 and uint64, whole: word.read, Be32, Be64. -/
import Derived.Test.YtmhbpfclfffgkaaNum
import Derived.Deep.CutRange
namespace Go.Proofs.Ytmhbpfclfffgkaa
set_option linter.unusedVariables false
open Go.RowKit Go.Sort

theorem or_byte64 (x c : Int) (h0 : 0 ≤ x) (h1 : x < 72057594037927936) (k0 : 0 ≤ c) (k1 : c < 256) : bits .or .u64 (x * 256) c = x * 256 + c := or_byte x c h0 h1 k0 k1
theorem pw64 : ∀ k, k < 8 → (256 : Int) ^ k ≤ 72057594037927936 := by decide
theorem pw32 : ∀ k, k < 4 → (256 : Int) ^ k ≤ 16777216 := by decide
theorem or_byte32 (x c : Int) (h0 : 0 ≤ x) (h1 : x < 16777216) (k0 : 0 ≤ c) (k1 : c < 256) : bits .or .u32 (x * 256) c = x * 256 + c := by
  obtain ⟨x, rfl⟩ := Int.eq_ofNat_of_zero_le h0
  obtain ⟨c, rfl⟩ := Int.eq_ofNat_of_zero_le k0
  have h := u32_or_nat (x * 256) c (by omega) (by omega)
  have e := Nat.shiftLeft_add_eq_or_of_lt (i := 8) (show c < 2 ^ 8 by omega) x
  rw [Nat.shiftLeft_eq, show (2 : Nat) ^ 8 = 256 by decide] at e
  rw [← e] at h
  simpa using h
theorem gsize32_any (w : World) : Calls Try.prog 128 #[] w fun e w' => e = .returned (.int .i64 4) ∧ w = w' := by
  go_enter Try.func128, Try.ntmps128
  go_wp2
  all_goals (go_ret; exact ⟨rfl, rfl⟩)

set_option maxHeartbeats 1000000 in
theorem get32_no (A : Option Addr) (n c : Nat) (at_ : Int) (low : Bool) (w : World) (hm : n ≤ 1000000000) (h : at_ < 0 ∨ n < 4 ∨ (n : Int) - 4 < at_) :
    Calls Try.prog 140 #[.slice A n c, .int .i64 at_, .bool low] w fun e w' => e = .returned (.tuple #[.int .u32 0, .bool false]) ∧ w = w' := by
  go_enter Try.func140, Try.ntmps140
  rcases h with h | h | h
  all_goals
    go_wp2_with (go_at_call 128; refine (gsize32_any _).mono ?_; rintro e w1 ⟨rfl, rfl⟩)
    all_goals (go_ret2; exact ⟨rfl, rfl⟩)

set_option maxHeartbeats 2000000 in
theorem get32_yes (A : Option Addr) (n c : Nat) (l : List Int) (a : Nat) (low : Bool) (w : World) (hl : l.length = n) (hok : BytesOk l) (hm : n ≤ 1000000000) (h : a + 4 ≤ n) (hr : Rd w w.heap.size 1 A n (l.flatMap encB)) :
    Calls Try.prog 140 #[.slice A n c, .int .i64 a, .bool low] w fun e w' => e = .returned (.tuple #[.int .u32 (numB (seqN l a 4 low)), .bool true]) ∧ w = w' := by
  obtain ⟨b, o, rfl, hb, hc⟩ := hr.row (fun _ => rfl) (k := 0) (by omega) hl
  clear hc
  have hcell : ∀ j, j < n → w.cell? ⟨b, o + j, none⟩ = some (.int .u8 (l.getD j 0)) := by
    intro j hj
    obtain ⟨b', o', e, _, hc⟩ := hr.row (fun _ => rfl) (k := j) (by omega) hl
    simp only [Option.some.injEq, Addr.mk.injEq, and_true] at e
    obtain ⟨rfl, rfl⟩ := e
    have := hc 0 (by omega)
    simpa [encB, List.getD_eq_getElem?_getD, show j < l.length by omega] using this
  have hbd : ∀ j, j < n → 0 ≤ l.getD j 0 ∧ l.getD j 0 < 256 := fun j hj => hok _ (by simp [List.getD_eq_getElem?_getD, show j < l.length by omega])
  have hS : ∀ k, k < 4 → numB ((seqN l a 4 low).take (k + 1)) = numB ((seqN l a 4 low).take k) * 256 + l.getD (if low then a + (4 - 1 - k) else a + k) 0 := by
    intro k hk
    have hk' : k < (seqN l a 4 low).length := by rw [seqN_len (by omega)]; exact hk
    rw [List.take_succ_eq_append_getElem hk', numB_snoc]
    congr 1
    have := seqN_at (l := l) (a := a) (s := 4) (low := low) (by omega) hk
    rw [List.getElem?_eq_getElem hk'] at this
    rw [List.getD_eq_getElem?_getD, ← this]; rfl
  have hB : ∀ k, k < 4 → 0 ≤ numB ((seqN l a 4 low).take k) ∧ numB ((seqN l a 4 low).take k) < 16777216 := by
    intro k hk
    have hk' : ((seqN l a 4 low).take k).length = k := by rw [List.length_take, seqN_len (by omega)]; omega
    have h1 := numB_bd k _ hk' (fun x hx => seqN_ok hok x (List.mem_of_mem_take hx))
    refine ⟨h1.1, Int.lt_of_lt_of_le h1.2 ?_⟩
    exact pw32 k hk
  have hF : numB ((seqN l a 4 low).take 4) = numB (seqN l a 4 low) := by rw [List.take_of_length_le (by rw [seqN_len (by omega)]; exact Nat.le_refl _)]
  have HC := Lib.hid hcell
  have HD := Lib.hid hbd
  have HS := Lib.hid hS
  have HB := Lib.hid hB
  have HF := Lib.hid hF
  clear hcell hbd hS hB hF hr hok hl
  go_enter Try.func140, Try.ntmps140
  go_wp2_with (go_at_call 128; refine (gsize32_any _).mono ?_; rintro e w1 ⟨rfl, rfl⟩)
  go_loop [9, 10, 11, 30] (fun x _ _ i => ∃ k : Nat, k ≤ 4 ∧ i = .int .i64 k ∧ x = .int .u32 (numB ((seqN l a 4 low).take k))) (fun _ _ _ i => 4 - (intOf i).toNat)
  case atStart => exact ⟨0, by omega, rfl, rfl⟩
  case round =>
    obtain ⟨k, hk, rfl, rfl⟩ := hrel
    by_cases hlt : k < 4
    · obtain ⟨x0, x1⟩ := HB.out k hlt
      have d1 := HC.out (a + k) (by omega)
      have d2 := HC.out (a + (4 - 1 - k)) (by omega)
      obtain ⟨c0, c1⟩ := HD.out (a + k) (by omega)
      obtain ⟨c2, c3⟩ := HD.out (a + (4 - 1 - k)) (by omega)
      have hs : numB ((seqN l a 4 low).take (k + 1)) = numB ((seqN l a 4 low).take k) * 256 + (if low = true then l.getD (a + (4 - 1 - k)) 0 else l.getD (a + k) 0) := by rw [HS.out k hlt]; split <;> rfl
      generalize l.getD (a + k) 0 = y at *
      generalize l.getD (a + (4 - 1 - k)) 0 = z at *
      generalize numB ((seqN l a 4 low).take k) = x at *
      rw [show a + (4 - 1 - k) = a + (4 - 1) - k by omega] at d2
      have HZ := Lib.hid hs
      clear hs
      have HY := Lib.hid (or_byte32 x y x0 x1 c0 c1)
      have HV := Lib.hid (or_byte32 x z x0 x1 c2 c3)
      cases low
      · go_wp2
        go_round
        case rel => exact ⟨k + 1, by omega, by go_num, by rw [HZ.out, HY.out]; rfl⟩
        case measure => simp [intOf]; omega
      · go_wp2
        go_round
        case rel => exact ⟨k + 1, by omega, by go_num, by rw [HZ.out, HV.out]; rfl⟩
        case measure => simp [intOf]; omega
    · obtain rfl : k = 4 := by omega
      rw [HF.out]
      go_wp2
      go_ret2
      exact ⟨rfl, rfl⟩
set_option maxHeartbeats 1000000 in
theorem be32_yes (A : Option Addr) (n c : Nat) (l : List Int) (a : Nat) (w : World) (hl : l.length = n) (hok : BytesOk l) (hm : n ≤ 1000000000) (h : a + 4 ≤ n) (hr : Rd w w.heap.size 1 A n (l.flatMap encB)) :
    Calls Try.prog 129 #[.slice A n c, .int .i64 a] w fun e w' => e = .returned (.tuple #[.int .u32 (numB ((l.drop a).take 4)), .bool true]) ∧ w = w' := by
  have H := Lib.hid (get32_yes A n c l a false w hl hok hm h hr)
  clear hr hl hok h
  go_enter Try.func129, Try.ntmps129
  go_wp2_with (go_at_call 140; refine H.out.mono ?_; rintro e w1 ⟨rfl, rfl⟩)
  go_ret2
  exact ⟨rfl, rfl⟩
set_option maxHeartbeats 1000000 in
theorem be32_no (A : Option Addr) (n c : Nat) (at_ : Int) (w : World) (hm : n ≤ 1000000000) (h : at_ < 0 ∨ n < 4 ∨ (n : Int) - 4 < at_) :
    Calls Try.prog 129 #[.slice A n c, .int .i64 at_] w fun e w' => e = .returned (.tuple #[.int .u32 0, .bool false]) ∧ w = w' := by
  have H := Lib.hid (get32_no A n c at_ false w hm h)
  clear h
  go_enter Try.func129, Try.ntmps129
  go_wp2_with (go_at_call 140; refine H.out.mono ?_; rintro e w1 ⟨rfl, rfl⟩)
  go_ret2
  exact ⟨rfl, rfl⟩
end Go.Proofs.Ytmhbpfclfffgkaa
namespace Go.Proofs.Ytmhbpfclfffgkaa
set_option linter.unusedVariables false
open Go.RowKit Go.Sort

theorem bytesN_succ (s : Nat) (x : Int) : bytesN (s + 1) false x = bytesN s false (x / 256) ++ [x % 256] := by
  unfold bytesN
  rw [List.range_succ, List.map_append]
  congr 1
  · refine List.map_congr_left fun i hi => ?_
    have hi := List.mem_range.1 hi
    simp only [Bool.false_eq_true, if_false]
    unfold byteN
    rw [show s + 1 - 1 - i = (s - 1 - i) + 1 by omega, Nat.mul_add, Nat.mul_one, Nat.add_comm, Int.pow_add, ← Int.ediv_ediv_of_nonneg (by decide)]
    rfl
  · simp [byteN]
theorem numB_bytesN : ∀ (s : Nat) (x : Int), 0 ≤ x → x < 256 ^ s → numB (bytesN s false x) = x
  | 0, x, h0, h1 => by simp at h1; simp [bytesN, numB]; omega
  | s + 1, x, h0, h1 => by
    rw [bytesN_succ, numB_snoc, numB_bytesN s (x / 256) (by omega) (by rw [Int.pow_succ] at h1; omega)]
    omega
theorem bytesN_numB : ∀ (s : Nat) (l : List Int), l.length = s → BytesOk l → bytesN s false (numB l) = l
  | 0, l, h, _ => by obtain rfl := List.eq_nil_of_length_eq_zero h; rfl
  | s + 1, l, h, ho => by
    have hne : l ≠ [] := by intro e; rw [e] at h; cases h
    have e := (List.dropLast_concat_getLast hne).symm
    have hl : l.dropLast.length = s := by simp [h]
    have ho2 : BytesOk l.dropLast := fun x hx => ho x ((List.dropLast_sublist l).subset hx)
    have hx := ho _ (List.getLast_mem hne)
    have ih := bytesN_numB s l.dropLast hl ho2
    generalize l.getLast hne = x at *
    generalize l.dropLast = m at *
    rw [e, numB_snoc, bytesN_succ, show (numB m * 256 + x) / 256 = numB m by omega, show (numB m * 256 + x) % 256 = x by omega, ih]
theorem sub_ok {l : List Int} (h : BytesOk l) (a m : Nat) : BytesOk ((l.drop a).take m) := fun x hx => h x (List.mem_of_mem_drop (List.mem_of_mem_take hx))
end Go.Proofs.Ytmhbpfclfffgkaa
