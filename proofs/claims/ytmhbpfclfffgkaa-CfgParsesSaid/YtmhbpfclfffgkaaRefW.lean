/- The document's numbers of bytes: portreeveref01.Put, Number. -/
import Derived.Test.YtmhbpfclfffgkaaNum
namespace Go.Proofs.Ytmhbpfclfffgkaa
set_option linter.unusedVariables false
open Go.RowKit Go.Sort

set_option maxRecDepth 100000 in
set_option maxHeartbeats 2000000 in
theorem refPut_any (A : Option Addr) (n c s : Nat) (bs : List Int) (x : Int) (low : Bool) (w : World) (hl : bs.length = n) (hm : n ≤ 100000000) (hs : s ≤ 8) (hx0 : 0 ≤ x) (hx1 : x < 18446744073709551616) (hr : Rd w w.heap.size 1 A n (bs.flatMap encB)) :
    Calls Try.prog 72 #[.slice A n c, .int .u64 x, .int .i64 s, .bool low] w fun e w' => ∃ A' c', e = .returned (.slice A' (n + s) c') ∧ w'.ownsRow w.heap.size 5 1 (.slice A' (n + s) c') (n + s) ((bs ++ bytesN s low x).flatMap encB) ∧ Below w.heap.size w w' := by
  have HL := Lib.hid hl
  have HR := Lib.hid hr
  have HM0 := Lib.hid (show 0 + n ≤ maxLen by unfold maxLen; omega)
  have HM1 := Lib.hid (show (0 + n) * 1 ≤ 140737488355328 by omega)
  clear hl hr
  go_enter Try.func72, Try.ntmps72
  go_wp2_with (at_builtin; refine wpList_app u8_elem rfl (.const (.slice none 0 0)) (.tmp 12) rfl w.heap.size (World.ownsRow_nil _ _ _ _) rfl rfl HR.out (one_b bs) HM0.out HM1.out (Nat.le_refl _) ?_; intro v1 w1 hown1 hb1 _; simp only [Nat.zero_add, List.nil_append] at hown1; obtain ⟨A1, c1, rfl, _, _⟩ := own_slice hown1)
  go_loopw [9, 10] (fun v i wr => ∃ j : Nat, j ≤ s ∧ i = .int .i64 j ∧ ∃ A1 c1, v = .slice A1 (n + j) c1 ∧ wr.ownsRow w.heap.size 5 1 (.slice A1 (n + j) c1) (n + j) ((bs ++ (bytesN s low x).take j).flatMap encB) ∧ Below w.heap.size w wr) (fun _ i _ => s - (intOf i).toNat)
  case atStart => exact ⟨0, by omega, rfl, _, _, rfl, by simpa using hown1, hb1⟩
  case round =>
    obtain ⟨j, hj, rfl, A1, c1, rfl, hown2, hb2⟩ := hrel
    clear hown1 hb1
    by_cases hjt : j < s
    · have hbj := Lib.hid (bytesN_step s low x j hjt)
      have HM := Lib.hid (show n + j + 1 ≤ maxLen by unfold maxLen; omega)
      have HM2 := Lib.hid (show (n + j + 1) * 1 ≤ 140737488355328 by omega)
      have hn0 : w.heap.size ≤ wr.heap.size := hb2.size
      cases low
      all_goals
        go_wp2_with (at_builtin; refine wpList_app u8_elem rfl (.tmp 26) (.tmp 32) rfl w.heap.size (hown2.alloc _) rfl rfl (Rd.fresh _ _ _ 1 1 _ rfl) (by simp [Value.oneCell']) HM.out HM2.out (by simp; omega) ?_; intro v3 w3 hown3 hb3 _; obtain ⟨A3, c3, rfl, _, _⟩ := own_slice hown3)
        go_roundw
        case rel =>
          refine ⟨j + 1, by omega, by go_num, A3, c3, rfl, ?_, (bal' hb2 _).trans hb3⟩
          rw [hbj.out, ← List.append_assoc, List.flatMap_append]
          exact hown3
        case measure => simp [intOf]; omega
    · obtain rfl : j = s := by omega
      rw [List.take_of_length_le (by rw [bytesN_len]; exact Nat.le_refl _)] at hown2
      go_wp2
      go_ret
      exact ⟨A1, c1, rfl, hown2, hb2⟩

set_option maxHeartbeats 1000000 in
theorem refNumber_no (A : Option Addr) (n c s : Nat) (at_ : Int) (low : Bool) (w : World) (hm : n ≤ 9223372036854775807) (hs : s ≤ 8) (h : at_ < 0 ∨ n < s ∨ (n : Int) - s < at_) :
    Calls Try.prog 68 #[.slice A n c, .int .i64 at_, .int .i64 s, .bool low] w fun e w' => e = .returned (.tuple #[.int .u64 0, .bool false]) ∧ w = w' := by
  go_enter Try.func68, Try.ntmps68
  rcases h with h | h | h
  all_goals
    go_wp2
    all_goals (go_ret2; exact ⟨rfl, rfl⟩)

set_option maxHeartbeats 2000000 in
theorem refNumber_yes (A : Option Addr) (n c s : Nat) (l : List Int) (a : Nat) (low : Bool) (w : World) (hl : l.length = n) (hok : BytesOk l) (hm : n ≤ 9223372036854775807) (hs : s ≤ 8) (h : a + s ≤ n) (hr : Rd w w.heap.size 1 A n (l.flatMap encB)) :
    Calls Try.prog 68 #[.slice A n c, .int .i64 a, .int .i64 s, .bool low] w fun e w' => e = .returned (.tuple #[.int .u64 (numB (seqN l a s low)), .bool true]) ∧ w = w' := by
  have hcell : ∀ j, j < n → ∃ b o, A = some ⟨b, o, none⟩ ∧ w.cell? ⟨b, o + j, none⟩ = some (.int .u8 (l.getD j 0)) := by
    intro j hj
    obtain ⟨b', o', e, _, hc⟩ := hr.row (fun _ => rfl) (k := j) (by omega) hl
    have := hc 0 (by omega)
    exact ⟨b', o', e, by simpa [encB, List.getD_eq_getElem?_getD, show j < l.length by omega] using this⟩
  have hbd : ∀ j, j < n → 0 ≤ l.getD j 0 ∧ l.getD j 0 < 256 := fun j hj => hok _ (by simp [List.getD_eq_getElem?_getD, show j < l.length by omega])
  have hS : ∀ k, k < s → numB ((seqN l a s low).take (k + 1)) = numB ((seqN l a s low).take k) * 256 + l.getD (if low then a + (s - 1 - k) else a + k) 0 := by
    intro k hk
    have hk' : k < (seqN l a s low).length := by rw [seqN_len (by omega)]; exact hk
    rw [List.take_succ_eq_append_getElem hk', numB_snoc]
    congr 1
    have := seqN_at (l := l) (a := a) (low := low) (by omega) hk
    rw [List.getElem?_eq_getElem hk'] at this
    rw [List.getD_eq_getElem?_getD, ← this]; rfl
  have hB : ∀ k, k < s → 0 ≤ numB ((seqN l a s low).take k) ∧ numB ((seqN l a s low).take k) < 72057594037927936 := by
    intro k hk
    have hk' : ((seqN l a s low).take k).length = k := by rw [List.length_take, seqN_len (by omega)]; omega
    have h1 := numB_bd k _ hk' (fun x hx => seqN_ok hok x (List.mem_of_mem_take hx))
    refine ⟨h1.1, Int.lt_of_lt_of_le h1.2 ?_⟩
    rcases (by omega : k = 0 ∨ k = 1 ∨ k = 2 ∨ k = 3 ∨ k = 4 ∨ k = 5 ∨ k = 6 ∨ k = 7) with rfl | rfl | rfl | rfl | rfl | rfl | rfl | rfl <;> decide
  have hF : numB ((seqN l a s low).take s) = numB (seqN l a s low) := by rw [List.take_of_length_le (by rw [seqN_len (by omega)]; exact Nat.le_refl _)]
  have HC := Lib.hid hcell
  have HD := Lib.hid hbd
  have HS := Lib.hid hS
  have HB := Lib.hid hB
  have HF := Lib.hid hF
  clear hcell hbd hS hB hF hr hok hl
  go_enter Try.func68, Try.ntmps68
  go_wp2
  go_loop [10, 11] (fun x i => ∃ k : Nat, k ≤ s ∧ i = .int .i64 k ∧ x = .int .u64 (numB ((seqN l a s low).take k))) (fun _ i => s - (intOf i).toNat)
  case atStart => exact ⟨0, by omega, rfl, rfl⟩
  case round =>
    obtain ⟨k, hk, rfl, rfl⟩ := hrel
    by_cases hlt : k < s
    · obtain ⟨x0, x1⟩ := HB.out k hlt
      obtain ⟨b, o, rfl, d1⟩ := HC.out (a + k) (by omega)
      obtain ⟨b', o', e', d2⟩ := HC.out (a + (s - 1 - k)) (by omega)
      simp only [Option.some.injEq, Addr.mk.injEq, and_true] at e'
      obtain ⟨rfl, rfl⟩ := e'
      obtain ⟨c0, c1⟩ := HD.out (a + k) (by omega)
      obtain ⟨c2, c3⟩ := HD.out (a + (s - 1 - k)) (by omega)
      have hs' : numB ((seqN l a s low).take (k + 1)) = numB ((seqN l a s low).take k) * 256 + (if low = true then l.getD (a + (s - 1 - k)) 0 else l.getD (a + k) 0) := by rw [HS.out k hlt]; split <;> rfl
      generalize l.getD (a + k) 0 = y at *
      generalize l.getD (a + (s - 1 - k)) 0 = z at *
      generalize numB ((seqN l a s low).take k) = x at *
      rw [show a + (s - 1 - k) = a + s - 1 - k by omega] at d2
      have HZ := Lib.hid hs'
      clear hs'
      have HY := Lib.hid (or_byte x y x0 x1 c0 c1)
      have HV := Lib.hid (or_byte x z x0 x1 c2 c3)
      cases low
      · go_wp2
        go_round
        case rel => exact ⟨k + 1, by omega, by go_num, by rw [HZ.out, HY.out]; rfl⟩
        case measure => simp [intOf]; omega
      · go_wp2
        go_round
        case rel => exact ⟨k + 1, by omega, by go_num, by rw [HZ.out, HV.out]; rfl⟩
        case measure => simp [intOf]; omega
    · obtain rfl : k = s := by omega
      rw [HF.out]
      go_wp2
      go_ret2
      exact ⟨rfl, rfl⟩
end Go.Proofs.Ytmhbpfclfffgkaa
