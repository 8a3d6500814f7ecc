/- Numbers of eight bytes: read and put (word.read, word.put at uint64). -/
import Derived.Test.YtdmndgjfnlockaaApp
import Derived.Deep.CutRange
namespace Go.Proofs.Ytdmndgjfnlockaa
set_option linter.unusedVariables false
open Go.RowKit Go.Sort

def encB (x : Int) : List Value := [.int .u8 x]
/-- Bytes, each in its range. -/
def BytesOk (l : List Int) : Prop := ∀ x ∈ l, 0 ≤ x ∧ x < 256
/-- The number of bytes, the highest ahead. -/
def numB (l : List Int) : Int := l.foldl (fun x c => x * 256 + c) 0
theorem numB_snoc (l : List Int) (c : Int) : numB (l ++ [c]) = numB l * 256 + c := by simp [numB]
theorem numB_bd : ∀ (n : Nat) (l : List Int), l.length = n → BytesOk l → 0 ≤ numB l ∧ numB l < 256 ^ n
  | 0, l, h, _ => by
    obtain rfl := List.eq_nil_of_length_eq_zero h
    simp [numB]
  | n + 1, l, h, hb => by
    have hne : l ≠ [] := by intro e; rw [e] at h; cases h
    have e := (List.dropLast_concat_getLast hne).symm
    rw [e] at hb ⊢
    have h1 := numB_bd n l.dropLast (by simp [h]) (fun x hx => hb x (by simp [hx]))
    have h2 := hb (l.getLast hne) (by simp)
    rw [numB_snoc, Int.pow_succ]
    omega
theorem or_byte (x c : Int) (h0 : 0 ≤ x) (h1 : x < 72057594037927936) (k0 : 0 ≤ c) (k1 : c < 256) : bits .or .u64 (x * 256) c = x * 256 + c := by
  obtain ⟨x, rfl⟩ := Int.eq_ofNat_of_zero_le h0
  obtain ⟨c, rfl⟩ := Int.eq_ofNat_of_zero_le k0
  have h := u64_or_nat (x * 256) c (by omega) (by omega)
  have e := Nat.shiftLeft_add_eq_or_of_lt (i := 8) (show c < 2 ^ 8 by omega) x
  rw [Nat.shiftLeft_eq, show (2 : Nat) ^ 8 = 256 by decide] at e
  rw [← e] at h
  simpa using h

theorem size64_any (w : World) : Calls Try.prog 39 #[] w fun e w' => e = .returned (.int .i64 8) ∧ w = w' := by
  go_enter Try.func39, Try.ntmps39
  go_wp2
  all_goals (go_ret; exact ⟨rfl, rfl⟩)

/-- The bytes of a number in the order in which they are taken. -/
def seqB (l : List Int) (a : Nat) (low : Bool) : List Int := if low then ((l.drop a).take 8).reverse else (l.drop a).take 8

set_option maxHeartbeats 1000000 in
theorem read64_no (A : Option Addr) (n c : Nat) (at_ : Int) (low : Bool) (w : World) (hm : n ≤ 1000000000) (h : at_ < 0 ∨ n < 8 ∨ (n : Int) - 8 < at_) :
    Calls Try.prog 38 #[.slice A n c, .int .i64 at_, .bool low] w fun e w' => e = .returned (.tuple #[.int .u64 0, .bool false]) ∧ w = w' := by
  go_enter Try.func38, Try.ntmps38
  rcases h with h | h | h
  all_goals
    go_wp2_with (go_at_call 39; refine (size64_any _).mono ?_; rintro e w1 ⟨rfl, rfl⟩)
    all_goals (go_ret2; exact ⟨rfl, rfl⟩)

theorem seqB_len {l : List Int} {a : Nat} {low : Bool} (h : a + 8 ≤ l.length) : (seqB l a low).length = 8 := by
  unfold seqB; split <;> simp <;> omega
theorem seqB_at {l : List Int} {a k : Nat} {low : Bool} (h : a + 8 ≤ l.length) (hk : k < 8) : (seqB l a low)[k]? = l[if low then a + (7 - k) else a + k]? := by
  unfold seqB
  cases low
  · simp [hk]
  · have hl : ((l.drop a).take 8).length = 8 := by simp; omega
    simp only [if_true]
    rw [List.getElem?_reverse (by omega), hl, List.getElem?_take, if_pos (by omega), List.getElem?_drop]
theorem seqB_ok {l : List Int} {a : Nat} {low : Bool} (h : BytesOk l) : BytesOk (seqB l a low) := by
  intro x hx
  unfold seqB at hx
  split at hx
  · exact h x (List.mem_of_mem_drop (List.mem_of_mem_take (List.mem_reverse.1 hx)))
  · exact h x (List.mem_of_mem_drop (List.mem_of_mem_take hx))

set_option maxHeartbeats 2000000 in
theorem read64_yes (A : Option Addr) (n c : Nat) (l : List Int) (a : Nat) (low : Bool) (w : World) (hl : l.length = n) (hok : BytesOk l) (hm : n ≤ 1000000000) (h : a + 8 ≤ n) (hr : Rd w w.heap.size 1 A n (l.flatMap encB)) :
    Calls Try.prog 38 #[.slice A n c, .int .i64 a, .bool low] w fun e w' => e = .returned (.tuple #[.int .u64 (numB (seqB l a low)), .bool true]) ∧ w = w' := by
  obtain ⟨b, o, rfl, hb, hc⟩ := hr.row (fun _ => rfl) (k := 0) (by omega) hl
  clear hc
  have hcell : ∀ j, j < n → w.cell? ⟨b, o + j, none⟩ = some (.int .u8 (l.getD j 0)) := by
    intro j hj
    obtain ⟨b', o', e, _, hc⟩ := hr.row (fun _ => rfl) (k := j) (by omega) hl
    simp only [Option.some.injEq, Addr.mk.injEq, and_true] at e
    obtain ⟨rfl, rfl⟩ := e
    have := hc 0 (by omega)
    simpa [encB, List.getD_eq_getElem?_getD, show j < l.length by omega] using this
  have hbd : ∀ j, j < n → 0 ≤ l.getD j 0 ∧ l.getD j 0 < 256 := fun j hj => hok _ (by simp [List.getD_eq_getElem?_getD, show j < l.length by omega])
  have hS : ∀ k, k < 8 → numB ((seqB l a low).take (k + 1)) = numB ((seqB l a low).take k) * 256 + l.getD (if low then a + (7 - k) else a + k) 0 := by
    intro k hk
    have hk' : k < (seqB l a low).length := by rw [seqB_len (by omega)]; exact hk
    rw [List.take_succ_eq_append_getElem hk', numB_snoc]
    congr 1
    have := seqB_at (l := l) (a := a) (low := low) (by omega) hk
    rw [List.getElem?_eq_getElem hk'] at this
    rw [List.getD_eq_getElem?_getD, ← this]; rfl
  have hB : ∀ k, k < 8 → 0 ≤ numB ((seqB l a low).take k) ∧ numB ((seqB l a low).take k) < 72057594037927936 := by
    intro k hk
    have hk' : ((seqB l a low).take k).length = k := by rw [List.length_take, seqB_len (by omega)]; omega
    have h1 := numB_bd k _ hk' (fun x hx => seqB_ok hok x (List.mem_of_mem_take hx))
    refine ⟨h1.1, Int.lt_of_lt_of_le h1.2 ?_⟩
    rcases (by omega : k = 0 ∨ k = 1 ∨ k = 2 ∨ k = 3 ∨ k = 4 ∨ k = 5 ∨ k = 6 ∨ k = 7) with rfl | rfl | rfl | rfl | rfl | rfl | rfl | rfl <;> decide
  have hF : numB ((seqB l a low).take 8) = numB (seqB l a low) := by rw [List.take_of_length_le (by rw [seqB_len (by omega)]; exact Nat.le_refl _)]
  have HC := Lib.hid hcell
  have HD := Lib.hid hbd
  have HS := Lib.hid hS
  have HB := Lib.hid hB
  have HF := Lib.hid hF
  clear hcell hbd hS hB hF hr hok hl
  go_enter Try.func38, Try.ntmps38
  go_wp2_with (go_at_call 39; refine (size64_any _).mono ?_; rintro e w1 ⟨rfl, rfl⟩)
  go_loop [9, 10, 11, 30] (fun x _ _ i => ∃ k : Nat, k ≤ 8 ∧ i = .int .i64 k ∧ x = .int .u64 (numB ((seqB l a low).take k))) (fun _ _ _ i => 8 - (intOf i).toNat)
  case atStart => exact ⟨0, by omega, rfl, rfl⟩
  case round =>
    obtain ⟨k, hk, rfl, rfl⟩ := hrel
    by_cases hlt : k < 8
    · obtain ⟨x0, x1⟩ := HB.out k hlt
      have d1 := HC.out (a + k) (by omega)
      have d2 := HC.out (a + (7 - k)) (by omega)
      obtain ⟨c0, c1⟩ := HD.out (a + k) (by omega)
      obtain ⟨c2, c3⟩ := HD.out (a + (7 - k)) (by omega)
      have hs : numB ((seqB l a low).take (k + 1)) = numB ((seqB l a low).take k) * 256 + (if low = true then l.getD (a + (7 - k)) 0 else l.getD (a + k) 0) := by rw [HS.out k hlt]; split <;> rfl
      generalize l.getD (a + k) 0 = y at *
      generalize l.getD (a + (7 - k)) 0 = z at *
      generalize numB ((seqB l a low).take k) = x at *
      rw [show a + (7 - k) = a + 7 - k by omega] at d2
      have HZ := Lib.hid hs
      clear hs
      have HY := Lib.hid (or_byte x y x0 x1 c0 c1)
      have HV := Lib.hid (or_byte x z x0 x1 c2 c3)
      cases low
      · go_wp2
        go_round
        case rel => exact ⟨k + 1, by omega, by go_num, by rw [HZ.out, HY.out]; rfl⟩
        case measure => simp [intOf]; omega
      · go_wp2
        go_round
        case rel => exact ⟨k + 1, by omega, by go_num, by rw [HZ.out, HV.out]; rfl⟩
        case measure => simp [intOf]; omega
    · obtain rfl : k = 8 := by omega
      rw [HF.out]
      go_wp2
      go_ret2
      exact ⟨rfl, rfl⟩
end Go.Proofs.Ytdmndgjfnlockaa
