/- Chapter 14: the parser's names; walked. -/
import Derived.Test.YtmhbpfclfffgkaaCfS
import Derived.Lib.MinMax
namespace Go.Proofs.Ytmhbpfclfffgkaa
set_option linter.unusedVariables false
set_option linter.unusedSimpArgs false
open Go.RowKit Go.Sort

theorem txtL_step (l : List Int) (k : Nat) (h : k < (l.takeWhile fun x => x != 0).length) : ∃ y, l[k]? = some y ∧ y ≠ 0 := by
  induction l generalizing k with
  | nil => simp at h
  | cons x l ih =>
    by_cases hx : x = 0
    · simp [hx] at h
    · have hb : (x != 0) = true := by simp [hx]
      cases k with
      | zero => exact ⟨x, rfl, hx⟩
      | succ k =>
        simp only [List.takeWhile_cons, hb, if_true, List.length_cons] at h
        exact ih k (by omega)
theorem txtL_stop (l : List Int) (h : (l.takeWhile fun x => x != 0).length < l.length) : l[(l.takeWhile fun x => x != 0).length]? = some 0 := by
  induction l with
  | nil => simp at h
  | cons x l ih =>
    by_cases hx : x = 0
    · simp [hx]
    · have hb : (x != 0) = true := by simp [hx]
      simp only [List.takeWhile_cons, hb, if_true, List.length_cons] at h ⊢
      exact ih (by omega)
theorem txtL_take (l : List Int) : l.take (l.takeWhile fun x => x != 0).length = l.takeWhile fun x => x != 0 := by
  induction l with
  | nil => rfl
  | cons x l ih =>
    by_cases hx : x = 0
    · simp [hx]
    · have hb : (x != 0) = true := by simp [hx]
      simp only [List.takeWhile_cons, hb, if_true, List.length_cons, List.take_succ_cons, ih]
theorem zero_step (l : List Int) (k : Nat) (h : k < (l.takeWhile fun x => x == 0).length) : l[k]? = some 0 := by
  induction l generalizing k with
  | nil => simp at h
  | cons x l ih =>
    by_cases hx : x = 0
    · have hb : (x == 0) = true := by simp [hx]
      cases k with
      | zero => simp [hx]
      | succ k =>
        simp only [List.takeWhile_cons, hb, if_true, List.length_cons] at h
        exact ih k (by omega)
    · have hb : (x == 0) = false := by simp [hx]
      simp [hb] at h
theorem zero_stop (l : List Int) (h : (l.takeWhile fun x => x == 0).length < l.length) : ∃ z, l[(l.takeWhile fun x => x == 0).length]? = some z ∧ z ≠ 0 := by
  induction l with
  | nil => simp at h
  | cons x l ih =>
    by_cases hx : x = 0
    · have hb : (x == 0) = true := by simp [hx]
      simp only [List.takeWhile_cons, hb, if_true, List.length_cons] at h ⊢
      exact ih (by omega)
    · have hb : (x == 0) = false := by simp [hx]
      exact ⟨x, by simp [hb], hx⟩
theorem zero_all (l : List Int) : (l.all fun x => x == 0) = decide (¬ (l.takeWhile fun x => x == 0).length < l.length) := by
  induction l with
  | nil => simp
  | cons x l ih =>
    by_cases hx : x = 0
    · have hb : (x == 0) = true := by simp [hx]
      simp only [List.takeWhile_cons, List.all_cons, hb, if_true, List.length_cons, Bool.true_and, ih]
      rw [Bool.eq_iff_iff]
      simp
    · have hb : (x == 0) = false := by simp [hx]
      simp [hb]
theorem nz_any (y : Int) (w : World) : Calls Try.prog 127 #[.int .u8 y] w fun e w' => e = .returned (.bool (y != 0)) ∧ w = w' := by
  go_enter Try.func127, Try.ntmps127
  go_wp2
  go_ret
  exact ⟨rfl, rfl⟩
set_option maxRecDepth 100000 in
set_option maxHeartbeats 2000000 in
theorem index0_any (A : Option Addr) (n c : Nat) (l : List Int) (w : World) (hl : l.length = n) (hm : n ≤ 1000000) (hr : Rd w w.heap.size 1 A n (l.flatMap encB)) :
    Calls Try.prog 124 #[.slice A n c, .int .u8 0] w fun e w' => e = .returned (.int .i64 (if (l.takeWhile fun x => x != 0).length < n then ((l.takeWhile fun x => x != 0).length : Int) else -1)) ∧ w = w' := by
  obtain ⟨q, hq⟩ : ∃ q, (l.takeWhile fun x => x != 0).length = q := ⟨_, rfl⟩
  have hqn : q ≤ n := by
    have := (List.takeWhile_sublist (p := fun x : Int => x != 0) (l := l)).length_le
    omega
  have HL := Lib.hid hl
  have HR := Lib.hid hr
  have HS := Lib.hid (fun k (h : k < q) => txtL_step l k (by rw [hq]; exact h))
  have HE := Lib.hid (fun (h : q < n) => (by have := txtL_stop l (by rw [hq]; omega); rwa [hq] at this : l[q]? = some 0))
  rw [hq]
  clear hl hr hq
  go_enter Try.func124, Try.ntmps124
  go_wp2_with fail
  go_loopw [8] (fun i wr => ∃ k : Nat, k ≤ q ∧ i = .int .i64 k ∧ w = wr) (fun i _ => n - (intOf i).toNat)
  case atStart => exact ⟨0, by omega, rfl, rfl⟩
  case round =>
    obtain ⟨k, hk, rfl, rfl⟩ := hrel
    by_cases hn : k < n
    · obtain ⟨b1, o1, rfl, hb1, hd1⟩ := HR.out.row (enc := encB) (fun _ => rfl) (k := k) (by rw [HL.out]; exact hn) HL.out
      obtain ⟨y, hy⟩ : ∃ y, l[k]? = some y := ⟨_, List.getElem?_eq_getElem (by rw [HL.out]; exact hn)⟩
      have hg1 : l[k]'(by rw [HL.out]; exact hn) = y := (List.getElem?_eq_some_iff.1 hy).2
      have d0 := hd1 0 (by omega)
      rw [hg1] at d0
      simp only [encB, Nat.add_zero, Nat.mul_one, List.getElem?_cons_zero] at d0
      have HY := Lib.hid hy
      clear hd1 hg1 hy
      by_cases hkq : k < q
      · have hy0 : y ≠ 0 := by
          obtain ⟨z, hz, h0⟩ := HS.out k hkq
          rw [HY.out] at hz
          injection hz with hz
          subst hz
          exact h0
        have e0 : ((0 : Int) == y) = false := by simp; omega
        go_wp2_with fail
        go_roundw
        case rel => exact ⟨k + 1, by omega, by go_num, by first | trivial | rfl⟩
        case measure => simp [intOf]; omega
      · obtain rfl : k = q := by omega
        have hy0 : y = 0 := by
          have := HE.out hn
          rw [HY.out] at this
          injection this
        subst hy0
        go_wp2_with fail
        go_ret
        exact ⟨rfl, rfl⟩
    · obtain rfl : k = q := by omega
      go_wp2_with fail
      go_ret
      exact ⟨rfl, rfl⟩
set_option maxRecDepth 100000 in
set_option maxHeartbeats 2000000 in
theorem indexN_any (A : Option Addr) (n c : Nat) (l : List Int) (w : World) (hl : l.length = n) (hm : n ≤ 1000000) (hr : Rd w w.heap.size 1 A n (l.flatMap encB)) :
    Calls Try.prog 139 #[.slice A n c, .func (.func 127) #[] #[]] w fun e w' => e = .returned (.int .i64 (if (l.takeWhile fun x => x == 0).length < n then ((l.takeWhile fun x => x == 0).length : Int) else -1)) ∧ w = w' := by
  obtain ⟨q, hq⟩ : ∃ q, (l.takeWhile fun x => x == 0).length = q := ⟨_, rfl⟩
  have hqn : q ≤ n := by
    have := (List.takeWhile_sublist (p := fun x : Int => x == 0) (l := l)).length_le
    omega
  have HL := Lib.hid hl
  have HR := Lib.hid hr
  have HS := Lib.hid (fun k (h : k < q) => zero_step l k (by rw [hq]; exact h))
  have HE := Lib.hid (fun (h : q < n) => (by have := zero_stop l (by rw [hq]; omega); rwa [hq] at this : ∃ z, l[q]? = some z ∧ z ≠ 0))
  rw [hq]
  clear hl hr hq
  go_enter Try.func139, Try.ntmps139
  go_wp2_with fail
  go_loopw [8] (fun i wr => ∃ k : Nat, k ≤ q ∧ i = .int .i64 k ∧ w = wr) (fun i _ => n - (intOf i).toNat)
  case atStart => exact ⟨0, by omega, rfl, rfl⟩
  case round =>
    obtain ⟨k, hk, rfl, rfl⟩ := hrel
    by_cases hn : k < n
    · obtain ⟨b1, o1, rfl, hb1, hd1⟩ := HR.out.row (enc := encB) (fun _ => rfl) (k := k) (by rw [HL.out]; exact hn) HL.out
      obtain ⟨y, hy⟩ : ∃ y, l[k]? = some y := ⟨_, List.getElem?_eq_getElem (by rw [HL.out]; exact hn)⟩
      have hg1 : l[k]'(by rw [HL.out]; exact hn) = y := (List.getElem?_eq_some_iff.1 hy).2
      have d0 := hd1 0 (by omega)
      rw [hg1] at d0
      simp only [encB, Nat.add_zero, Nat.mul_one, List.getElem?_cons_zero] at d0
      have HY := Lib.hid hy
      clear hd1 hg1 hy
      by_cases hkq : k < q
      · have hy0 : y = 0 := by
          have hz := HS.out k hkq
          rw [HY.out] at hz
          injection hz
        subst hy0
        go_wp2_with (go_at_call 127; refine (nz_any _ _).mono ?_; rintro e w1 ⟨rfl, rfl⟩)
        go_roundw
        case rel => exact ⟨k + 1, by omega, by go_num, by first | trivial | rfl⟩
        case measure => simp [intOf]; omega
      · obtain rfl : k = q := by omega
        have hy0 : y ≠ 0 := by
          obtain ⟨z, h1, h2⟩ := HE.out hn
          rw [HY.out] at h1
          injection h1 with h1
          rw [h1]; exact h2
        have e0 : (y != (0 : Int)) = true := by simp; omega
        go_wp2_with (go_at_call 127; refine (nz_any _ _).mono ?_; rintro e w1 ⟨rfl, rfl⟩)
        go_ret
        exact ⟨rfl, rfl⟩
    · obtain rfl : k = q := by omega
      go_wp2_with fail
      go_ret
      exact ⟨rfl, rfl⟩
set_option maxHeartbeats 1000000 in
theorem contains0_any (A : Option Addr) (n c : Nat) (l : List Int) (w : World) (hl : l.length = n) (hm : n ≤ 1000000) (hr : Rd w w.heap.size 1 A n (l.flatMap encB)) :
    Calls Try.prog 125 #[.slice A n c, .int .u8 0] w fun e w' => e = .returned (.bool (decide ((cutN l).length < n))) ∧ w = w' := by
  have HI := index0_any A n c l w hl hm hr
  change Calls _ _ _ _ (fun e w' => e = .returned (.int .i64 (if (cutN l).length < n then ((cutN l).length : Int) else -1)) ∧ w = w') at HI
  generalize (cutN l).length = q at *
  by_cases h : q < n
  · rw [if_pos h] at HI
    rw [decide_eq_true h]
    have HI := Lib.hid HI
    have e1 : decide ((0 : Int) ≤ (q : Int)) = true := decide_eq_true (by omega)
    clear hr hl h
    go_enter Try.func125, Try.ntmps125
    go_wp2_with (go_at_call 124; refine HI.out.mono ?_; rintro e w1 ⟨rfl, rfl⟩)
    go_ret
    exact ⟨rfl, rfl⟩
  · rw [if_neg h] at HI
    rw [decide_eq_false h]
    have HI := Lib.hid HI
    clear hr hl h
    go_enter Try.func125, Try.ntmps125
    go_wp2_with (go_at_call 124; refine HI.out.mono ?_; rintro e w1 ⟨rfl, rfl⟩)
    go_ret
    exact ⟨rfl, rfl⟩
set_option maxHeartbeats 1000000 in
theorem containsN_any (A : Option Addr) (n c : Nat) (l : List Int) (w : World) (hl : l.length = n) (hm : n ≤ 1000000) (hr : Rd w w.heap.size 1 A n (l.flatMap encB)) :
    Calls Try.prog 126 #[.slice A n c, .func (.func 127) #[] #[]] w fun e w' => e = .returned (.bool (!(l.all fun x => x == 0))) ∧ w = w' := by
  have HI := indexN_any A n c l w hl hm hr
  rw [zero_all, hl]
  generalize (l.takeWhile fun x => x == 0).length = q at *
  by_cases h : q < n
  · rw [if_pos h] at HI
    rw [decide_eq_false (by omega)]
    have HI := Lib.hid HI
    have e1 : decide ((0 : Int) ≤ (q : Int)) = true := decide_eq_true (by omega)
    clear hr hl h
    go_enter Try.func126, Try.ntmps126
    go_wp2_with (go_at_call 139; refine HI.out.mono ?_; rintro e w1 ⟨rfl, rfl⟩)
    go_ret
    exact ⟨rfl, rfl⟩
  · rw [if_neg h] at HI
    rw [decide_eq_true h]
    have HI := Lib.hid HI
    clear hr hl h
    go_enter Try.func126, Try.ntmps126
    go_wp2_with (go_at_call 139; refine HI.out.mono ?_; rintro e w1 ⟨rfl, rfl⟩)
    go_ret
    exact ⟨rfl, rfl⟩
end Go.Proofs.Ytmhbpfclfffgkaa
