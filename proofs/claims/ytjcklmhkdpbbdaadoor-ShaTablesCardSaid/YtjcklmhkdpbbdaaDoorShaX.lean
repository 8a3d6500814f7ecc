/- Chapter 3: the document's roots; the primes: walked. -/
import Derived.Test.YtjcklmhkdpbbdaaDoorShaW
namespace Go.Proofs.YtjcklmhkdpbbdaaDoor
set_option linter.unusedVariables false
set_option linter.unusedSimpArgs false
open Go.RowKit Go.Sort

set_option maxRecDepth 100000 in
set_option maxHeartbeats 2000000 in
theorem refRoot2_in (p : Nat) (h1 : 1 ≤ p) (h2 : p ≤ 311) (w : World) :
    Calls Tryd.prog 44 #[.int .i64 p] w fun e w' => e = .returned (.int .u32 ((gr 2 (p * 2 ^ 64) 37 0 % 4294967296 : Nat) : Int)) ∧ Below w.heap.size w w' := by
  obtain ⟨R, hR⟩ : ∃ R, gr 2 (p * 2 ^ 64) 37 0 = R := ⟨_, rfl⟩
  have HR : Hid (gr 2 (p * 2 ^ 64) 37 0 = R) := Lib.hid hR
  rw [hR]
  have HP := Lib.hid h2
  have h1I : (1 : Int) ≤ (p : Int) := by omega
  have h2I : (p : Int) ≤ 311 := by omega
  have huw : IntKind.u64.wrap (p : Int) = (p : Int) := nwrap p (by omega)
  clear hR h1 h2
  go_enter Tryd.func44, Tryd.ntmps44
  go_wp2
  go_loopw [3, 4] (fun x i wr => ∃ (i0 : Int) (v : Nat), -1 ≤ i0 ∧ i0 ≤ 36 ∧ i = .int .i64 i0 ∧ x = .int .u64 v ∧ Hid (gr 2 (p * 2 ^ 64) (i0 + 1).toNat v = R ∧ v % 2 ^ (i0 + 1).toNat = 0 ∧ v + 2 ^ (i0 + 1).toNat ≤ 137438953472) ∧ Hid (RowKit.Below w.heap.size w wr)) (fun _ i _ => ((intOf i) + 1).toNat)
  case atStart => exact ⟨36, 0, by omega, by omega, rfl, rfl, Lib.hid ⟨HR.out, by simp, by decide⟩, Lib.hid (Below.refl _ _)⟩
  case round =>
    obtain ⟨i0, v, hi1, hi2, rfl, rfl, HV, HB⟩ := hrel
    clear HR
    by_cases h0 : i0 < 0
    · have e : i0 = -1 := by omega
      have HE : Hid (v = R) := Lib.hid (by have := HV.out.1; rw [e] at this; exact this)
      have HW : Hid (IntKind.u32.wrap (v : Int) = ((R % 4294967296 : Nat) : Int)) := Lib.hid (by rw [HE.out, IntKind.wrap_u32]; omega)
      clear HV e
      go_wp2
      go_ret
      exact ⟨by rw [← HW.out, IntKind.wrap_u32]; rfl, HB.out⟩
    · obtain ⟨b, rfl⟩ := Int.eq_ofNat_of_zero_le (show 0 ≤ i0 by omega)
      have HV' : Hid (gr 2 (p * 2 ^ 64) (b + 1) v = R ∧ v % 2 ^ (b + 1) = 0 ∧ v + 2 ^ (b + 1) ≤ 137438953472) := HV
      clear HV h0
      obtain ⟨y, hy⟩ : ∃ y, v + 2 ^ b = y := ⟨_, rfl⟩
      have hp2 := Nat.pow_succ 2 b
      have hylt : y < 137438953472 := by have := HV'.out.2.2; have := Nat.two_pow_pos b; omega
      have hor : bits .or .u64 (v : Int) (IntKind.u64.wrap (2 ^ b)) = (y : Int) := by
        have e : IntKind.u64.wrap ((2 : Int) ^ b) = ((2 ^ b : Nat) : Int) := by
          have := HV'.out.2.2
          rw [IntKind.wrap_u64, show ((2 : Int) ^ b) = ((2 ^ b : Nat) : Int) by push_cast; rfl]; omega
        rw [e, or_bitI HV'.out.2.1 (by omega), hy]
      have HQ := Lib.hid (fun W => square_any y p hylt HP.out W)
      by_cases hc : y ^ 2 ≤ (p * 2 ^ 64)
      case' pos =>
        rw [decide_eq_true hc] at HQ
        have HN : Hid (gr 2 (p * 2 ^ 64) b y = R ∧ y % 2 ^ b = 0 ∧ y + 2 ^ b ≤ 137438953472) := Lib.hid (by
          obtain ⟨g1, g2, g3⟩ := HV'.out
          rw [gr, hy, if_pos hc] at g1
          refine ⟨g1, ?_, by rw [Nat.pow_succ] at g3; omega⟩
          rw [← hy, Nat.add_mod_right]
          exact Nat.mod_eq_zero_of_dvd (Nat.dvd_trans ⟨2, Nat.pow_succ 2 b⟩ (Nat.dvd_of_mod_eq_zero g2)))
      case' neg =>
        rw [decide_eq_false hc] at HQ
        have HN : Hid (gr 2 (p * 2 ^ 64) b v = R ∧ v % 2 ^ b = 0 ∧ v + 2 ^ b ≤ 137438953472) := Lib.hid (by
          obtain ⟨g1, g2, g3⟩ := HV'.out
          rw [gr, hy, if_neg hc] at g1
          refine ⟨g1, ?_, by rw [Nat.pow_succ] at g3; omega⟩
          exact Nat.mod_eq_zero_of_dvd (Nat.dvd_trans ⟨2, Nat.pow_succ 2 b⟩ (Nat.dvd_of_mod_eq_zero g2)))
      all_goals
        clear hc HV' hy hp2 hylt
        go_wp2_with (go_at_call 66; refine (HQ.out _).mono ?_; rintro e w1 ⟨rfl, rfl⟩)
        go_roundw
        case rel => exact ⟨(b : Int) - 1, _, by omega, by omega, rfl, rfl, by rw [show ((b : Int) - 1 + 1).toNat = b by omega]; exact HN, Lib.hid HB.out⟩
        case measure => simp [intOf]
theorem refRoot2_out (p : Int) (h : p < 1 ∨ 311 < p) (w : World) :
    Calls Tryd.prog 44 #[.int .i64 p] w fun e w' => e = .returned (.int .u32 0) ∧ Below w.heap.size w w' := by
  rcases h with h | h
  · go_enter Tryd.func44, Tryd.ntmps44
    go_wp2
    go_ret
    exact ⟨rfl, Below.refl _ _⟩
  · have h' : ¬ p < 1 := by omega
    go_enter Tryd.func44, Tryd.ntmps44
    go_wp2
    go_ret
    exact ⟨rfl, Below.refl _ _⟩
theorem root2_out (p : Int) (h : p < 1 ∨ 311 < p) (w : World) :
    Calls Tryd.prog 65 #[.int .i64 p, .int .i64 2] w fun e w' => e = .returned (.int .u32 0) ∧ Below w.heap.size w w' := by
  rcases h with h | h
  · go_enter Tryd.func65, Tryd.ntmps65
    go_wp2
    go_ret
    exact ⟨rfl, Below.refl _ _⟩
  · have h' : ¬ p < 1 := by omega
    go_enter Tryd.func65, Tryd.ntmps65
    go_wp2
    go_ret
    exact ⟨rfl, Below.refl _ _⟩
def rt2 (p : Int) : Int := if 1 ≤ p ∧ p ≤ 311 then ((gr 2 (p.toNat * 2 ^ 64) 37 0 % 4294967296 : Nat) : Int) else 0
theorem refRoot2_any (p : Int) (w : World) :
    Calls Tryd.prog 44 #[.int .i64 p] w fun e w' => e = .returned (.int .u32 (rt2 p)) ∧ Below w.heap.size w w' := by
  unfold rt2
  split
  · rename_i h
    obtain ⟨q, rfl⟩ := Int.eq_ofNat_of_zero_le (show 0 ≤ p by omega)
    exact refRoot2_in q (by omega) (by omega) w
  · exact refRoot2_out p (by omega) w
theorem shaRoot2_any (p : Int) (w : World) :
    Calls Tryd.prog 43 #[.int .i64 p] w fun e w' => e = .returned (.int .u32 (rt2 p)) ∧ Below w.heap.size w w' := by
  have H : Hid (Calls Tryd.prog 65 #[.int .i64 p, .int .i64 2] w fun e w' => e = .returned (.int .u32 (rt2 p)) ∧ Below w.heap.size w w') := Lib.hid (by
    unfold rt2
    split
    · rename_i h
      obtain ⟨q, rfl⟩ := Int.eq_ofNat_of_zero_le (show 0 ≤ p by omega)
      have := root2_any q (by omega) (by omega) w
      rw [gr_two (by omega)] at this
      exact this
    · exact root2_out p (by omega) w)
  generalize rt2 p = r at *
  go_enter Tryd.func43, Tryd.ntmps43
  go_wp2_with (go_at_call 65; refine H.out.mono ?_; rintro e w1 ⟨rfl, hb⟩)
  go_ret
  exact ⟨rfl, hb⟩
set_option maxRecDepth 100000 in
set_option maxHeartbeats 2000000 in
theorem refRoot3_in (p : Nat) (h1 : 1 ≤ p) (h2 : p ≤ 311) (w : World) :
    Calls Tryd.prog 46 #[.int .i64 p] w fun e w' => e = .returned (.int .u32 ((gr 3 (p * 2 ^ 96) 35 0 % 4294967296 : Nat) : Int)) ∧ Below w.heap.size w w' := by
  obtain ⟨R, hR⟩ : ∃ R, gr 3 (p * 2 ^ 96) 35 0 = R := ⟨_, rfl⟩
  have HR : Hid (gr 3 (p * 2 ^ 96) 35 0 = R) := Lib.hid hR
  rw [hR]
  have HP := Lib.hid h2
  have h1I : (1 : Int) ≤ (p : Int) := by omega
  have h2I : (p : Int) ≤ 311 := by omega
  have huw : IntKind.u64.wrap (p : Int) = (p : Int) := nwrap p (by omega)
  clear hR h1 h2
  go_enter Tryd.func46, Tryd.ntmps46
  go_wp2
  go_loopw [3, 4] (fun x i wr => ∃ (i0 : Int) (v : Nat), -1 ≤ i0 ∧ i0 ≤ 34 ∧ i = .int .i64 i0 ∧ x = .int .u64 v ∧ Hid (gr 3 (p * 2 ^ 96) (i0 + 1).toNat v = R ∧ v % 2 ^ (i0 + 1).toNat = 0 ∧ v + 2 ^ (i0 + 1).toNat ≤ 34359738368) ∧ Hid (RowKit.Below w.heap.size w wr)) (fun _ i _ => ((intOf i) + 1).toNat)
  case atStart => exact ⟨34, 0, by omega, by omega, rfl, rfl, Lib.hid ⟨HR.out, by simp, by decide⟩, Lib.hid (Below.refl _ _)⟩
  case round =>
    obtain ⟨i0, v, hi1, hi2, rfl, rfl, HV, HB⟩ := hrel
    clear HR
    by_cases h0 : i0 < 0
    · have e : i0 = -1 := by omega
      have HE : Hid (v = R) := Lib.hid (by have := HV.out.1; rw [e] at this; exact this)
      have HW : Hid (IntKind.u32.wrap (v : Int) = ((R % 4294967296 : Nat) : Int)) := Lib.hid (by rw [HE.out, IntKind.wrap_u32]; omega)
      clear HV e
      go_wp2
      go_ret
      exact ⟨by rw [← HW.out, IntKind.wrap_u32]; rfl, HB.out⟩
    · obtain ⟨b, rfl⟩ := Int.eq_ofNat_of_zero_le (show 0 ≤ i0 by omega)
      have HV' : Hid (gr 3 (p * 2 ^ 96) (b + 1) v = R ∧ v % 2 ^ (b + 1) = 0 ∧ v + 2 ^ (b + 1) ≤ 34359738368) := HV
      clear HV h0
      obtain ⟨y, hy⟩ : ∃ y, v + 2 ^ b = y := ⟨_, rfl⟩
      have hp2 := Nat.pow_succ 2 b
      have hylt : y < 34359738368 := by have := HV'.out.2.2; have := Nat.two_pow_pos b; omega
      have hor : bits .or .u64 (v : Int) (IntKind.u64.wrap (2 ^ b)) = (y : Int) := by
        have e : IntKind.u64.wrap ((2 : Int) ^ b) = ((2 ^ b : Nat) : Int) := by
          have := HV'.out.2.2
          rw [IntKind.wrap_u64, show ((2 : Int) ^ b) = ((2 ^ b : Nat) : Int) by push_cast; rfl]; omega
        rw [e, or_bitI HV'.out.2.1 (by omega), hy]
      have HQ := Lib.hid (fun W => cube_any y p hylt HP.out W)
      by_cases hc : y ^ 3 ≤ (p * 2 ^ 96)
      case' pos =>
        rw [decide_eq_true hc] at HQ
        have HN : Hid (gr 3 (p * 2 ^ 96) b y = R ∧ y % 2 ^ b = 0 ∧ y + 2 ^ b ≤ 34359738368) := Lib.hid (by
          obtain ⟨g1, g2, g3⟩ := HV'.out
          rw [gr, hy, if_pos hc] at g1
          refine ⟨g1, ?_, by rw [Nat.pow_succ] at g3; omega⟩
          rw [← hy, Nat.add_mod_right]
          exact Nat.mod_eq_zero_of_dvd (Nat.dvd_trans ⟨2, Nat.pow_succ 2 b⟩ (Nat.dvd_of_mod_eq_zero g2)))
      case' neg =>
        rw [decide_eq_false hc] at HQ
        have HN : Hid (gr 3 (p * 2 ^ 96) b v = R ∧ v % 2 ^ b = 0 ∧ v + 2 ^ b ≤ 34359738368) := Lib.hid (by
          obtain ⟨g1, g2, g3⟩ := HV'.out
          rw [gr, hy, if_neg hc] at g1
          refine ⟨g1, ?_, by rw [Nat.pow_succ] at g3; omega⟩
          exact Nat.mod_eq_zero_of_dvd (Nat.dvd_trans ⟨2, Nat.pow_succ 2 b⟩ (Nat.dvd_of_mod_eq_zero g2)))
      all_goals
        clear hc HV' hy hp2 hylt
        go_wp2_with (go_at_call 67; refine (HQ.out _).mono ?_; rintro e w1 ⟨rfl, hb1⟩; have hb1 := HB.out.trans (hb1.mono HB.out.size))
        go_roundw
        case rel => exact ⟨(b : Int) - 1, _, by omega, by omega, rfl, rfl, by rw [show ((b : Int) - 1 + 1).toNat = b by omega]; exact HN, Lib.hid hb1⟩
        case measure => simp [intOf]
theorem refRoot3_out (p : Int) (h : p < 1 ∨ 311 < p) (w : World) :
    Calls Tryd.prog 46 #[.int .i64 p] w fun e w' => e = .returned (.int .u32 0) ∧ Below w.heap.size w w' := by
  rcases h with h | h
  · go_enter Tryd.func46, Tryd.ntmps46
    go_wp2
    go_ret
    exact ⟨rfl, Below.refl _ _⟩
  · have h' : ¬ p < 1 := by omega
    go_enter Tryd.func46, Tryd.ntmps46
    go_wp2
    go_ret
    exact ⟨rfl, Below.refl _ _⟩
theorem root3_out (p : Int) (h : p < 1 ∨ 311 < p) (w : World) :
    Calls Tryd.prog 65 #[.int .i64 p, .int .i64 3] w fun e w' => e = .returned (.int .u32 0) ∧ Below w.heap.size w w' := by
  rcases h with h | h
  · go_enter Tryd.func65, Tryd.ntmps65
    go_wp2
    go_ret
    exact ⟨rfl, Below.refl _ _⟩
  · have h' : ¬ p < 1 := by omega
    go_enter Tryd.func65, Tryd.ntmps65
    go_wp2
    go_ret
    exact ⟨rfl, Below.refl _ _⟩
def rt3 (p : Int) : Int := if 1 ≤ p ∧ p ≤ 311 then ((gr 3 (p.toNat * 2 ^ 96) 35 0 % 4294967296 : Nat) : Int) else 0
theorem refRoot3_any (p : Int) (w : World) :
    Calls Tryd.prog 46 #[.int .i64 p] w fun e w' => e = .returned (.int .u32 (rt3 p)) ∧ Below w.heap.size w w' := by
  unfold rt3
  split
  · rename_i h
    obtain ⟨q, rfl⟩ := Int.eq_ofNat_of_zero_le (show 0 ≤ p by omega)
    exact refRoot3_in q (by omega) (by omega) w
  · exact refRoot3_out p (by omega) w
theorem shaRoot3_any (p : Int) (w : World) :
    Calls Tryd.prog 45 #[.int .i64 p] w fun e w' => e = .returned (.int .u32 (rt3 p)) ∧ Below w.heap.size w w' := by
  have H : Hid (Calls Tryd.prog 65 #[.int .i64 p, .int .i64 3] w fun e w' => e = .returned (.int .u32 (rt3 p)) ∧ Below w.heap.size w w') := Lib.hid (by
    unfold rt3
    split
    · rename_i h
      obtain ⟨q, rfl⟩ := Int.eq_ofNat_of_zero_le (show 0 ≤ p by omega)
      have := root3_any q (by omega) (by omega) w
      rw [gr_three (by omega)] at this
      exact this
    · exact root3_out p (by omega) w)
  generalize rt3 p = r at *
  go_enter Tryd.func45, Tryd.ntmps45
  go_wp2_with (go_at_call 65; refine H.out.mono ?_; rintro e w1 ⟨rfl, hb⟩)
  go_ret
  exact ⟨rfl, hb⟩
end Go.Proofs.YtjcklmhkdpbbdaaDoor
