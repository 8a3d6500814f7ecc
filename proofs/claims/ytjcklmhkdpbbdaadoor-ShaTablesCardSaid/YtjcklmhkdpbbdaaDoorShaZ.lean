/- Chapter 3, the law ShaTables: the constants are the fractions of the primes' roots: the walk. -/
import Derived.Test.YtjcklmhkdpbbdaaDoorShaY
import Derived.Test.YtjcklmhkdpbbdaaDoorRegH
namespace Go.Proofs.YtjcklmhkdpbbdaaDoor
set_option linter.unusedVariables false
set_option linter.unusedSimpArgs false
open Go.RowKit Go.Sort Go.ChangeShapes

set_option maxRecDepth 100000 in
set_option maxHeartbeats 4000000 in
theorem refPrime_in (i : Nat) (hi : i < 64) (w : World) :
    Calls Tryd.prog 42 #[.int .i64 i] w fun e w' => e = .returned (.int .i64 (pr i)) ∧ w = w' := by
  have h63 : (i : Int) ≤ 63 := by omega
  go_enter Tryd.func42, Tryd.ntmps42
  go_wp2
  go_loop [3, 4] (fun a b => ∃ (p m : Nat) (n0 : Int), a = .int .i64 p ∧ b = .int .i64 n0 ∧ -1 ≤ n0 ∧ n0 ≤ i ∧ 1 ≤ p ∧ p ≤ 311 ∧ Hid (n0 = (m : Int) - 1 ∧ m = cnt (p + 1) ∧ (m = i + 1 → p = pr i))) (fun a b => 400 - (intOf a).toNat)
  case atStart => exact ⟨1, 0, -1, rfl, rfl, by omega, by omega, by omega, by omega, Lib.hid ⟨by omega, by decide +kernel, by omega⟩⟩
  case round =>
    obtain ⟨p, m, n0, rfl, rfl, hn1, hn2, hp1, hp2, HM⟩ := hrel
    by_cases hlt : n0 < i
    · have hp3 : p ≤ 310 := by
        rcases Nat.lt_or_ge p 311 with h | h
        · omega
        · have e : p = 311 := by omega
          have h2 := HM.out.2.1
          rw [e] at h2
          have h3 : cnt (311 + 1) = 64 := by decide +kernel
          have h4 := HM.out.1
          omega
      go_wp2
      go_loop [5, 6] (fun a b => ∃ (f : Bool) (d : Nat), a = .bool f ∧ b = .int .i64 d ∧ 2 ≤ d ∧ d ≤ 18 ∧ Hid (f = allB (p + 1) d ∧ (d - 1) * (d - 1) ≤ p + 1)) (fun a b => 20 - (intOf b).toNat)
      case atStart => exact ⟨true, 2, rfl, rfl, by omega, by omega, Lib.hid ⟨rfl, by omega⟩⟩
      case round =>
        obtain ⟨f, d, rfl, rfl, hd1, hd2, HF⟩ := hrel
        obtain ⟨dd, hdd⟩ : ∃ dd, dd = d * d := ⟨_, rfl⟩
        have hdb : dd ≤ 18 * 18 := by rw [hdd]; exact Nat.mul_le_mul hd2 hd2
        have f1 : IntKind.i64.wrap ((d : Int) * (d : Int)) = (dd : Int) := by rw [nmul, ← hdd]; exact IntWalk.i64_in _ (by omega)
        have f1' : (d : Int) * (d : Int) = (dd : Int) := by rw [nmul, ← hdd]
        by_cases hc : dd ≤ p + 1
        · have hcI : (dd : Int) ≤ (p : Int) + 1 := by omega
          have hd17 : d ≤ 17 := by
            rcases Nat.lt_or_ge d 18 with h | h
            · omega
            · have : d = 18 := by omega
              rw [this] at hdd; omega
          obtain ⟨r, hr⟩ : ∃ r, r = (p + 1) % d := ⟨_, rfl⟩
          have f2 : ((p : Int) + 1) % (d : Int) = (r : Int) := by rw [hr]; push_cast; rfl
          have f3 : ((p : Int) + 1).tmod (d : Int) = (r : Int) := by rw [Int.tmod_eq_emod_of_nonneg (by omega)]; exact f2
          have q0 : ¬ (d : Int) = 0 := by omega
          have q1 : ((d : Int) == 0) = false := by rw [beq_eq_false_iff_ne]; exact q0
          have HS := Lib.hid (allB_succ (p := p + 1) hd1)
          rw [← hr] at HS
          have HN : Hid ((f && (r != 0)) = allB (p + 1) (d + 1) ∧ (d + 1 - 1) * (d + 1 - 1) ≤ p + 1) := Lib.hid ⟨by rw [HS.out, HF.out.1], by rw [Nat.add_sub_cancel, ← hdd]; exact hc⟩
          clear HF HS hdd hr
          cases f with
          | false =>
            rw [Bool.false_and] at HN
            go_wp2
            go_round
            case rel => exact ⟨false, d + 1, rfl, by go_num, by omega, by omega, HN⟩
            case measure => simp [intOf]; omega
          | true =>
            rw [Bool.true_and] at HN
            by_cases hr0 : r = 0
            · have hrI : ((r : Int) != 0) = false := by rw [bne_eq_false_iff_eq]; omega
              rw [show (r != 0) = false by rw [bne_eq_false_iff_eq]; exact hr0] at HN
              clear hr0
              go_wp2
              go_round
              case rel => exact ⟨false, d + 1, rfl, by go_num, by omega, by omega, HN⟩
              case measure => simp [intOf]; omega
            · have hrI : ((r : Int) != 0) = true := by rw [bne_iff_ne]; omega
              rw [show (r != 0) = true by rw [bne_iff_ne]; exact hr0] at HN
              clear hr0
              go_wp2
              go_round
              case rel => exact ⟨true, d + 1, rfl, by go_num, by omega, by omega, HN⟩
              case measure => simp [intOf]; omega
        · have hcI : ¬ (dd : Int) ≤ (p : Int) + 1 := by omega
          have hF : f = isP (p + 1) := by rw [HF.out.1]; exact pr3 (by omega) (by omega) (by omega) hd1 (by omega) HF.out.2
          have h4 := pr4 (show p + 1 < 312 by omega)
          have h5 := HM.out
          cases f with
          | false =>
            have HN : Hid (n0 = (m : Int) - 1 ∧ m = cnt (p + 1 + 1) ∧ (m = i + 1 → p + 1 = pr i)) := Lib.hid ⟨h5.1, by rw [h4.1, ← hF]; simpa using h5.2.1, by omega⟩
            clear HF hF h4 h5 HM hdd
            go_wp2
            go_round
            case rel => exact ⟨p + 1, m, n0, by go_num, rfl, hn1, hn2, by omega, by omega, HN⟩
            case measure => simp [intOf]; omega
          | true =>
            have HN : Hid (n0 + 1 = ((m + 1 : Nat) : Int) - 1 ∧ m + 1 = cnt (p + 1 + 1) ∧ (m + 1 = i + 1 → p + 1 = pr i)) := Lib.hid ⟨by omega, by rw [h4.1, ← hF, h5.2.1]; simp, fun he => by
              have := h4.2.1 hF.symm
              rw [← h5.2.1, show m = i by omega] at this
              exact this.symm⟩
            clear HF hF h4 h5 HM hdd
            go_wp2
            go_round
            case rel => exact ⟨p + 1, m + 1, n0 + 1, by go_num, rfl, by omega, by omega, by omega, by omega, HN⟩
            case measure => simp [intOf]; omega
    · have HR : Hid (p = pr i) := Lib.hid (HM.out.2.2 (by have := HM.out.1; omega))
      clear HM
      go_wp2
      go_ret
      exact ⟨by rw [HR.out]; rfl, rfl⟩
def pm (i : Int) : Int := if 0 ≤ i ∧ i ≤ 63 then (pr i.toNat : Int) else 0
theorem shaPrime_out (i : Int) (h : i < 0 ∨ 63 < i) (w : World) :
    Calls Tryd.prog 41 #[.int .i64 i] w fun e w' => e = .returned (.int .i64 0) ∧ w = w' := by
  rcases h with h | h
  · go_enter Tryd.func41, Tryd.ntmps41
    go_wp2
    (try go_step3)
    (try go_wp2)
    (try rw [Exit.noGoto_ret])
    go_ret
    exact ⟨rfl, rfl⟩
  · have h' : ¬ i < 0 := by omega
    go_enter Tryd.func41, Tryd.ntmps41
    go_wp2
    (try go_step3)
    (try go_wp2)
    (try rw [Exit.noGoto_ret])
    go_ret
    exact ⟨rfl, rfl⟩
theorem refPrime_out (i : Int) (h : i < 0 ∨ 63 < i) (w : World) :
    Calls Tryd.prog 42 #[.int .i64 i] w fun e w' => e = .returned (.int .i64 0) ∧ w = w' := by
  rcases h with h | h
  · go_enter Tryd.func42, Tryd.ntmps42
    go_wp2
    (try go_step3)
    (try go_wp2)
    (try rw [Exit.noGoto_ret])
    go_ret
    exact ⟨rfl, rfl⟩
  · have h' : ¬ i < 0 := by omega
    go_enter Tryd.func42, Tryd.ntmps42
    go_wp2
    (try go_step3)
    (try go_wp2)
    (try rw [Exit.noGoto_ret])
    go_ret
    exact ⟨rfl, rfl⟩
theorem shaPrime_any (i : Int) (w : World) : Calls Tryd.prog 41 #[.int .i64 i] w fun e w' => e = .returned (.int .i64 (pm i)) ∧ Below w.heap.size w w' := by
  unfold pm
  split
  · rename_i h
    obtain ⟨q, rfl⟩ := Int.eq_ofNat_of_zero_le h.1
    exact shaPrime_in q (by omega) w
  · exact (shaPrime_out i (by omega) w).mono fun e w' ⟨a, b⟩ => ⟨a, by rw [b]; exact Below.refl _ _⟩
theorem refPrime_any (i : Int) (w : World) : Calls Tryd.prog 42 #[.int .i64 i] w fun e w' => e = .returned (.int .i64 (pm i)) ∧ w = w' := by
  unfold pm
  split
  · rename_i h
    obtain ⟨q, rfl⟩ := Int.eq_ofNat_of_zero_le h.1
    exact refPrime_in q (by omega) w
  · exact refPrime_out i (by omega) w
theorem tab_ck3 : ((List.range 64).all fun i => rt3 (pr i) == roundsZ.getD i 0) = true := by decide +kernel
theorem tab_ck2 : ((List.range 8).all fun i => rt2 (pr i) == firstZ.getD i 0) = true := by decide +kernel
end Go.Proofs.YtjcklmhkdpbbdaaDoor
