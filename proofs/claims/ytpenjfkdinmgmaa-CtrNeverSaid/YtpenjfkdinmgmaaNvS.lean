/- Chapter 10: lists of words alike. -/
import Derived.Test.YtpenjfkdinmgmaaNvF
namespace Go.Proofs.Ytpenjfkdinmgmaa
set_option linter.unusedVariables false
open Go.RowKit Go.Sort

set_option maxHeartbeats 1000000 in
theorem sameWords_any (A A2 : Option Addr) (n n2 c c2 : Nat) (l l2 : List Int) (w : World) (hn : l.length = n) (hn2 : l2.length = n2) (hm : n ≤ 100000) (hm2 : n2 ≤ 100000) (hr : Rd w w.heap.size 1 A n (l.flatMap encU)) (hr2 : Rd w w.heap.size 1 A2 n2 (l2.flatMap encU)) :
    Calls Try.prog 14 #[.slice A n c, .slice A2 n2 c2] w fun e w' => e = .returned (.bool (decide (l = l2))) ∧ Below w.heap.size w w' := by
  by_cases hne : n = n2
  · subst hne
    have hsp : ∀ k, k ≤ n → (∀ (j : Nat), j < k → l[j]? = l2[j]?) → k = n → l = l2 := fun k hk h hkn => List.ext_getElem? fun j => by
      rcases Nat.lt_or_ge j n with h1 | h1
      · exact h j (by omega)
      · rw [List.getElem?_eq_none (by omega), List.getElem?_eq_none (by omega)]
    have HN := Lib.hid hn
    have HN2 := Lib.hid hn2
    have HR := Lib.hid hr
    have HR2 := Lib.hid hr2
    have HS := Lib.hid hsp
    clear hr hr2 hn hn2 hsp
    go_enter Try.func14, Try.ntmps14
    go_wp2
    go_loopw [5, 13] (fun _ i wr => ∃ k : Nat, k ≤ n ∧ i = .int .i64 k ∧ Hid (∀ (j : Nat), j < k → l[j]? = l2[j]?) ∧ Below w.heap.size w wr) (fun _ i _ => n - (intOf i).toNat)
    case atStart => exact ⟨0, by omega, rfl, fun j hj => absurd hj (by omega), Below.refl _ _⟩
    case round =>
      obtain ⟨k, hk, rfl, hq, hbr⟩ := hrel
      by_cases hlt : k < n
      · obtain ⟨b1, o1, rfl, hb1, hc1⟩ := (HR.out.below hbr).row (fun _ => rfl) (k := k) (by rw [HN.out]; exact hlt) HN.out
        obtain ⟨b2, o2, rfl, hb2, hc2⟩ := (HR2.out.below hbr).row (fun _ => rfl) (k := k) (by rw [HN2.out]; exact hlt) HN2.out
        have d1 := hc1 0 (by omega)
        have d2 := hc2 0 (by omega)
        simp only [encU, Nat.add_zero, Nat.mul_one, List.getElem?_cons_zero] at d1 d2
        have g1 : l[k]? = some (l[k]'(by rw [HN.out]; exact hlt)) := List.getElem?_eq_getElem _
        have g2 : l2[k]? = some (l2[k]'(by rw [HN2.out]; exact hlt)) := List.getElem?_eq_getElem _
        have HG1 := Lib.hid g1
        have HG2 := Lib.hid g2
        clear hc1 hc2 g1 g2
        generalize l[k]'(by rw [HN.out]; exact hlt) = x at *
        generalize l2[k]'(by rw [HN2.out]; exact hlt) = y at *
        by_cases hxy : x = y
        · subst hxy
          go_wp2
          go_quiet (fail)
          go_wp2
          go_roundw
          case rel => exact ⟨k + 1, by omega, by go_num, (fun j hj => by
            rcases Nat.lt_or_ge j k with h1 | h1
            · exact hq.out j h1
            · obtain rfl : j = k := by omega
              rw [HG1.out, HG2.out]), below_drewN hbr _⟩
          case measure => simp [intOf]; omega
        · have e1 : (x != y) = true := by simpa using hxy
          have hf : decide (l = l2) = false := by
            rw [decide_eq_false_iff_not]; intro h; apply hxy
            have := HG1.out; rw [h, HG2.out] at this; simpa using this.symm
          have HF := Lib.hid hf
          clear hf hxy
          go_wp2
          go_quiet (fail)
          go_wp2
          go_ret
          exact ⟨by rw [HF.out]; rfl, below_drewN hbr _⟩
      · obtain rfl : k = n := by omega
        have hf : decide (l = l2) = true := by rw [decide_eq_true_eq]; exact HS.out k (Nat.le_refl _) hq.out rfl
        have HF := Lib.hid hf
        clear hf
        go_wp2
        go_ret
        exact ⟨by rw [HF.out]; rfl, hbr⟩
  · have hf : decide (l = l2) = false := by rw [decide_eq_false_iff_not]; intro h; apply hne; rw [← hn, ← hn2, h]
    have HF := Lib.hid hf
    have e1 : ((n : Int) != (n2 : Int)) = true := by rw [bne_iff_ne]; omega
    clear hf hr hr2 hn hn2 hne
    go_enter Try.func14, Try.ntmps14
    go_wp2
    go_ret
    exact ⟨by rw [HF.out]; first | done | rfl, Below.refl _ _⟩
end Go.Proofs.Ytpenjfkdinmgmaa
