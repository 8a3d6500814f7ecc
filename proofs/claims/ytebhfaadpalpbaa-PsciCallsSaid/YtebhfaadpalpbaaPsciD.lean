/- Chapter 29, the processors of a guest: started, looked at, ended. -/
import Derived.Test.YtebhfaadpalpbaaPsciC
namespace Go.Proofs.Ytebhfaadpalpbaa
set_option linter.unusedVariables false
open Go.RowKit Go.Sort

def encQ (x : Int) : List Value := [.int .u64 x]
def inB (x : Int) (l : List Int) : Bool := decide (x ∈ l)
set_option maxHeartbeats 1000000 in
theorem index64_any (A : Option Addr) (n c : Nat) (l : List Int) (x : Int) (w : World) (hl : l.length = n) (hn : n ≤ 1000000) (hr : Rd w w.heap.size 1 A n (l.flatMap encQ)) :
    Calls Try.prog 75 #[.slice A n c, .int .u64 x] w fun e w' => (∃ r : Int, e = .returned (.int .i64 r) ∧ decide (0 ≤ r) = inB x l) ∧ w = w' := by
  have HL := Lib.hid hl
  have HR := Lib.hid hr
  clear hl hr
  go_enter Try.func75, Try.ntmps75
  go_wp2
  go_loop [5, 8] (fun _ i => ∃ k : Nat, k ≤ n ∧ i = .int .i64 k ∧ Hid (∀ j, (hj : j < k) → (h : j < l.length) → l[j] ≠ x)) (fun _ i => n - (intOf i).toNat)
  case atStart => exact ⟨0, by omega, rfl, fun j hj => absurd hj (by omega)⟩
  case round =>
    obtain ⟨k, hk, rfl, hq⟩ := hrel
    by_cases hlt : k < n
    · have hlt' : k < l.length := by rw [HL.out]; exact hlt
      obtain ⟨b, o, rfl, hb, hc⟩ := HR.out.row (fun _ => rfl) hlt' HL.out
      have d := hc 0 (by omega)
      simp only [encQ, Nat.add_zero, Nat.mul_one, List.getElem?_cons_zero] at d
      clear hc
      by_cases hx : l[k] = x
      · have HE := Lib.hid (show inB x l = true by rw [inB, decide_eq_true_eq]; exact hx ▸ List.getElem_mem hlt')
        rw [hx] at d
        clear hx
        go_wp2
        go_ret
        exact ⟨⟨k, rfl, by rw [HE.out]; simp⟩, rfl⟩
      · have hx' : (x == l[k]) = false := by rw [beq_eq_false_iff_ne]; exact fun h => hx h.symm
        have HX := Lib.hid hx
        clear hx
        go_wp2
        go_round
        case rel => exact ⟨k + 1, by omega, by go_num, fun j hj hh => by
          rcases Nat.lt_or_ge j k with h1 | h1
          · exact hq.out j h1 hh
          · obtain rfl : j = k := by omega
            exact HX.out⟩
        case measure => simp [intOf]; omega
    · obtain rfl : k = n := by omega
      have HE := Lib.hid (show inB x l = false by
        rw [inB, decide_eq_false_iff_not]; intro hm; obtain ⟨j, hj, e⟩ := List.getElem_of_mem hm; exact hq.out j (by rw [← HL.out]; exact hj) hj e)
      go_wp2
      go_ret
      exact ⟨⟨-1, rfl, by rw [HE.out]; simp⟩, rfl⟩
theorem contains64_any (A : Option Addr) (n c : Nat) (l : List Int) (x : Int) (w : World) (hl : l.length = n) (hn : n ≤ 1000000) (hr : Rd w w.heap.size 1 A n (l.flatMap encQ)) :
    Calls Try.prog 69 #[.slice A n c, .int .u64 x] w fun e w' => e = .returned (.bool (inB x l)) ∧ w = w' := by
  have HI := Lib.hid (index64_any A n c l x w hl hn hr)
  generalize inB x l = m at *
  clear hl hr
  go_enter Try.func69, Try.ntmps69
  go_wp2_with (go_at_call 75; refine HI.out.mono ?_; rintro e w1 ⟨⟨r, rfl, hx⟩, rfl⟩; have HX := Lib.hid hx; clear hx)
  go_ret
  exact ⟨by rw [← HX.out]; rfl, rfl⟩
theorem knownFn_mem (a : Int) : knownFn a = inB a [2214592512, 2214592514, 3288334339, 3288334340, 2214592520, 2214592521, 2214592522] := by
  simp only [knownFn, inB, List.mem_cons, List.not_mem_nil, or_false, Bool.decide_or, Bool.or_assoc]
  rfl
theorem known_any (a : Int) (w : World) : Calls Try.prog 57 #[.int .u64 a] w fun e w' => e = .returned (.bool (knownFn a)) ∧ Below w.heap.size w w' := by
  rw [knownFn_mem]
  go_enter Try.func57, Try.ntmps57
  go_wp2_with (go_at_call 69; refine (contains64_any _ 7 _ [2214592512, 2214592514, 3288334339, 3288334340, 2214592520, 2214592521, 2214592522] a _ rfl (by decide) (Rd.fresh _ _ _ 7 1 _ rfl)).mono ?_; rintro e w1 ⟨rfl, rfl⟩)
  go_ret
  exact ⟨rfl, bal (Below.refl _ _) _⟩
theorem features_any (a : Int) (w : World) : Calls Try.prog 33 #[.int .u64 a] w fun e w' => e = .returned (.int .i64 (if knownFn a then 0 else -1)) ∧ Below w.heap.size w w' := by
  have HK := Lib.hid (fun W => known_any a W)
  cases hk : knownFn a
  all_goals
    rw [hk] at HK
    clear hk
    go_enter Try.func33, Try.ntmps33
    go_wp2_with (go_at_call 57; refine (HK.out _).mono ?_; rintro e w1 ⟨rfl, hb1⟩)
    go_ret
    exact ⟨rfl, hb1⟩
end Go.Proofs.Ytebhfaadpalpbaa
