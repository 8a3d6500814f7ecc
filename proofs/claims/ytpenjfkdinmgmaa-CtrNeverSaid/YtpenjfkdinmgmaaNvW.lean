/- Chapter 10, the store: whatever write. -/
import Derived.Test.YtpenjfkdinmgmaaNvF
namespace Go.Proofs.Ytpenjfkdinmgmaa
set_option linter.unusedVariables false
open Go.RowKit Go.Sort

theorem write_any (g : Nat) (base : Nat → Prop) (s : Stt) (i x : Int) (w : World) (h : Sto w base g s) (hk0 : 0 ≤ s.k) (hk1 : s.k < 1000000) :
    Calls Try.prog 30 #[.pointer (some ⟨g, 0, none⟩), .int .i64 i, .int .u32 x] w fun e w' => e = .returned (.int .i64 (writeN s i x).1) ∧ Sto w' base g (writeN s i x).2 ∧ Near base w w' := by
  by_cases ho : s.on = false
  · have e : writeN s i x = (100, s) := if_pos ho
    rw [e]
    exact (write_dead g base s i x w h ho).mono fun _ _ ⟨he, hw⟩ => ⟨he, hw ▸ h, hw ▸ Near.refl _ _⟩
  · have ho' : s.on = true := by simpa using ho
    by_cases hi : i < 0 ∨ (s.ws.length : Int) ≤ i
    · have e : writeN s i x = (1, s) := (if_neg ho).trans (if_pos hi)
      rw [e]
      exact (write_out g base s i x w h ho' hi).mono fun _ _ ⟨he, hw⟩ => ⟨he, hw ▸ h, hw ▸ Near.refl _ _⟩
    · obtain ⟨j, rfl⟩ := Int.eq_ofNat_of_zero_le (show 0 ≤ i by omega)
      have e0 : writeN s j x = _ := (if_neg ho).trans (if_neg hi)
      by_cases hs : strikesN s = true
      · rcases hcs : s.cs with _ | ⟨p, cs⟩
        · simp [strikesN, hcs] at hs
        · have hp : p.1 = s.k := by simpa [strikesN, hcs] using hs
          rw [hcs] at e0
          simp only [if_pos hp] at e0
          rw [e0]
          have t := write_torn g base s j x p cs w h ho' (by omega) hcs hp
          simp only [hcs, Int.toNat_natCast] at t ⊢
          exact t
      · have hs' : strikesN s = false := by simpa using hs
        have e : writeN s j x = (0, { s with k := s.k + 1, ws := s.ws.set j x }) := by
          rw [e0]
          split
          · rfl
          · rename_i p cs hcs
            rw [if_neg (by simpa [strikesN, hcs] using hs')]
            rfl
        rw [e]
        exact write_ok g base s j x w h ho' (by omega) hs' hk0 hk1

theorem writeN_len (s : Stt) (i x : Int) : (writeN s i x).2.ws.length = s.ws.length := by
  unfold writeN
  split
  · rfl
  · split
    · rfl
    · split
      · simp
      · split <;> simp
theorem writeN_k (s : Stt) (i x : Int) : (writeN s i x).2.k = s.k ∨ (writeN s i x).2.k = s.k + 1 := by
  unfold writeN
  split
  · exact .inl rfl
  · split
    · exact .inl rfl
    · split
      · exact .inr rfl
      · split
        · exact .inl rfl
        · exact .inr rfl
/-- A store without power has words. -/
def OnOk (s : Stt) : Prop := s.on = true ∨ 0 < s.ws.length
theorem writeN_on (s : Stt) (i x : Int) (h : OnOk s) : OnOk (writeN s i x).2 := by
  unfold writeN
  split
  · exact h
  · split
    · exact h
    · split
      · exact .inl (by simpa using ‹¬ s.on = false›)
      · split
        · rename_i h1 h2 _ _ _ _
          exact .inr (by simp; omega)
        · exact .inl (by simpa using ‹¬ s.on = false›)
end Go.Proofs.Ytpenjfkdinmgmaa
