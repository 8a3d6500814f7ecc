/- Chapter 29: the example is as it should be. -/
import Derived.Test.YtebhfaadpalpbaaPsciJ
import Derived.Test.YtebhfaadpalpbaaPsciL
namespace Go.Proofs.Ytebhfaadpalpbaa
set_option linter.unusedVariables false
open Go.RowKit Go.Sort

theorem awake29_1 : callN ⟨newN [⟨0, true, 0, 0, 0⟩, ⟨1, false, 0, 0, 0⟩], 0⟩ 0 3288334339 1 4096 7 = (0, ⟨[⟨0, true, 0, 0, 0⟩, ⟨1, true, 4096, 7, 0⟩], 0⟩) := by kernel_rfl
theorem awake29_2 : callN ⟨[⟨0, true, 0, 0, 0⟩, ⟨1, true, 4096, 7, 0⟩], 0⟩ 0 3288334339 1 4096 7 = (-4, ⟨[⟨0, true, 0, 0, 0⟩, ⟨1, true, 4096, 7, 0⟩], 0⟩) := by kernel_rfl
theorem awake29_3 : callN ⟨[⟨0, true, 0, 0, 0⟩, ⟨1, true, 4096, 7, 0⟩], 0⟩ 1 2214592514 0 0 0 = (0, ⟨[⟨0, true, 0, 0, 0⟩, ⟨1, false, 0, 0, 0⟩], 0⟩) := by kernel_rfl
set_option maxHeartbeats 2000000 in
theorem awake29_any (w : World) : Calls Try.prog 12 #[] w fun e w' => e = .returned (.bool true) ∧ Below w.heap.size w w' := by
  have h1 := fun g S W hW => call_any g S ⟨newN [⟨0, true, 0, 0, 0⟩, ⟨1, false, 0, 0, 0⟩], 0⟩ 0 3288334339 1 4096 7 W hW (by decide)
  have h2 := fun g S W hW => call_any g S ⟨[⟨0, true, 0, 0, 0⟩, ⟨1, true, 4096, 7, 0⟩], 0⟩ 0 3288334339 1 4096 7 W hW (by decide)
  have h3 := fun g S W hW => call_any g S ⟨[⟨0, true, 0, 0, 0⟩, ⟨1, true, 4096, 7, 0⟩], 0⟩ 1 2214592514 0 0 0 W hW (by decide)
  rw [awake29_1] at h1
  rw [awake29_2] at h2
  rw [awake29_3] at h3
  have H1 := Lib.hid h1
  have H2 := Lib.hid h2
  have H3 := Lib.hid h3
  clear h1 h2 h3
  go_enter Try.func12, Try.ntmps12
  go_wp2_with (first
    | (go_at_call 13; refine (new_any _ 2 _ [⟨0, true, 0, 0, 0⟩, ⟨1, false, 0, 0, 0⟩] _ rfl (by decide) (Rd.fresh _ _ _ 2 5 _ rfl)).mono ?_; rintro e w1 ⟨g, rfl, hp1, hb1⟩; have hbx : RowKit.Below w.heap.size w w1 := (bal (Below.refl _ _) _).trans (hb1.mono (by simp)))
    | (go_at_call 15; first
      | (with_reducible (refine (H3.out _ _ _ hp3).mono ?_); rintro e w4 ⟨rfl, hp4, hn4⟩)
      | (with_reducible (refine (H2.out _ _ _ hp2).mono ?_); rintro e w3 ⟨rfl, hp3, hn3⟩)
      | (with_reducible (refine (H1.out _ _ _ hp1).mono ?_); rintro e w2 ⟨rfl, hp2, hn2⟩)))
  go_ret
  exact ⟨rfl, hbx.trans ((((hn2.trans hn3).trans hn4).below (fun _ h => h) (by have := hb1.size; simp at this; simp; omega)).mono (by simp))⟩
end Go.Proofs.Ytebhfaadpalpbaa
