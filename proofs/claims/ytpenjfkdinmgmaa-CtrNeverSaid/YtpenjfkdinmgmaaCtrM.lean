/- Chapter 13: Bump: the document's, whole; the program's Count of writes; Format. -/
import Derived.Test.YtpenjfkdinmgmaaCtrL
namespace Go.Proofs.Ytpenjfkdinmgmaa
set_option linter.unusedVariables false
set_option linter.unusedSimpArgs false
open Go.RowKit Go.Sort
set_option maxRecDepth 100000 in
set_option maxHeartbeats 4000000 in
theorem rbump_bad (g b0 : Nat) (base : Nat → Prop) (s : Stt) (id err : Int) (at_ : Nat) (q x v r : Int) (w : World) (h : RSto w b0 base g s) (hu : U32s s.ws) (hl : s.ws.length ≤ 100000)
    (hR : recN s.ws id = ⟨err, at_, q, x⟩) (hc : (err ≠ 0 ∧ r = err) ∨ (err = 0 ∧ v ≤ x ∧ r = 132) ∨ (err = 0 ∧ ¬ v ≤ x ∧ v = 4294967295 ∧ r = 131)) :
    Calls Try.prog 23 #[.pointer (some ⟨g, 0, none⟩), .int .i64 id, .int .u32 v] w fun e w' => e = .returned (.int .i64 r) ∧ Below w.heap.size w w' := by
  have HN := Lib.hid (fun W (hW : Below w.heap.size w W) => rrec_any g b0 base s id W (h.kept hW) hu hl)
  rw [hR] at HN
  unfold Rr.cs at HN
  simp only at HN
  clear h hu hR hl
  rcases hc with ⟨h1, rfl⟩ | ⟨rfl, h2, rfl⟩ | ⟨rfl, h2, rfl, rfl⟩
  · have h1' : (r != 0) = true := by rw [bne_iff_ne]; exact h1
    clear h1
    go_enter Try.func23, Try.ntmps23
    go_wp2_with (go_at_call 17; refine (HN.out _ (Below.refl _ _)).mono ?_; rintro e w1 ⟨rfl, hb1⟩; have hz1 := hb1.size)
    have hb3 : RowKit.Below w.heap.size w (w1.alloc (.cells #[.int .u32 q, .int .u32 x] 43)) := bal' hb1 _ hz1
    go_ret
    exact ⟨rfl, hb3⟩
  · skip
    go_enter Try.func23, Try.ntmps23
    go_wp2_with (go_at_call 17; refine (HN.out _ (Below.refl _ _)).mono ?_; rintro e w1 ⟨rfl, hb1⟩; have hz1 := hb1.size)
    have hb3 : RowKit.Below w.heap.size w (w1.alloc (.cells #[.int .u32 q, .int .u32 x] 43)) := bal' hb1 _ hz1
    go_ret
    exact ⟨rfl, hb3⟩
  · skip
    go_enter Try.func23, Try.ntmps23
    go_wp2_with (go_at_call 17; refine (HN.out _ (Below.refl _ _)).mono ?_; rintro e w1 ⟨rfl, hb1⟩; have hz1 := hb1.size)
    have hb3 : RowKit.Below w.heap.size w (w1.alloc (.cells #[.int .u32 q, .int .u32 x] 43)) := bal' hb1 _ hz1
    go_ret
    exact ⟨rfl, hb3⟩
theorem rbump_any (g b0 : Nat) (base : Nat → Prop) (s : Stt) (id v : Int) (w : World) (h : RSto w b0 base g s) (hu : U32s s.ws) (hl : s.ws.length ≤ 100000) (hbd : ∀ i, base i → i < w.heap.size) (hk0 : 0 ≤ s.k) (hk1 : s.k < 900000) (hv0 : 0 ≤ v) (hv1 : v < 4294967296) :
    Calls Try.prog 23 #[.pointer (some ⟨g, 0, none⟩), .int .i64 id, .int .u32 v] w fun e w' => e = .returned (.int .i64 (bumpN s id v).1) ∧ RSto w' b0 base g (bumpN s id v).2 ∧ Near base w w' := by
  have fin : ∀ r : Int, Calls Try.prog 23 #[.pointer (some ⟨g, 0, none⟩), .int .i64 id, .int .u32 v] w (fun e w' => e = .returned (.int .i64 r) ∧ Below w.heap.size w w') →
      Calls Try.prog 23 #[.pointer (some ⟨g, 0, none⟩), .int .i64 id, .int .u32 v] w fun e w' => e = .returned (.int .i64 (r, s).1) ∧ RSto w' b0 base g (r, s).2 ∧ Near base w w' :=
    fun r hr => hr.mono fun e w' ⟨h1, h2⟩ => ⟨h1, h.kept h2, Near.of_below base h2⟩
  have hok := rec_ok (id := id) hu
  obtain ⟨R, hR⟩ : ∃ R, recN s.ws id = R := ⟨_, rfl⟩
  unfold bumpN
  rw [hR] at hok ⊢
  obtain ⟨err, at_, q, x⟩ := R
  simp only at hok ⊢
  split
  · rename_i h1
    exact fin _ (rbump_bad g b0 base s id err at_ q x v _ w h hu hl hR (.inl ⟨h1, rfl⟩))
  · rename_i h1
    have h1 : err = 0 := by omega
    subst h1
    split
    · rename_i h2
      exact fin _ (rbump_bad g b0 base s id 0 at_ q x v _ w h hu hl hR (.inr (.inl ⟨rfl, h2, rfl⟩)))
    · rename_i h2
      split
      · rename_i h3
        exact fin _ (rbump_bad g b0 base s id 0 at_ q x v _ w h hu hl hR (.inr (.inr ⟨rfl, h2, h3, rfl⟩)))
      · rename_i h3
        obtain ⟨k, rfl, hk, ha, hq0, hq1, hx0, hx1⟩ := hok rfl
        have := rbump_go g b0 base s k at_ (1 - at_) q x v w h hu hl hbd hk0 hk1 hk hR (by omega) hq0 hq1 hv0 hv1 h2 h3
        simpa using this
end Go.Proofs.Ytpenjfkdinmgmaa
