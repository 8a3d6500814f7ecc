/- Chapter 13's example. -/
import Derived.Test.YtpenjfkdinmgmaaCtrN
namespace Go.Proofs.Ytpenjfkdinmgmaa
set_option linter.unusedVariables false
set_option linter.unusedSimpArgs false
open Go.RowKit Go.Sort

def aw0 : Stt := ⟨true, 0, [], fmtN 0 [3]⟩
def aw1 : Stt := (bumpN aw0 0 5).2
theorem aw_plain : (recN aw0.ws 0).v = 3 ∧ (recN aw0.ws 0).err = 0 ∧ (bumpN aw0 0 5).1 = 0 ∧ aw1.k = 4 ∧ (recN aw1.ws 0).v = 5 ∧ (recN aw1.ws 0).err = 0 ∧ (bumpN aw1 0 5).1 = 132 ∧ aw0.ws.length = 8 ∧ aw1.ws.length = 8 := by decide +kernel
theorem aw_u0 : U32s aw0.ws := by unfold U32s; decide +kernel
theorem aw_u1 : U32s aw1.ws := by unfold U32s; decide +kernel
set_option maxRecDepth 100000 in
set_option maxHeartbeats 4000000 in
theorem awake13_any (w : World) :
    Calls Try.prog 8 #[] w fun e w' => e = .returned (.bool true) ∧ Below w.heap.size w w' := by
  obtain ⟨p1, p2, p3, p4, p5, p6, p7, p8, p9⟩ := aw_plain
  have R0 : ∀ (g : Nat) (base : Nat → Prop) (W : World), Sto W base g aw0 → Calls Try.prog 10 #[.pointer (some ⟨g, 0, none⟩), .int .i64 0] W fun e w' => e = .returned (.tuple #[.int .u32 3, .int .i64 0]) ∧ Below W.heap.size W w' := fun g base W h => by
    have := rec_any g base aw0 0 W h aw_u0 (by rw [p8]; decide)
    rw [p1, p2] at this
    exact this
  have R1 : ∀ (g : Nat) (base : Nat → Prop) (W : World), Sto W base g aw1 → Calls Try.prog 10 #[.pointer (some ⟨g, 0, none⟩), .int .i64 0] W fun e w' => e = .returned (.tuple #[.int .u32 5, .int .i64 0]) ∧ Below W.heap.size W w' := fun g base W h => by
    have := rec_any g base aw1 0 W h aw_u1 (by rw [p9]; decide)
    rw [p5, p6] at this
    exact this
  have B0 : ∀ (g : Nat) (base : Nat → Prop) (W : World), Sto W base g aw0 → (∀ i, base i → i < W.heap.size) → Calls Try.prog 11 #[.pointer (some ⟨g, 0, none⟩), .int .i64 0, .int .u32 5] W fun e w' => e = .returned (.int .i64 0) ∧ Sto w' base g aw1 ∧ Near base W w' := fun g base W h hb => by
    have := bump_any g base aw0 0 5 W h aw_u0 (by rw [p8]; decide) hb (by decide) (by decide) (by decide) (by decide)
    rw [p3] at this
    exact this
  have B1 : ∀ (g : Nat) (base : Nat → Prop) (W : World), Sto W base g aw1 → (∀ i, base i → i < W.heap.size) → Calls Try.prog 11 #[.pointer (some ⟨g, 0, none⟩), .int .i64 0, .int .u32 5] W fun e w' => e = .returned (.int .i64 132) ∧ Near base W w' := fun g base W h hb => by
    have := bump_any g base aw1 0 5 W h aw_u1 (by rw [p9]; decide) hb (by rw [p4]; decide) (by rw [p4]; decide) (by decide) (by decide)
    rw [p7] at this
    exact this.mono fun _ _ ⟨a, _, b⟩ => ⟨a, b⟩
  have W1 : ∀ (g : Nat) (base : Nat → Prop) (W : World), Sto W base g aw1 → Calls Try.prog 12 #[.pointer (some ⟨g, 0, none⟩)] W fun e w' => e = .returned (.int .i64 4) ∧ W = w' := fun g base W ⟨cv, wv, hB, _⟩ => by
    have := writes_any g _ _ _ _ W hB
    rw [p4] at this
    exact this
  have HR0 := Lib.hid R0
  have HR1 := Lib.hid R1
  have HB0 := Lib.hid B0
  have HB1 := Lib.hid B1
  have HW1 := Lib.hid W1
  have HU : Hid (U32s [3]) := Lib.hid (by unfold U32s; decide)
  clear R0 R1 B0 B1 W1 p1 p2 p3 p4 p5 p6 p7 p8 p9
  go_enter Try.func8, Try.ntmps8
  go_wp2_with (first
    | (go_at_call 13; refine (format_any _ 1 _ [3] _ rfl (by decide) HU.out ((Rd.new w #[.int .u32 3] 23 1 1 rfl).more (by simp))).mono ?_; rintro e w1 ⟨v1, rfl, hown1, hb1⟩; obtain ⟨A1, c1, rfl, _, hr1⟩ := own_slice hown1; have hz1 : w.heap.size ≤ w1.heap.size := by (have := hb1.size; simp at this; omega))
    | (go_at_call 9; refine (new_any A1 _ 8 c1 0 _ (fmtN 0 [3]) [] _ rfl rfl (by decide) (by decide) hr1 ⟨rfl, fun h => absurd h (by decide)⟩).mono ?_; rintro e w2 ⟨g, rfl, hs2, hb2⟩; have hs2 := Sto.bound (s := aw0) hs2; have hb3 := (below_alloc hb1).trans (hb2.mono hz1))
    | (go_at_call 10; with_reducible (refine (HR0.out g _ _ hs2).mono ?_); rintro e w3 ⟨rfl, hb4⟩; have hs3 := hs2.kept hb4; have hz3 := hb4.size; have hb5 := hb3.trans (hb4.mono hb3.size))
    | (go_at_call 11; with_reducible (refine (HB0.out g _ _ hs3 (fun i hi => Nat.lt_of_lt_of_le hi.2 hz3)).mono ?_); rintro e w4 ⟨rfl, hs4, hn4⟩; have hz4 := hn4.size; have hb6 := hb5.trans (hn4.below (fun i hi => Nat.le_trans hz1 hi.1) hb5.size))
    | (go_at_call 10; with_reducible (refine (HR1.out g _ _ hs4).mono ?_); rintro e w5 ⟨rfl, hb7⟩; have hs5 := hs4.kept hb7; have hz5 := hb7.size; have hb8 := hb6.trans (hb7.mono hb6.size))
    | (go_at_call 12; refine (HW1.out g _ _ hs5).mono ?_; rintro e w6 ⟨rfl, rfl⟩)
    | (go_at_call 11; with_reducible (refine (HB1.out g _ _ hs5 (fun i hi => Nat.lt_of_lt_of_le hi.2 (Nat.le_trans hz3 (Nat.le_trans hz4 hz5)))).mono ?_); rintro e w7 ⟨rfl, hn7⟩; have hb9 := hb8.trans (hn7.below (fun i hi => Nat.le_trans hz1 hi.1) hb8.size)))
  go_ret
  exact ⟨rfl, hb9⟩
end Go.Proofs.Ytpenjfkdinmgmaa
