/- Chapter 10's example. -/
import Derived.Test.YtklbdjbichfajaaNvW
namespace Go.Proofs.Ytklbdjbichfajaa
set_option linter.unusedVariables false
open Go.RowKit Go.Sort

theorem tornW_awake : tornW 255 4660 0 = 52 := by decide +kernel
set_option maxHeartbeats 1000000 in
theorem awake10_any (w : World) :
    Calls Try.prog 14 #[] w fun e w' => e = .returned (.bool true) ∧ Below w.heap.size w w' := by
  have HT := Lib.hid tornW_awake
  have W1 : ∀ (g base : Nat) (w : World), Sto w (base ≤ ·) g ⟨true, 0, [(1, 255)], [0, 0]⟩ → base ≤ w.heap.size → Calls Try.prog 17 #[.pointer (some ⟨g, 0, none⟩), .int .i64 0, .int .u32 5] w fun e w' => e = .returned (.int .i64 0) ∧ Sto w' (base ≤ ·) g ⟨true, 1, [(1, 255)], [5, 0]⟩ ∧ Below base w w' :=
    fun g base w h hb => (write_any g _ _ 0 5 w h (by decide) (by decide)).mono fun _ _ ⟨a, b, c⟩ => ⟨a, b, c.below (fun _ h => h) hb⟩
  have W2 : ∀ (g base : Nat) (w : World), Sto w (base ≤ ·) g ⟨true, 1, [(1, 255)], [5, 0]⟩ → base ≤ w.heap.size → Calls Try.prog 17 #[.pointer (some ⟨g, 0, none⟩), .int .i64 1, .int .u32 4660] w fun e w' => e = .returned (.int .i64 100) ∧ Sto w' (base ≤ ·) g ⟨false, 1, [(1, 255)], [5, 52]⟩ ∧ Below base w w' := fun g base w h hb => by
    have := write_any g _ _ 1 4660 w h (by decide) (by decide)
    rw [show writeN ⟨true, 1, [(1, 255)], [5, 0]⟩ 1 4660 = (100, ⟨false, 1, [(1, 255)], [5, 52]⟩) by simp [writeN, tornW_awake]] at this
    exact this.mono fun _ _ ⟨a, b, c⟩ => ⟨a, b, c.below (fun _ h => h) hb⟩
  have HW1 := Lib.hid W1
  have HW2 := Lib.hid W2
  clear W1 W2
  go_enter Try.func14, Try.ntmps14
  go_wp2_with (first
    | (go_at_call 46; refine (new_any _ _ 2 _ 1 _ [0, 0] [(1, 255)] _ rfl rfl (by decide) (by decide) (((Rd.new w #[.int .u32 0, .int .u32 0] 22 2 1 rfl).alloc (by simp) _).more (by simp)) (Rd.fresh _ _ _ 1 2 _ rfl)).mono ?_; rintro e w1 ⟨g, rfl, hs1, hb1⟩; have hbs := hb1.size)
    | (go_at_call 17; with_reducible (refine (HW1.out g _ _ hs1 hbs).mono ?_); rintro e w2 ⟨rfl, hs2, hb2⟩; have hbs2 := Nat.le_trans hbs hb2.size)
    | (go_at_call 17; with_reducible (refine (HW2.out g _ _ hs2 hbs2).mono ?_); rintro e w3 ⟨rfl, hs3, hb3⟩; have hbs3 := Nat.le_trans hbs2 hb3.size)
    | (go_at_call 21; refine (words_of g _ _ _ hs3 (by decide)).mono ?_; rintro e w4 ⟨A4, c4, rfl, hown4, hb4⟩; obtain ⟨g4, p4, hv4, _⟩ := hown4.form (by decide); injection hv4 with hA4 _ _; subst hA4; have hc4 : w4.cell? ⟨g4, 1, none⟩ = some (.int .u32 52) := hown4.cellAt 1 (by decide); have hs3 := hs3.kept hb4; have hb3 := hb3.trans (hb4.mono hbs3); have hbs3 := Nat.le_trans hbs3 hb4.size)
    | (go_at_call 19; obtain ⟨cv, wv, hB, _, _, _⟩ := hs3; refine (dead_any g _ _ _ _ _ hB).mono ?_; rintro e w5 ⟨rfl, rfl⟩))
  go_ret
  exact ⟨rfl, below_alloc (below_alloc (hb1.trans (hb2.trans hb3)))⟩

end Go.Proofs.Ytklbdjbichfajaa
