/- Chapter 14's examples: the law's awake; walked. -/
import Derived.Test.YtmhbpfclfffgkaaCfPc
namespace Go.Proofs.Ytmhbpfclfffgkaa
set_option linter.unusedVariables false
set_option linter.unusedSimpArgs false
open Go.RowKit Go.Sort

theorem parse_nil : parseC [] = .error (0, 141) := rfl
theorem parse_zero4 : parseC [0, 0, 0, 0] = .error (0, 140) := by rfl
theorem parse_bad {b : List Int} {w w' : World} {e : Ending} {a : Nat} {x : Int} (h : ParseR b w e w') (hp : parseC b = .error (a, x)) : e = .returned (.tuple #[.agg #[.int .u32 0, .slice none 0 0, .slice none 0 0], .int .i64 a, .int .i64 x]) ∧ Below w.heap.size w w' := by
  obtain ⟨h1, ⟨a2, x2, h2, h3, h4⟩ | ⟨x2, L, A1, c1, A2, c2, h2, _⟩⟩ := h
  · rw [hp] at h2
    simp only [Except.error.injEq, Prod.mk.injEq] at h2
    obtain ⟨rfl, rfl⟩ := h2
    exact ⟨h4, h1⟩
  · rw [hp] at h2; cases h2
theorem parse_ex0 (w : World) : Calls Try.prog 13 #[.slice none 0 0] w fun e w' => e = .returned (.tuple #[.agg #[.int .u32 0, .slice none 0 0, .slice none 0 0], .int .i64 0, .int .i64 141]) ∧ Below w.heap.size w w' :=
  (parse_any none 0 0 [] w rfl (by intro x hx; cases hx) (by omega) (by omega) (by decide) Rd.nil).mono fun e w' h => parse_bad h parse_nil
theorem parse_ex4 (w W : World) (hW : W = w.alloc (.cells (madeCells (Value.int .u8 0).cells (4 * 1)) 5)) : Calls Try.prog 13 #[.slice (some ⟨w.heap.size, 0, none⟩) 4 4] W fun e w' => e = .returned (.tuple #[.agg #[.int .u32 0, .slice none 0 0, .slice none 0 0], .int .i64 0, .int .i64 140]) ∧ Below w.heap.size w w' := by
  have hB : Blk W w.heap.size 5 #[.int .u8 0, .int .u8 0, .int .u8 0, .int .u8 0] := by
    have e4 : madeCells (Value.int .u8 0).cells (4 * 1) = #[.int .u8 0, .int .u8 0, .int .u8 0, .int .u8 0] := by kernel_rfl
    rw [hW, e4]; exact Blk.new w 5 _
  have hbW : Below w.heap.size w W := by rw [hW]; exact bal (Below.refl _ _) _
  have hsz : W.heap.size = w.heap.size + 1 := by rw [hW]; simp
  have hr : Rd W W.heap.size 1 (some ⟨w.heap.size, 0, none⟩) 4 ([0, 0, 0, 0].flatMap encB) := ⟨rfl, fun _ => ⟨_, 0, rfl, by omega, fun j v hv => by
    rw [Nat.zero_add, hB.cell j]
    have hv2 : [Value.int .u8 0, .int .u8 0, .int .u8 0, .int .u8 0][j]? = some v := hv
    simpa using hv2⟩⟩
  refine (parse_any _ 4 4 [0, 0, 0, 0] W rfl (by intro x hx; simp at hx; omega) (by omega) (by omega) (by decide) hr).mono fun e w' h => ?_
  have h2 := parse_bad h parse_zero4
  exact ⟨h2.1, hbW.trans (h2.2.mono hbW.size)⟩
set_option maxRecDepth 100000 in
set_option maxHeartbeats 4000000 in
theorem awake14_any (w : World) : Calls Try.prog 12 #[] w fun e w' => e = .returned (.bool true) ∧ Below w.heap.size w w' := by
  have HP := Lib.hid parse_ex0
  have HQ := Lib.hid parse_ex4
  go_enter Try.func12, Try.ntmps12
  go_upto_region 2 with (go_at_call 13; refine (HP.out _).mono ?_; rintro e w1 ⟨rfl, hb1⟩; have hb2 := bal' hb1 (.cells #[.int .u32 0, .slice none 0 0, .slice none 0 0] 28) hb1.size)
  generalize w1.alloc (.cells #[.int .u32 0, .slice none 0 0, .slice none 0 0] 28) = w2 at *
  have s1 : Sem.run Try.prog (Instr.makeSlice 22 (.int .i64 4) (.int .i64 4)) w2 = _ := make_b w2 4 4 (by omega) (by omega)
  go_wp2_with (go_at_call 13; refine (HQ.out w2 _ rfl).mono ?_; rintro e w3 ⟨rfl, hb3⟩; have hb34 := hb2.trans (hb3.mono hb2.size); have hb4 := bal' hb34 (.cells #[.int .u32 0, .slice none 0 0, .slice none 0 0] 28) hb34.size)
  go_ret
  exact ⟨rfl, hb4⟩
end Go.Proofs.Ytmhbpfclfffgkaa
