/- Which board a tree is: the program and the document alike. -/
import Derived.Test.YtnkpaockginooaaHostK
import Derived.Test.YtnkpaockginooaaTreeJ
namespace Go.Proofs.Ytnkpaockginooaa
set_option linter.unusedVariables false
set_option linter.unusedSimpArgs false
open Go.RowKit Go.Sort Go.ChangeShapes Go.WideShapes

set_option maxRecDepth 100000 in
set_option maxHeartbeats 2000000 in
theorem rboard_few (k : Nat) (t : Tr) (tcs : List Value) (w : World) (ht : TrOk w w.heap.size k t tcs) (hk : t.ks.length ≠ 3) :
    Calls Try.prog 23 #[.agg tcs.toArray] w fun e w' => e = .returned (.tuple #[.agg (encBd zeroB).toArray, .int .i64 282]) ∧ Below w.heap.size w w' := by
  obtain ⟨A1, A2, c1, c2, g, m, rfl, h7, h9⟩ := ht.form3
  have z2 : ((t.ks.length : Int) != 3) = true := by simpa using (show ¬ (t.ks.length : Int) = 3 by omega)
  have hl := ht.lens
  unfold maxLen at hl
  generalize t.ks.length = nk at *
  generalize t.ps.length = np at *
  generalize t.nm = nm at *
  have hR := Blk.fresh (w.alloc (.cells #[.string nm, .slice A1 np c1, .slice A2 nk c2] 25)) 39 #[.int .u64 0, .int .u64 0, .int .u64 0, .int .u64 0, .int .i64 0, .int .i64 0, .int .i64 0] (g := w.heap.size + 1)
  have hb := bal (bal (Below.refl w.heap.size w) (.cells #[.string nm, .slice A1 np c1, .slice A2 nk c2] 25)) (.cells #[.int .u64 0, .int .u64 0, .int .u64 0, .int .u64 0, .int .i64 0, .int .i64 0, .int .i64 0] 39)
  have hT := (Blk.new w 25 #[.string nm, .slice A1 np c1, .slice A2 nk c2]).alloc (.cells #[.int .u64 0, .int .u64 0, .int .u64 0, .int .u64 0, .int .i64 0, .int .i64 0, .int .i64 0] 39)
  clear h7 h9
  go_enter Try.func23, Try.ntmps23
  go_upto_region 1 with (fail)
  generalize (w.alloc (.cells #[.string nm, .slice A1 np c1, .slice A2 nk c2] 25)).alloc (.cells #[.int .u64 0, .int .u64 0, .int .u64 0, .int .u64 0, .int .i64 0, .int .i64 0, .int .i64 0] 39) = w1 at *
  have cT := hT.cell
  have cR := hR.cell
  have fR := hR.frozen
  have cZ := ((((((((hR.set_ 0 (.int .u64 0)).set_ 1 (.int .u64 0)).set_ 2 (.int .u64 0)).set_ 3 (.int .u64 0)).set_ 4 (.int .i64 0)).set_ 5 (.int .i64 0)).set_ 6 (.int .i64 0))).cell
  have hbz := (((((((hb.setCell (p := ⟨w.heap.size + 1, 0, none⟩) (by simp) (.int .u64 0)).setCell (p := ⟨w.heap.size + 1, 1, none⟩) (by simp) (.int .u64 0)).setCell (p := ⟨w.heap.size + 1, 2, none⟩) (by simp) (.int .u64 0)).setCell (p := ⟨w.heap.size + 1, 3, none⟩) (by simp) (.int .u64 0)).setCell (p := ⟨w.heap.size + 1, 4, none⟩) (by simp) (.int .i64 0)).setCell (p := ⟨w.heap.size + 1, 5, none⟩) (by simp) (.int .i64 0)).setCell (p := ⟨w.heap.size + 1, 6, none⟩) (by simp) (.int .i64 0))
  go_wp2_with fail
  exact bodyPost_ret (v := .tuple #[.agg (encBd zeroB).toArray, .int .i64 282]) (by simp [results, Try.results23, go_sem, cZ, encBd, zeroB]) rfl ⟨rfl, hbz⟩
set_option maxRecDepth 100000 in
set_option maxHeartbeats 2000000 in
theorem rboard_big (k : Nat) (t : Tr) (tcs : List Value) (w : World) (ht : TrOk w w.heap.size k t tcs) (k0 k1 k2 : Tr) (hks : t.ks = [k0, k1, k2]) (hk : 32 < k0.ks.length) :
    Calls Try.prog 23 #[.agg tcs.toArray] w fun e w' => e = .returned (.tuple #[.agg (encBd zeroB).toArray, .int .i64 282]) ∧ Below w.heap.size w w' := by
  obtain ⟨A1, A2, c1, c2, g, m, rfl, h7, h9⟩ := ht.form3
  have hl := ht.lens
  unfold maxLen at hl
  have hk0 := h9 0 k0 (by rw [hks]; rfl)
  have hkl := hk0.lens.2
  unfold maxLen at hkl
  obtain ⟨A3, A4, c3, c4, _, _, hg0, _, _⟩ := hk0.form3
  have hn3 : t.ks.length = 3 := by rw [hks]; rfl
  obtain ⟨b2, o2, rfl, hb2, hc2⟩ := h7 (by rw [hn3]; decide)
  have y0 := hc2 0 (by rw [hn3]; decide) 2 (by decide)
  rw [hg0] at y0
  simp only [Nat.zero_mul, Nat.zero_add, List.getElem?_cons_zero, List.getElem?_cons_succ] at y0
  rw [hn3] at hl ⊢
  clear hc2 hn3 hks hk0 hg0
  generalize k0.ks.length = n0 at *
  generalize t.ps.length = np at *
  generalize t.nm = nm at *
  have hR := Blk.fresh (w.alloc (.cells #[.string nm, .slice A1 np c1, .slice (some ⟨b2, o2, none⟩) 3 c2] 25)) 39 #[.int .u64 0, .int .u64 0, .int .u64 0, .int .u64 0, .int .i64 0, .int .i64 0, .int .i64 0] (g := w.heap.size + 1)
  have hb := bal (bal (Below.refl w.heap.size w) (.cells #[.string nm, .slice A1 np c1, .slice (some ⟨b2, o2, none⟩) 3 c2] 25)) (.cells #[.int .u64 0, .int .u64 0, .int .u64 0, .int .u64 0, .int .i64 0, .int .i64 0, .int .i64 0] 39)
  have hT := (Blk.new w 25 #[.string nm, .slice A1 np c1, .slice (some ⟨b2, o2, none⟩) 3 c2]).alloc (.cells #[.int .u64 0, .int .u64 0, .int .u64 0, .int .u64 0, .int .i64 0, .int .i64 0, .int .i64 0] 39)
  clear h7 h9
  have y1 := (hb.cell (p := ⟨b2, o2 + 2, none⟩) hb2).trans y0
  go_enter Try.func23, Try.ntmps23
  go_upto_region 1 with (fail)
  generalize (w.alloc (.cells #[.string nm, .slice A1 np c1, .slice (some ⟨b2, o2, none⟩) 3 c2] 25)).alloc (.cells #[.int .u64 0, .int .u64 0, .int .u64 0, .int .u64 0, .int .i64 0, .int .i64 0, .int .i64 0] 39) = w1 at *
  have cT := hT.cell
  have cR := hR.cell
  have fR := hR.frozen
  have cZ := ((((((((hR.set_ 0 (.int .u64 0)).set_ 1 (.int .u64 0)).set_ 2 (.int .u64 0)).set_ 3 (.int .u64 0)).set_ 4 (.int .i64 0)).set_ 5 (.int .i64 0)).set_ 6 (.int .i64 0))).cell
  have hbz := (((((((hb.setCell (p := ⟨w.heap.size + 1, 0, none⟩) (by simp) (.int .u64 0)).setCell (p := ⟨w.heap.size + 1, 1, none⟩) (by simp) (.int .u64 0)).setCell (p := ⟨w.heap.size + 1, 2, none⟩) (by simp) (.int .u64 0)).setCell (p := ⟨w.heap.size + 1, 3, none⟩) (by simp) (.int .u64 0)).setCell (p := ⟨w.heap.size + 1, 4, none⟩) (by simp) (.int .i64 0)).setCell (p := ⟨w.heap.size + 1, 5, none⟩) (by simp) (.int .i64 0)).setCell (p := ⟨w.heap.size + 1, 6, none⟩) (by simp) (.int .i64 0))
  go_wp2_with fail
  exact bodyPost_ret (v := .tuple #[.agg (encBd zeroB).toArray, .int .i64 282]) (by simp [results, Try.results23, go_sem, cZ, encBd, zeroB]) rfl ⟨rfl, hbz⟩
theorem board_any (k : Nat) (t : Tr) (tcs : List Value) (w : World) (ht : TrOk w w.heap.size k t tcs) :
    Calls Try.prog 22 #[.agg tcs.toArray] w fun e w' => ∃ x r, e = .returned (.tuple #[.agg (encBd x).toArray, .int .i64 r]) ∧ BRes t x r ∧ Below w.heap.size w w' := by
  by_cases hn : t.ks.length = 3
  · match hks : t.ks, hn with
    | [k0, k1, k2], _ => exact board_three k t k0 k1 k2 tcs w ht hks
  · exact (board_few k t tcs w ht hn).mono fun e w' ⟨h1, h2⟩ => ⟨zeroB, 282, h1, noB hn, h2⟩
theorem rboard_any (k : Nat) (t : Tr) (tcs : List Value) (w : World) (ht : TrOk w w.heap.size k t tcs) :
    Calls Try.prog 23 #[.agg tcs.toArray] w fun e w' => ∃ x r, e = .returned (.tuple #[.agg (encBd x).toArray, .int .i64 r]) ∧ BRes t x r ∧ Below w.heap.size w w' := by
  by_cases hn : t.ks.length = 3
  · match hks : t.ks, hn with
    | [k0, k1, k2], _ =>
      by_cases h32 : k0.ks.length ≤ 32
      · exact rboard_three k t k0 k1 k2 tcs w ht hks h32
      · refine (rboard_big k t tcs w ht k0 k1 k2 hks (by omega)).mono fun e w' ⟨h1, h2⟩ => ⟨zeroB, 282, h1, .inr ⟨rfl, rfl, fun b hb => ?_⟩, h2⟩
        obtain ⟨e1, e2, rfl⟩ := hb
        exact h32 (rread_host b e1 e2 k0 k1 k2 hks).2
  · exact (rboard_few k t tcs w ht hn).mono fun e w' ⟨h1, h2⟩ => ⟨zeroB, 282, h1, noB hn, h2⟩
end Go.Proofs.Ytnkpaockginooaa
