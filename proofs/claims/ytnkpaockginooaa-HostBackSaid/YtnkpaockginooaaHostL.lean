/- Which board a tree is: the program and the document alike. -/
import Derived.Test.YtnkpaockginooaaHostK
import Derived.Test.YtnkpaockginooaaTreeJ
import Derived.Test.YtnkpaockginooaaEqFlat
namespace Go.Proofs.Ytnkpaockginooaa
set_option linter.unusedVariables false
set_option linter.unusedSimpArgs false
open Go.RowKit Go.Sort Go.ChangeShapes Go.WideShapes

set_option maxRecDepth 100000 in
set_option maxHeartbeats 2000000 in
theorem rboard_few (k : Nat) (t : Tr) (tcs : List Value) (w : World) (ht : TrOk w w.heap.size k t tcs) (hk : t.ks.length ≠ 3) :
    Calls Try.prog 23 #[.agg tcs.toArray] w fun e w' => e = .returned (.tuple #[.agg (encBd zeroB).toArray, .int .i64 282]) ∧ Below w.heap.size w w' := by
  obtain ⟨A1, A2, c1, c2, g, m, rfl, h7, h9⟩ := ht.form3
  have z2 : ((t.ks.length : Int) != 3) = true := by simpa using (show ¬ (t.ks.length : Int) = 3 by omega)
  have hl := ht.lens
  unfold maxLen at hl
  generalize t.ks.length = nk at *
  generalize t.ps.length = np at *
  generalize t.nm = nm at *
  have hR := Blk.fresh (w.alloc (.cells #[.string nm, .slice A1 np c1, .slice A2 nk c2] 25)) 39 #[.int .u64 0, .int .u64 0, .int .u64 0, .int .u64 0, .int .i64 0, .int .i64 0, .int .i64 0] (g := w.heap.size + 1)
  have hb := bal (bal (Below.refl w.heap.size w) (.cells #[.string nm, .slice A1 np c1, .slice A2 nk c2] 25)) (.cells #[.int .u64 0, .int .u64 0, .int .u64 0, .int .u64 0, .int .i64 0, .int .i64 0, .int .i64 0] 39)
  have hT := (Blk.new w 25 #[.string nm, .slice A1 np c1, .slice A2 nk c2]).alloc (.cells #[.int .u64 0, .int .u64 0, .int .u64 0, .int .u64 0, .int .i64 0, .int .i64 0, .int .i64 0] 39)
  clear h7 h9
  go_enter Try.func23, Try.ntmps23
  go_upto_region 1 with (fail)
  generalize (w.alloc (.cells #[.string nm, .slice A1 np c1, .slice A2 nk c2] 25)).alloc (.cells #[.int .u64 0, .int .u64 0, .int .u64 0, .int .u64 0, .int .i64 0, .int .i64 0, .int .i64 0] 39) = w1 at *
  have cT := hT.cell
  have cR := hR.cell
  have fR := hR.frozen
  have cZ := ((((((((hR.set_ 0 (.int .u64 0)).set_ 1 (.int .u64 0)).set_ 2 (.int .u64 0)).set_ 3 (.int .u64 0)).set_ 4 (.int .i64 0)).set_ 5 (.int .i64 0)).set_ 6 (.int .i64 0))).cell
  have hbz := (((((((hb.setCell (p := ⟨w.heap.size + 1, 0, none⟩) (by simp) (.int .u64 0)).setCell (p := ⟨w.heap.size + 1, 1, none⟩) (by simp) (.int .u64 0)).setCell (p := ⟨w.heap.size + 1, 2, none⟩) (by simp) (.int .u64 0)).setCell (p := ⟨w.heap.size + 1, 3, none⟩) (by simp) (.int .u64 0)).setCell (p := ⟨w.heap.size + 1, 4, none⟩) (by simp) (.int .i64 0)).setCell (p := ⟨w.heap.size + 1, 5, none⟩) (by simp) (.int .i64 0)).setCell (p := ⟨w.heap.size + 1, 6, none⟩) (by simp) (.int .i64 0))
  go_wp2_with fail
  exact bodyPost_ret (v := .tuple #[.agg (encBd zeroB).toArray, .int .i64 282]) (by simp [results, Try.results23, go_sem, cZ, encBd, zeroB]) rfl ⟨rfl, hbz⟩
set_option maxRecDepth 100000 in
set_option maxHeartbeats 2000000 in
theorem rboard_big (k : Nat) (t : Tr) (tcs : List Value) (w : World) (ht : TrOk w w.heap.size k t tcs) (k0 k1 k2 : Tr) (hks : t.ks = [k0, k1, k2]) (hk : 32 < k0.ks.length) :
    Calls Try.prog 23 #[.agg tcs.toArray] w fun e w' => e = .returned (.tuple #[.agg (encBd zeroB).toArray, .int .i64 282]) ∧ Below w.heap.size w w' := by
  obtain ⟨A1, A2, c1, c2, g, m, rfl, h7, h9⟩ := ht.form3
  have hl := ht.lens
  unfold maxLen at hl
  have hk0 := h9 0 k0 (by rw [hks]; rfl)
  have hkl := hk0.lens.2
  unfold maxLen at hkl
  obtain ⟨A3, A4, c3, c4, _, _, hg0, _, _⟩ := hk0.form3
  have hn3 : t.ks.length = 3 := by rw [hks]; rfl
  obtain ⟨b2, o2, rfl, hb2, hc2⟩ := h7 (by rw [hn3]; decide)
  have y0 := hc2 0 (by rw [hn3]; decide) 2 (by decide)
  rw [hg0] at y0
  simp only [Nat.zero_mul, Nat.zero_add, List.getElem?_cons_zero, List.getElem?_cons_succ] at y0
  rw [hn3] at hl ⊢
  clear hc2 hn3 hks hk0 hg0
  generalize k0.ks.length = n0 at *
  generalize t.ps.length = np at *
  generalize t.nm = nm at *
  have hR := Blk.fresh (w.alloc (.cells #[.string nm, .slice A1 np c1, .slice (some ⟨b2, o2, none⟩) 3 c2] 25)) 39 #[.int .u64 0, .int .u64 0, .int .u64 0, .int .u64 0, .int .i64 0, .int .i64 0, .int .i64 0] (g := w.heap.size + 1)
  have hb := bal (bal (Below.refl w.heap.size w) (.cells #[.string nm, .slice A1 np c1, .slice (some ⟨b2, o2, none⟩) 3 c2] 25)) (.cells #[.int .u64 0, .int .u64 0, .int .u64 0, .int .u64 0, .int .i64 0, .int .i64 0, .int .i64 0] 39)
  have hT := (Blk.new w 25 #[.string nm, .slice A1 np c1, .slice (some ⟨b2, o2, none⟩) 3 c2]).alloc (.cells #[.int .u64 0, .int .u64 0, .int .u64 0, .int .u64 0, .int .i64 0, .int .i64 0, .int .i64 0] 39)
  clear h7 h9
  have y1 := (hb.cell (p := ⟨b2, o2 + 2, none⟩) hb2).trans y0
  go_enter Try.func23, Try.ntmps23
  go_upto_region 1 with (fail)
  generalize (w.alloc (.cells #[.string nm, .slice A1 np c1, .slice (some ⟨b2, o2, none⟩) 3 c2] 25)).alloc (.cells #[.int .u64 0, .int .u64 0, .int .u64 0, .int .u64 0, .int .i64 0, .int .i64 0, .int .i64 0] 39) = w1 at *
  have cT := hT.cell
  have cR := hR.cell
  have fR := hR.frozen
  have cZ := ((((((((hR.set_ 0 (.int .u64 0)).set_ 1 (.int .u64 0)).set_ 2 (.int .u64 0)).set_ 3 (.int .u64 0)).set_ 4 (.int .i64 0)).set_ 5 (.int .i64 0)).set_ 6 (.int .i64 0))).cell
  have hbz := (((((((hb.setCell (p := ⟨w.heap.size + 1, 0, none⟩) (by simp) (.int .u64 0)).setCell (p := ⟨w.heap.size + 1, 1, none⟩) (by simp) (.int .u64 0)).setCell (p := ⟨w.heap.size + 1, 2, none⟩) (by simp) (.int .u64 0)).setCell (p := ⟨w.heap.size + 1, 3, none⟩) (by simp) (.int .u64 0)).setCell (p := ⟨w.heap.size + 1, 4, none⟩) (by simp) (.int .i64 0)).setCell (p := ⟨w.heap.size + 1, 5, none⟩) (by simp) (.int .i64 0)).setCell (p := ⟨w.heap.size + 1, 6, none⟩) (by simp) (.int .i64 0))
  go_wp2_with fail
  exact bodyPost_ret (v := .tuple #[.agg (encBd zeroB).toArray, .int .i64 282]) (by simp [results, Try.results23, go_sem, cZ, encBd, zeroB]) rfl ⟨rfl, hbz⟩
theorem board_any (k : Nat) (t : Tr) (tcs : List Value) (w : World) (ht : TrOk w w.heap.size k t tcs) :
    Calls Try.prog 22 #[.agg tcs.toArray] w fun e w' => ∃ x r, e = .returned (.tuple #[.agg (encBd x).toArray, .int .i64 r]) ∧ BRes t x r ∧ Below w.heap.size w w' := by
  by_cases hn : t.ks.length = 3
  · match hks : t.ks, hn with
    | [k0, k1, k2], _ => exact board_three k t k0 k1 k2 tcs w ht hks
  · exact (board_few k t tcs w ht hn).mono fun e w' ⟨h1, h2⟩ => ⟨zeroB, 282, h1, noB hn, h2⟩
theorem rboard_any (k : Nat) (t : Tr) (tcs : List Value) (w : World) (ht : TrOk w w.heap.size k t tcs) :
    Calls Try.prog 23 #[.agg tcs.toArray] w fun e w' => ∃ x r, e = .returned (.tuple #[.agg (encBd x).toArray, .int .i64 r]) ∧ BRes t x r ∧ Below w.heap.size w w' := by
  by_cases hn : t.ks.length = 3
  · match hks : t.ks, hn with
    | [k0, k1, k2], _ =>
      by_cases h32 : k0.ks.length ≤ 32
      · exact rboard_three k t k0 k1 k2 tcs w ht hks h32
      · refine (rboard_big k t tcs w ht k0 k1 k2 hks (by omega)).mono fun e w' ⟨h1, h2⟩ => ⟨zeroB, 282, h1, .inr ⟨rfl, rfl, fun b hb => ?_⟩, h2⟩
        obtain ⟨e1, e2, rfl⟩ := hb
        exact h32 (rread_host b e1 e2 k0 k1 k2 hks).2
  · exact (rboard_few k t tcs w ht hn).mono fun e w' ⟨h1, h2⟩ => ⟨zeroB, 282, h1, noB hn, h2⟩
end Go.Proofs.Ytnkpaockginooaa
namespace Go.Proofs.Ytnkpaockginooaa
set_option linter.unusedVariables false
set_option linter.unusedSimpArgs false
open Go.RowKit Go.Sort Go.ChangeShapes Go.WideShapes

def zeroT : Tr := .mk ⟨#[]⟩ [] []
theorem zeroT_ok (w : World) (B : Nat) : TrOk w B 1 zeroT [.string ⟨#[]⟩, .slice none 0 0, .slice none 0 0] :=
  ⟨by decide, none, 0, none, 0, fun _ => [], fun _ => [], rfl, by decide, by decide, by decide, by decide, fun h => absurd h (by decide), fun h => absurd h (by decide), fun i p h => by simp [zeroT, Tr.ps] at h, fun i k h => by simp [zeroT, Tr.ks] at h⟩
theorem flat_board : flatOf Try.prog 5 39 = some [.int .u64, .int .u64, .int .u64, .int .u64, .int .i64, .int .i64, .int .i64] := by kernel_rfl
theorem eq_board (w : World) (x y : Bd) : (binOp .eql 39 (.agg #[.int .u64 x.rb, .int .u64 x.rs, .int .u64 x.lb, .int .u64 x.ls, .int .i64 x.irqs, .int .i64 x.strs, .int .i64 x.cpus]) (.agg #[.int .u64 y.rb, .int .u64 y.rs, .int .u64 y.lb, .int .u64 y.ls, .int .i64 y.irqs, .int .i64 y.strs, .int .i64 y.cpus])).run Try.prog w = .ok (.bool (decide (x = y))) w := by
  have fk : ∀ z : Bd, FlatK [.int .u64, .int .u64, .int .u64, .int .u64, .int .i64, .int .i64, .int .i64] (encBd z) := fun z => ⟨rfl, rfl, rfl, rfl, rfl, rfl, rfl, trivial⟩
  have h := eql_flat w flat_board (by kernel_rfl) (by decide) (by kernel_rfl) (fk x) (fk y)
  have e : eqLeaves (encBd x) (encBd y) = decide (x = y) := by
    rw [Bool.eq_iff_iff, eqLeaves_iff (fk x) (fk y), decide_eq_true_iff]
    obtain ⟨a1, a2, a3, a4, a5, a6, a7⟩ := x
    obtain ⟨b1, b2, b3, b4, b5, b6, b7⟩ := y
    simp [encBd]
  rw [e] at h
  exact h
set_option maxRecDepth 100000 in
set_option maxHeartbeats 1000000 in
theorem awake32_any (w : World) : Calls Try.prog 21 #[] w fun e w' => e = .returned (.bool true) ∧ Below w.heap.size w w' := by
  have HB := Lib.hid (fun w => board_few 1 zeroT [.string ⟨#[]⟩, .slice none 0 0, .slice none 0 0] w (zeroT_ok w _) (by decide))
  simp only [encBd, zeroB] at HB
  go_enter Try.func21, Try.ntmps21
  go_wp2_with (go_at_call 22; refine (HB.out _).mono ?_; rintro e w1 ⟨rfl, hb1⟩)
  go_ret
  exact ⟨rfl, bal hb1 _⟩
set_option maxRecDepth 100000 in
set_option maxHeartbeats 1000000 in
theorem hostBoards_any (k : Nat) (t : Tr) (tcs : List Value) (w : World) (ht : TrOk w w.heap.size k t tcs) :
    Calls Try.prog 5 #[.agg tcs.toArray] w fun e w' => e = .returned (.bool true) ∧ Below w.heap.size w w' := by
  obtain ⟨x1, xA, xl, xc, xB, xm, xd, hx⟩ := tr_form ht
  have K1 := Lib.hid (fun W (hW : Below w.heap.size w W) => few_any k t tcs W ((ht.below hW).more hW.size))
  have K2 := Lib.hid (fun W (hW : Below w.heap.size w W) => board_any k t tcs W ((ht.below hW).more hW.size))
  have K3 := Lib.hid (fun W (hW : Below w.heap.size w W) => rboard_any k t tcs W ((ht.below hW).more hW.size))
  subst hx
  clear ht
  have hT := Blk.new w 25 #[.string x1, .slice xA xl xc, .slice xB xm xd]
  have hb := bal (Below.refl w.heap.size w) (.cells #[.string x1, .slice xA xl xc, .slice xB xm xd] 25)
  go_enter Try.func5, Try.ntmps5
  go_upto_region 1 with (fail)
  generalize w.alloc (.cells #[.string x1, .slice xA xl xc, .slice xB xm xd] 25) = w1 at *
  go_upto_region 3 with (go_at_call 21; refine (awake32_any _).mono ?_; rintro e w2 ⟨rfl, hb2⟩)
  have hT2 := hT.kept hb2
  have hbW2 := hb.trans (hb2.mono hb.size)
  have cT := hT2.cell
  clear hT hb hb2
  have hEq := eq_board
  have hdd : ∀ x : Bd, decide (x = x) = true := fun x => decide_eq_true rfl
  go_wp2_with (first
    | (go_at_call 14; refine (K1.out _ hbW2).mono ?_; rintro e w3 ⟨⟨fb, rfl⟩, hb3⟩; have hT3 := hT2.kept hb3; have hbW3 := hbW2.trans (hb3.mono hbW2.size); have cT3 := hT3.cell; clear cT hT2 hbW2 hb3)
    | (go_at_call 22; refine (K2.out _ hbW3).mono ?_; rintro e w4 ⟨x, r, rfl, hB1, hb4⟩; have hT4 := hT3.kept hb4; have hbW4 := hbW3.trans (hb4.mono hbW3.size); have hT5 := hT4.alloc (.cells #[.int .u64 x.rb, .int .u64 x.rs, .int .u64 x.lb, .int .u64 x.ls, .int .i64 x.irqs, .int .i64 x.strs, .int .i64 x.cpus] 39); have hX5 := Blk.new w4 39 #[.int .u64 x.rb, .int .u64 x.rs, .int .u64 x.lb, .int .u64 x.ls, .int .i64 x.irqs, .int .i64 x.strs, .int .i64 x.cpus]; have hbW5 := bal' hbW4 (.cells #[.int .u64 x.rb, .int .u64 x.rs, .int .u64 x.lb, .int .u64 x.ls, .int .i64 x.irqs, .int .i64 x.strs, .int .i64 x.cpus] 39) hbW4.size; have cT5 := hT5.cell; simp only [encBd]; clear cT3 hT3 hbW3 hb4)
    | (go_at_call 23; refine (K3.out _ hbW5).mono ?_; rintro e w6 ⟨y, q, rfl, hB2, hb6⟩; obtain ⟨rfl, rfl⟩ := bRes_inj hB1 hB2; have hX6 := hX5.kept hb6; have hbW6 := hbW5.trans (hb6.mono hbW5.size); have hX7 := hX6.alloc (.cells #[.int .u64 x.rb, .int .u64 x.rs, .int .u64 x.lb, .int .u64 x.ls, .int .i64 x.irqs, .int .i64 x.strs, .int .i64 x.cpus] 39); have cX7 := hX7.cell; have cY7 := (Blk.new w6 39 #[.int .u64 x.rb, .int .u64 x.rs, .int .u64 x.lb, .int .u64 x.ls, .int .i64 x.irqs, .int .i64 x.strs, .int .i64 x.cpus]).cell; have hbW7 := bal' hbW6 (.cells #[.int .u64 x.rb, .int .u64 x.rs, .int .u64 x.lb, .int .u64 x.ls, .int .i64 x.irqs, .int .i64 x.strs, .int .i64 x.cpus] 39) hbW6.size; simp only [encBd]; clear hB1 hB2 cT5 hX5 hbW5 hb6))
  · go_ret
    exact ⟨rfl, hbW3⟩
  · go_ret
    exact ⟨by first | rfl | simp, hbW7⟩
end Go.Proofs.Ytnkpaockginooaa
