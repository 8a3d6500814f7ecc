/- The board of a tree (host.Board); walked. -/
import Derived.Test.YtnkpaockginooaaHostH
namespace Go.Proofs.Ytnkpaockginooaa
set_option linter.unusedVariables false
set_option linter.unusedSimpArgs false
open Go.RowKit Go.Sort

theorem TrOk.form3 : ∀ {w : World} {B n : Nat} {t : Tr} {cs : List Value}, TrOk w B n t cs → ∃ (A1 A2 : Option Addr) (c1 c2 : Nat) (g : Nat → List Value) (m : Nat), cs = [.string t.nm, .slice A1 t.ps.length c1, .slice A2 t.ks.length c2] ∧ RowsAt w B 3 A2 t.ks.length g ∧ (∀ i k, t.ks[i]? = some k → TrOk w B m k (g i))
  | _, _, 0, _, _, h => h.elim
  | _, _, n + 1, t, _, ⟨_, A1, c1, A2, c2, f, g, e, _, _, _, _, _, h7, _, h9⟩ => ⟨A1, A2, c1, c2, g, n, e, h7, h9⟩
theorem noB {t : Tr} (h : t.ks.length ≠ 3) : BRes t zeroB 282 := .inr ⟨rfl, rfl, fun b hb => by
  obtain ⟨k0, k1, k2, e⟩ := isB_kids hb
  rw [e] at h
  exact h rfl⟩
set_option maxRecDepth 100000 in
set_option maxHeartbeats 2000000 in
theorem board_few (k : Nat) (t : Tr) (tcs : List Value) (w : World) (ht : TrOk w w.heap.size k t tcs) (hk : t.ks.length ≠ 3) :
    Calls Try.prog 22 #[.agg tcs.toArray] w fun e w' => e = .returned (.tuple #[.agg (encBd zeroB).toArray, .int .i64 282]) ∧ Below w.heap.size w w' := by
  obtain ⟨A1, A2, c1, c2, g, m, rfl, h7, h9⟩ := ht.form3
  have z2 : ((t.ks.length : Int) != 3) = true := by simpa using (show ¬ (t.ks.length : Int) = 3 by omega)
  have hl := ht.lens
  unfold maxLen at hl
  generalize t.ks.length = nk at *
  generalize t.ps.length = np at *
  generalize t.nm = nm at *
  have hR := Blk.fresh (w.alloc (.cells #[.string nm, .slice A1 np c1, .slice A2 nk c2] 25)) 39 #[.int .u64 0, .int .u64 0, .int .u64 0, .int .u64 0, .int .i64 0, .int .i64 0, .int .i64 0] (g := w.heap.size + 1)
  have hb := bal (bal (Below.refl w.heap.size w) (.cells #[.string nm, .slice A1 np c1, .slice A2 nk c2] 25)) (.cells #[.int .u64 0, .int .u64 0, .int .u64 0, .int .u64 0, .int .i64 0, .int .i64 0, .int .i64 0] 39)
  have hT := (Blk.new w 25 #[.string nm, .slice A1 np c1, .slice A2 nk c2]).alloc (.cells #[.int .u64 0, .int .u64 0, .int .u64 0, .int .u64 0, .int .i64 0, .int .i64 0, .int .i64 0] 39)
  clear h7 h9
  go_enter Try.func22, Try.ntmps22
  go_upto_region 1 with (fail)
  generalize (w.alloc (.cells #[.string nm, .slice A1 np c1, .slice A2 nk c2] 25)).alloc (.cells #[.int .u64 0, .int .u64 0, .int .u64 0, .int .u64 0, .int .i64 0, .int .i64 0, .int .i64 0] 39) = w1 at *
  have cT := hT.cell
  have cR := hR.cell
  have fR := hR.frozen
  have cZ := ((((((((hR.set_ 0 (.int .u64 0)).set_ 1 (.int .u64 0)).set_ 2 (.int .u64 0)).set_ 3 (.int .u64 0)).set_ 4 (.int .i64 0)).set_ 5 (.int .i64 0)).set_ 6 (.int .i64 0))).cell
  have hbz := (((((((hb.setCell (p := ⟨w.heap.size + 1, 0, none⟩) (by simp) (.int .u64 0)).setCell (p := ⟨w.heap.size + 1, 1, none⟩) (by simp) (.int .u64 0)).setCell (p := ⟨w.heap.size + 1, 2, none⟩) (by simp) (.int .u64 0)).setCell (p := ⟨w.heap.size + 1, 3, none⟩) (by simp) (.int .u64 0)).setCell (p := ⟨w.heap.size + 1, 4, none⟩) (by simp) (.int .i64 0)).setCell (p := ⟨w.heap.size + 1, 5, none⟩) (by simp) (.int .i64 0)).setCell (p := ⟨w.heap.size + 1, 6, none⟩) (by simp) (.int .i64 0))
  go_wp2_with fail
  exact bodyPost_ret (v := .tuple #[.agg (encBd zeroB).toArray, .int .i64 282]) (by simp [results, Try.results22, go_sem, cZ, encBd, zeroB]) rfl ⟨rfl, hbz⟩
theorem isB_read {t k0 k1 k2 : Tr} {b : Bd} (h : IsB t b) (hk : t.ks = [k0, k1, k2]) : preadB t k0 k1 k2 = b ∧ preadBad t k1 k2 = false := by
  obtain ⟨h1, h2, rfl⟩ := h
  exact read_host b h1 h2 k0 k1 k2 hk
set_option maxRecDepth 100000 in
set_option maxHeartbeats 4000000 in
theorem board_three (k : Nat) (t k0 k1 k2 : Tr) (tcs : List Value) (w : World) (ht : TrOk w w.heap.size k t tcs) (hks : t.ks = [k0, k1, k2]) :
    Calls Try.prog 22 #[.agg tcs.toArray] w fun e w' => ∃ x r, e = .returned (.tuple #[.agg (encBd x).toArray, .int .i64 r]) ∧ BRes t x r ∧ Below w.heap.size w w' := by
  obtain ⟨A1, A2, c1, c2, g, m, rfl, h7, h9⟩ := ht.form3
  have hl := ht.lens
  unfold maxLen at hl
  have hk0 := h9 0 k0 (by rw [hks]; rfl)
  have hk1 := h9 1 k1 (by rw [hks]; rfl)
  have hk2 := h9 2 k2 (by rw [hks]; rfl)
  have hok := preadB_ok ht hk0 hk1 hk2
  have hkl := hk0.lens.2
  unfold maxLen at hkl
  obtain ⟨A3, A4, c3, c4, _, _, hg0, _, _⟩ := hk0.form3
  obtain ⟨A5, A6, c5, c6, _, _, hg1, _, _⟩ := hk1.form3
  obtain ⟨A7, A8, c7, c8, _, _, hg2, _, _⟩ := hk2.form3
  have hn3 : t.ks.length = 3 := by rw [hks]; rfl
  obtain ⟨b2, o2, rfl, hb2, hc2⟩ := h7 (by rw [hn3]; decide)
  rw [hn3] at ht hc2 ⊢
  have HC0 := Lib.hid (fun W (hW : Below w.heap.size w W) (j : Nat) (hj : j < 3) => (hW.cell (p := ⟨b2, o2 + (0 * 3 + j), none⟩) hb2).trans (hc2 0 (by decide) j hj))
  have HC1 := Lib.hid (fun W (hW : Below w.heap.size w W) (j : Nat) (hj : j < 3) => (hW.cell (p := ⟨b2, o2 + (1 * 3 + j), none⟩) hb2).trans (hc2 1 (by decide) j hj))
  have HC2 := Lib.hid (fun W (hW : Below w.heap.size w W) (j : Nat) (hj : j < 3) => (hW.cell (p := ⟨b2, o2 + (2 * 3 + j), none⟩) hb2).trans (hc2 2 (by decide) j hj))
  rw [hg0] at HC0
  rw [hg1] at HC1 hk1
  rw [hg2] at HC2 hk2
  have HT := Lib.hid (fun W (hW : Below w.heap.size w W) => (ht.below hW).more hW.size)
  have HK1 := Lib.hid (fun W (hW : Below w.heap.size w W) => (hk1.below hW).more hW.size)
  have HK2 := Lib.hid (fun W (hW : Below w.heap.size w W) => (hk2.below hW).more hW.size)
  have HOk := Lib.hid hok
  have HKs := Lib.hid hks
  have HTr := Lib.hid (fun b (hb : BdOk b) (hf : fitB b = true) => htree_yes b hb hf)
  clear ht hk0 hk1 hk2 h7 h9 hc2 hg0 hg1 hg2 hok hks hn3
  generalize hnp : t.ps.length = np at *
  generalize hnm : t.nm = nm at *
  obtain ⟨n0, hn0⟩ : ∃ n, k0.ks.length = n := ⟨_, rfl⟩
  rw [hn0] at HC0 hkl
  generalize k0.ps.length = n1 at *
  generalize k0.nm = m0 at *
  generalize k1.nm = m1 at *
  generalize k1.ps.length = n2 at *
  generalize k1.ks.length = n3 at *
  generalize k2.nm = m2 at *
  generalize k2.ps.length = n4 at *
  generalize k2.ks.length = n5 at *
  obtain ⟨q0, hq0⟩ : ∃ o, pnum nIrqs t.ps = o := ⟨_, rfl⟩
  obtain ⟨q1, hq1⟩ : ∃ o, pnum nStrs t.ps = o := ⟨_, rfl⟩
  obtain ⟨q2, hq2⟩ : ∃ o, pspan k1 = o := ⟨_, rfl⟩
  obtain ⟨q3, hq3⟩ : ∃ o, pspan k2 = o := ⟨_, rfl⟩
  have hR := Blk.fresh (w.alloc (.cells #[.string nm, .slice A1 np c1, .slice (some ⟨b2, o2, none⟩) 3 c2] 25)) 39 #[.int .u64 0, .int .u64 0, .int .u64 0, .int .u64 0, .int .i64 0, .int .i64 0, .int .i64 0] (g := w.heap.size + 1)
  have hb := bal (bal (Below.refl w.heap.size w) (.cells #[.string nm, .slice A1 np c1, .slice (some ⟨b2, o2, none⟩) 3 c2] 25)) (.cells #[.int .u64 0, .int .u64 0, .int .u64 0, .int .u64 0, .int .i64 0, .int .i64 0, .int .i64 0] 39)
  have hT := (Blk.new w 25 #[.string nm, .slice A1 np c1, .slice (some ⟨b2, o2, none⟩) 3 c2]).alloc (.cells #[.int .u64 0, .int .u64 0, .int .u64 0, .int .u64 0, .int .i64 0, .int .i64 0, .int .i64 0] 39)
  have hz1 : ((w.alloc (.cells #[.string nm, .slice A1 np c1, .slice (some ⟨b2, o2, none⟩) 3 c2] 25)).alloc (.cells #[.int .u64 0, .int .u64 0, .int .u64 0, .int .u64 0, .int .i64 0, .int .i64 0, .int .i64 0] 39)).heap.size = w.heap.size + 2 := by simp
  go_enter Try.func22, Try.ntmps22
  go_upto_region 1 with (fail)
  generalize (w.alloc (.cells #[.string nm, .slice A1 np c1, .slice (some ⟨b2, o2, none⟩) 3 c2] 25)).alloc (.cells #[.int .u64 0, .int .u64 0, .int .u64 0, .int .u64 0, .int .i64 0, .int .i64 0, .int .i64 0] 39) = w1 at *
  have cT := hT.cell
  have hG2 := Blk.fresh w1 94 (cells8 zeroB false) (g := w.heap.size + 2) hz1.symm
  have hT2 := hT.alloc (.cells (cells8 zeroB false) 94)
  have hR2 := hR.alloc (.cells (cells8 zeroB false) 94)
  have hbW2 := bal' hb (.cells (cells8 zeroB false) 94) hb.size
  go_upto_region 4 with (fail)
  rw [show (#[.int .u64 0, .int .u64 0, .int .u64 0, .int .u64 0, .int .i64 0, .int .i64 0, .int .i64 0, .bool false] : Array Value) = cells8 zeroB false from rfl]
  clear cT hb hT hR
  generalize w1.alloc (.cells (cells8 zeroB false) 94) = w2 at *
  have cT := hT2.cell
  go_upto_region 5 with (go_at_call 46; refine (hnumber_any (w.heap.size + 2) (cells8 zeroB false) rfl _ t _ nIrqs _ hG2 (HT.out _ hbW2)).mono ?_; rw [hq0]; rintro e w3 ⟨rfl, hG3x, hnr⟩; rw [cells8_bad] at hG3x; have hbW3x := hbW2.trans (hnr.below (B := w.heap.size) (fun i hi => by omega) hbW2.size); have hT3x := hT2.same (hnr.far hT2.lt (by omega)); have hR3x := hR2.same (hnr.far hR2.lt (by omega)); have cG := hG3x.cell; have fG := hG3x.frozen; simp only [cells8] at cG; clear hnr)
  clear hG2 hT2 hR2 hbW2 cG fG cT
  have hG3 : Blk ((w3).setCell ⟨w.heap.size + 2, 4, none⟩ (.int .i64 (q0.getD 0))) (w.heap.size + 2) 94 (cells8 ⟨0, 0, 0, 0, q0.getD 0, 0, 0⟩ (false || !q0.isSome)) := (hG3x).set_ 4 (.int .i64 (q0.getD 0))
  have hT3 := (hT3x).far (p := ⟨w.heap.size + 2, 4, none⟩) (by simp) (.int .i64 (q0.getD 0))
  have hR3 := (hR3x).far (p := ⟨w.heap.size + 2, 4, none⟩) (by simp) (.int .i64 (q0.getD 0))
  have hbW3 := (hbW3x).setCell (p := ⟨w.heap.size + 2, 4, none⟩) (by simp) (.int .i64 (q0.getD 0))
  clear hG3x hT3x hR3x hbW3x
  generalize (w3).setCell ⟨w.heap.size + 2, 4, none⟩ (.int .i64 (q0.getD 0)) = v3 at *
  have cT := hT3.cell
  go_upto_region 6 with (go_at_call 46; refine (hnumber_any (w.heap.size + 2) (cells8 ⟨0, 0, 0, 0, q0.getD 0, 0, 0⟩ (false || !q0.isSome)) rfl _ t _ nStrs _ hG3 (HT.out _ hbW3)).mono ?_; rw [hq1]; rintro e w4 ⟨rfl, hG4x, hnr⟩; rw [cells8_bad] at hG4x; have hbW4x := hbW3.trans (hnr.below (B := w.heap.size) (fun i hi => by omega) hbW3.size); have hT4x := hT3.same (hnr.far hT3.lt (by omega)); have hR4x := hR3.same (hnr.far hR3.lt (by omega)); have cG := hG4x.cell; have fG := hG4x.frozen; simp only [cells8] at cG; clear hnr)
  clear hG3 hT3 hR3 hbW3 cG fG cT
  have hG4 : Blk ((w4).setCell ⟨w.heap.size + 2, 5, none⟩ (.int .i64 (q1.getD 0))) (w.heap.size + 2) 94 (cells8 ⟨0, 0, 0, 0, q0.getD 0, q1.getD 0, 0⟩ ((false || !q0.isSome) || !q1.isSome)) := (hG4x).set_ 5 (.int .i64 (q1.getD 0))
  have hT4 := (hT4x).far (p := ⟨w.heap.size + 2, 5, none⟩) (by simp) (.int .i64 (q1.getD 0))
  have hR4 := (hR4x).far (p := ⟨w.heap.size + 2, 5, none⟩) (by simp) (.int .i64 (q1.getD 0))
  have hbW4 := (hbW4x).setCell (p := ⟨w.heap.size + 2, 5, none⟩) (by simp) (.int .i64 (q1.getD 0))
  clear hG4x hT4x hR4x hbW4x
  generalize (w4).setCell ⟨w.heap.size + 2, 5, none⟩ (.int .i64 (q1.getD 0)) = v4 at *
  have cT := hT4.cell
  have cG := hG4.cell
  have fG := hG4.frozen
  simp only [cells8] at cG
  have x2 := HC0.out _ hbW4 2 (by decide)
  simp only [Nat.reduceMul, Nat.reduceAdd, Nat.add_zero, List.getElem?_cons_zero, List.getElem?_cons_succ] at x2
  go_upto_region 7 with (fail)
  clear cT cG fG x2
  have hG5 : Blk ((v4).setCell ⟨w.heap.size + 2, 6, none⟩ (.int .i64 n0)) (w.heap.size + 2) 94 (cells8 ⟨0, 0, 0, 0, q0.getD 0, q1.getD 0, n0⟩ ((false || !q0.isSome) || !q1.isSome)) := (hG4).set_ 6 (.int .i64 n0)
  have hT5 := (hT4).far (p := ⟨w.heap.size + 2, 6, none⟩) (by simp) (.int .i64 n0)
  have hR5 := (hR4).far (p := ⟨w.heap.size + 2, 6, none⟩) (by simp) (.int .i64 n0)
  have hbW5 := (hbW4).setCell (p := ⟨w.heap.size + 2, 6, none⟩) (by simp) (.int .i64 n0)
  clear hG4 hT4 hR4 hbW4
  generalize (v4).setCell ⟨w.heap.size + 2, 6, none⟩ (.int .i64 n0) = v5 at *
  have cT := hT5.cell
  have x0 := HC1.out _ hbW5 0 (by decide)
  have x1 := HC1.out _ hbW5 1 (by decide)
  have x2 := HC1.out _ hbW5 2 (by decide)
  simp only [Nat.reduceMul, Nat.reduceAdd, Nat.add_zero, List.getElem?_cons_zero, List.getElem?_cons_succ] at x0 x1 x2
  go_upto_region 8 with (go_at_call 47; refine (hspan_any (w.heap.size + 2) (cells8 ⟨0, 0, 0, 0, q0.getD 0, q1.getD 0, n0⟩ ((false || !q0.isSome) || !q1.isSome)) rfl _ k1 _ _ hG5 (HK1.out _ hbW5)).mono ?_; rw [hq2]; rintro e w6 ⟨rfl, hG6x, hnr⟩; rw [cells8_bad] at hG6x; have hbW6x := hbW5.trans (hnr.below (B := w.heap.size) (fun i hi => by omega) hbW5.size); have hT6x := hT5.same (hnr.far hT5.lt (by omega)); have hR6x := hR5.same (hnr.far hR5.lt (by omega)); have cG := hG6x.cell; have fG := hG6x.frozen; simp only [cells8] at cG; clear hnr)
  clear hG5 hT5 hR5 hbW5 cG fG cT
  clear x0 x1 x2
  have hG6 : Blk (((w6).setCell ⟨w.heap.size + 2, 0, none⟩ (.int .u64 (q2.getD (0, 0)).1)).setCell ⟨w.heap.size + 2, 1, none⟩ (.int .u64 (q2.getD (0, 0)).2)) (w.heap.size + 2) 94 (cells8 ⟨(q2.getD (0, 0)).1, (q2.getD (0, 0)).2, 0, 0, q0.getD 0, q1.getD 0, n0⟩ (((false || !q0.isSome) || !q1.isSome) || !q2.isSome)) := ((hG6x).set_ 0 (.int .u64 (q2.getD (0, 0)).1)).set_ 1 (.int .u64 (q2.getD (0, 0)).2)
  have hT6 := ((hT6x).far (p := ⟨w.heap.size + 2, 0, none⟩) (by simp) (.int .u64 (q2.getD (0, 0)).1)).far (p := ⟨w.heap.size + 2, 1, none⟩) (by simp) (.int .u64 (q2.getD (0, 0)).2)
  have hR6 := ((hR6x).far (p := ⟨w.heap.size + 2, 0, none⟩) (by simp) (.int .u64 (q2.getD (0, 0)).1)).far (p := ⟨w.heap.size + 2, 1, none⟩) (by simp) (.int .u64 (q2.getD (0, 0)).2)
  have hbW6 := ((hbW6x).setCell (p := ⟨w.heap.size + 2, 0, none⟩) (by simp) (.int .u64 (q2.getD (0, 0)).1)).setCell (p := ⟨w.heap.size + 2, 1, none⟩) (by simp) (.int .u64 (q2.getD (0, 0)).2)
  clear hG6x hT6x hR6x hbW6x
  generalize ((w6).setCell ⟨w.heap.size + 2, 0, none⟩ (.int .u64 (q2.getD (0, 0)).1)).setCell ⟨w.heap.size + 2, 1, none⟩ (.int .u64 (q2.getD (0, 0)).2) = v6 at *
  have cT := hT6.cell
  have x0 := HC2.out _ hbW6 0 (by decide)
  have x1 := HC2.out _ hbW6 1 (by decide)
  have x2 := HC2.out _ hbW6 2 (by decide)
  simp only [Nat.reduceMul, Nat.reduceAdd, Nat.add_zero, List.getElem?_cons_zero, List.getElem?_cons_succ] at x0 x1 x2
  go_upto_region 9 with (go_at_call 47; refine (hspan_any (w.heap.size + 2) (cells8 ⟨(q2.getD (0, 0)).1, (q2.getD (0, 0)).2, 0, 0, q0.getD 0, q1.getD 0, n0⟩ (((false || !q0.isSome) || !q1.isSome) || !q2.isSome)) rfl _ k2 _ _ hG6 (HK2.out _ hbW6)).mono ?_; rw [hq3]; rintro e w7 ⟨rfl, hG7x, hnr⟩; rw [cells8_bad] at hG7x; have hbW7x := hbW6.trans (hnr.below (B := w.heap.size) (fun i hi => by omega) hbW6.size); have hT7x := hT6.same (hnr.far hT6.lt (by omega)); have hR7x := hR6.same (hnr.far hR6.lt (by omega)); have cG := hG7x.cell; have fG := hG7x.frozen; simp only [cells8] at cG; clear hnr)
  clear hG6 hT6 hR6 hbW6 cG fG cT
  clear x0 x1 x2
  have hG7 : Blk (((w7).setCell ⟨w.heap.size + 2, 2, none⟩ (.int .u64 (q3.getD (0, 0)).1)).setCell ⟨w.heap.size + 2, 3, none⟩ (.int .u64 (q3.getD (0, 0)).2)) (w.heap.size + 2) 94 (cells8 ⟨(q2.getD (0, 0)).1, (q2.getD (0, 0)).2, (q3.getD (0, 0)).1, (q3.getD (0, 0)).2, q0.getD 0, q1.getD 0, n0⟩ ((((false || !q0.isSome) || !q1.isSome) || !q2.isSome) || !q3.isSome)) := ((hG7x).set_ 2 (.int .u64 (q3.getD (0, 0)).1)).set_ 3 (.int .u64 (q3.getD (0, 0)).2)
  have hT7 := ((hT7x).far (p := ⟨w.heap.size + 2, 2, none⟩) (by simp) (.int .u64 (q3.getD (0, 0)).1)).far (p := ⟨w.heap.size + 2, 3, none⟩) (by simp) (.int .u64 (q3.getD (0, 0)).2)
  have hR7 := ((hR7x).far (p := ⟨w.heap.size + 2, 2, none⟩) (by simp) (.int .u64 (q3.getD (0, 0)).1)).far (p := ⟨w.heap.size + 2, 3, none⟩) (by simp) (.int .u64 (q3.getD (0, 0)).2)
  have hbW7 := ((hbW7x).setCell (p := ⟨w.heap.size + 2, 2, none⟩) (by simp) (.int .u64 (q3.getD (0, 0)).1)).setCell (p := ⟨w.heap.size + 2, 3, none⟩) (by simp) (.int .u64 (q3.getD (0, 0)).2)
  clear hG7x hT7x hR7x hbW7x
  generalize ((w7).setCell ⟨w.heap.size + 2, 2, none⟩ (.int .u64 (q3.getD (0, 0)).1)).setCell ⟨w.heap.size + 2, 3, none⟩ (.int .u64 (q3.getD (0, 0)).2) = v7 at *
  obtain ⟨f0, hf0⟩ : ∃ x, (q2.getD (0, 0)).1 = x := ⟨_, rfl⟩
  obtain ⟨f1, hf1⟩ : ∃ x, (q2.getD (0, 0)).2 = x := ⟨_, rfl⟩
  obtain ⟨f2, hf2⟩ : ∃ x, (q3.getD (0, 0)).1 = x := ⟨_, rfl⟩
  obtain ⟨f3, hf3⟩ : ∃ x, (q3.getD (0, 0)).2 = x := ⟨_, rfl⟩
  obtain ⟨f4, hf4⟩ : ∃ x, q0.getD 0 = x := ⟨_, rfl⟩
  obtain ⟨f5, hf5⟩ : ∃ x, q1.getD 0 = x := ⟨_, rfl⟩
  obtain ⟨bb, hbb⟩ : ∃ b, ((((false || !q0.isSome) || !q1.isSome) || !q2.isSome) || !q3.isSome) = b := ⟨_, rfl⟩
  have hF : preadB t k0 k1 k2 = ⟨f0, f1, f2, f3, f4, f5, n0⟩ := by
    unfold preadB
    rw [hq0, hq1, hq2, hq3, hn0, hf0, hf1, hf2, hf3, hf4, hf5]
  have hBad : preadBad t k1 k2 = bb := by
    unfold preadBad
    rw [hq0, hq1, hq2, hq3, hbb]
  have hIs : ∀ b, IsB t b → b = ⟨f0, f1, f2, f3, f4, f5, n0⟩ ∧ bb = false := fun b hb => by
    obtain ⟨e1, e2⟩ := isB_read hb HKs.out
    exact ⟨e1.symm.trans hF, hBad.symm.trans e2⟩
  have hokF : BdOk ⟨f0, f1, f2, f3, f4, f5, n0⟩ := hF ▸ HOk.out
  rw [hf0, hf1, hf2, hf3, hf4, hf5, hbb] at hG7
  simp only [hf0, hf1, hf2, hf3, hf4, hf5]
  have HIs := Lib.hid hIs
  clear hF hBad hIs hbb hf0 hf1 hf2 hf3 hf4 hf5 hq0 hq1 hq2 hq3 hn0 HOk HC0 HC1 HC2 HK1 HK2 HKs
  have cG := hG7.cell
  simp only [cells8] at cG
  have hgs := hG7.lt
  rcases hfit : fitB ⟨f0, f1, f2, f3, f4, f5, n0⟩ with _ | _
  · have hno : BRes t zeroB 282 := .inr ⟨rfl, rfl, fun b hb => by
      have h1 := (HIs.out b hb).1
      have h2 := hb.2.1
      rw [h1, hfit] at h2
      cases h2⟩
    have HN := Lib.hid (fun W => htree_no ⟨f0, f1, f2, f3, f4, f5, n0⟩ hokF hfit W)
    simp only [encBd] at HN
    go_upto_region 10 with (go_at_call 29; refine (HN.out _).mono ?_; rintro e w8 ⟨rfl, hb8⟩; have hR8 := hR7.kept hb8; have hG8 := hG7.kept hb8; have hbW8 := hbW7.trans (hb8.mono hbW7.size))
    have hRe := hR8.alloc (.cells #[.string ⟨#[]⟩, .slice none 0 0, .slice none 0 0] 25)
    have hGe := hG8.alloc (.cells #[.string ⟨#[]⟩, .slice none 0 0, .slice none 0 0] 25)
    have hbe := bal' hbW8 (.cells #[.string ⟨#[]⟩, .slice none 0 0, .slice none 0 0] 25) hbW8.size
    generalize w8.alloc (.cells #[.string ⟨#[]⟩, .slice none 0 0, .slice none 0 0] 25) = w9 at *
    clear cG hR7 hG7 hbW7 hR8 hG8 hbW8 hb8
    cases bb
    all_goals
      have cG := hGe.cell
      simp only [cells8] at cG
      have cR := hRe.cell
      have fR := hRe.frozen
      have cZ := (((((((hRe.set_ 0 (.int .u64 0)).set_ 1 (.int .u64 0)).set_ 2 (.int .u64 0)).set_ 3 (.int .u64 0)).set_ 4 (.int .i64 0)).set_ 5 (.int .i64 0)).set_ 6 (.int .i64 0)).cell
      have hbz := (((((((hbe.setCell (p := ⟨w.heap.size + 1, 0, none⟩) (by simp) (.int .u64 0)).setCell (p := ⟨w.heap.size + 1, 1, none⟩) (by simp) (.int .u64 0)).setCell (p := ⟨w.heap.size + 1, 2, none⟩) (by simp) (.int .u64 0)).setCell (p := ⟨w.heap.size + 1, 3, none⟩) (by simp) (.int .u64 0)).setCell (p := ⟨w.heap.size + 1, 4, none⟩) (by simp) (.int .i64 0)).setCell (p := ⟨w.heap.size + 1, 5, none⟩) (by simp) (.int .i64 0)).setCell (p := ⟨w.heap.size + 1, 6, none⟩) (by simp) (.int .i64 0))
      go_wp2_with fail
      exact bodyPost_ret (v := .tuple #[.agg (encBd zeroB).toArray, .int .i64 282]) (by simp [results, Try.results22, go_sem, cZ, encBd, zeroB]) rfl ⟨zeroB, 282, rfl, hno, hbz⟩
  · cases bb
    case true =>
      have hno : BRes t zeroB 282 := .inr ⟨rfl, rfl, fun b hb => by
        have h1 := (HIs.out b hb).2
        cases h1⟩
      have HN := Lib.hid (fun W => HTr.out ⟨f0, f1, f2, f3, f4, f5, n0⟩ hokF hfit W)
      simp only [encBd] at HN
      go_upto_region 10 with (go_at_call 29; refine (HN.out _).mono ?_; rintro e w8 ⟨v8, rfl, htp, hb8⟩; obtain ⟨B3, d3, B4, d4, rfl, k8, htx⟩ := htp.cells; generalize hy1 : (hostT ⟨f0, f1, f2, f3, f4, f5, n0⟩).nm = y1 at htx; generalize hy2 : (hostT ⟨f0, f1, f2, f3, f4, f5, n0⟩).ps.length = y2 at htx; generalize hy3 : (hostT ⟨f0, f1, f2, f3, f4, f5, n0⟩).ks.length = y3 at htx; have hR8 := hR7.kept hb8; have hG8 := hG7.kept hb8; have hT8 := hT7.kept hb8; have hbW8 := hbW7.trans (hb8.mono hbW7.size))
      have hXe := Blk.new w8 25 #[.string y1, .slice B3 y2 d3, .slice B4 y3 d4]
      have htx := htx.kept (bal (Below.refl _ _) (.cells #[.string y1, .slice B3 y2 d3, .slice B4 y3 d4] 25))
      have hRe := hR8.alloc (.cells #[.string y1, .slice B3 y2 d3, .slice B4 y3 d4] 25)
      have hGe := hG8.alloc (.cells #[.string y1, .slice B3 y2 d3, .slice B4 y3 d4] 25)
      have hTe := hT8.alloc (.cells #[.string y1, .slice B3 y2 d3, .slice B4 y3 d4] 25)
      have hbe := bal' hbW8 (.cells #[.string y1, .slice B3 y2 d3, .slice B4 y3 d4] 25) hbW8.size
      generalize w8.alloc (.cells #[.string y1, .slice B3 y2 d3, .slice B4 y3 d4] 25) = w9 at *
      clear cG hR7 hG7 hT7 hbW7 hR8 hG8 hT8 hbW8 hb8
      have cG := hGe.cell
      simp only [cells8] at cG
      have cR := hRe.cell
      have fR := hRe.frozen
      have cZ := (((((((hRe.set_ 0 (.int .u64 0)).set_ 1 (.int .u64 0)).set_ 2 (.int .u64 0)).set_ 3 (.int .u64 0)).set_ 4 (.int .i64 0)).set_ 5 (.int .i64 0)).set_ 6 (.int .i64 0)).cell
      have hbz := (((((((hbe.setCell (p := ⟨w.heap.size + 1, 0, none⟩) (by simp) (.int .u64 0)).setCell (p := ⟨w.heap.size + 1, 1, none⟩) (by simp) (.int .u64 0)).setCell (p := ⟨w.heap.size + 1, 2, none⟩) (by simp) (.int .u64 0)).setCell (p := ⟨w.heap.size + 1, 3, none⟩) (by simp) (.int .u64 0)).setCell (p := ⟨w.heap.size + 1, 4, none⟩) (by simp) (.int .i64 0)).setCell (p := ⟨w.heap.size + 1, 5, none⟩) (by simp) (.int .i64 0)).setCell (p := ⟨w.heap.size + 1, 6, none⟩) (by simp) (.int .i64 0))
      go_wp2_with fail
      exact bodyPost_ret (v := .tuple #[.agg (encBd zeroB).toArray, .int .i64 282]) (by simp [results, Try.results22, go_sem, cZ, encBd, zeroB]) rfl ⟨zeroB, 282, rfl, hno, hbz⟩
    case false =>
      have HN := Lib.hid (fun W => HTr.out ⟨f0, f1, f2, f3, f4, f5, n0⟩ hokF hfit W)
      simp only [encBd] at HN
      go_upto_region 10 with (go_at_call 29; refine (HN.out _).mono ?_; rintro e w8 ⟨v8, rfl, htp, hb8⟩; obtain ⟨B3, d3, B4, d4, rfl, k8, htx⟩ := htp.cells; generalize hy1 : (hostT ⟨f0, f1, f2, f3, f4, f5, n0⟩).nm = y1 at htx; generalize hy2 : (hostT ⟨f0, f1, f2, f3, f4, f5, n0⟩).ps.length = y2 at htx; generalize hy3 : (hostT ⟨f0, f1, f2, f3, f4, f5, n0⟩).ks.length = y3 at htx; have hR8 := hR7.kept hb8; have hG8 := hG7.kept hb8; have hT8 := hT7.kept hb8; have hbW8 := hbW7.trans (hb8.mono hbW7.size))
      have hXe := Blk.new w8 25 #[.string y1, .slice B3 y2 d3, .slice B4 y3 d4]
      have htx := htx.kept (bal (Below.refl _ _) (.cells #[.string y1, .slice B3 y2 d3, .slice B4 y3 d4] 25))
      have hRe := hR8.alloc (.cells #[.string y1, .slice B3 y2 d3, .slice B4 y3 d4] 25)
      have hGe := hG8.alloc (.cells #[.string y1, .slice B3 y2 d3, .slice B4 y3 d4] 25)
      have hTe := hT8.alloc (.cells #[.string y1, .slice B3 y2 d3, .slice B4 y3 d4] 25)
      have hbe := bal' hbW8 (.cells #[.string y1, .slice B3 y2 d3, .slice B4 y3 d4] 25) hbW8.size
      generalize w8.alloc (.cells #[.string y1, .slice B3 y2 d3, .slice B4 y3 d4] 25) = w9 at *
      clear cG hR7 hG7 hT7 hbW7 hR8 hG8 hT8 hbW8 hb8
      have cT := hTe.cell
      have cX := hXe.cell
      have HS := Lib.hid (fun W (hW : Below w9.heap.size w9 W) => same_any _ _ (hostT ⟨f0, f1, f2, f3, f4, f5, n0⟩) t _ _ W (htx.ok.kept hW) ((HT.out _ (hbe.trans (hW.mono hbe.size)))))
      rcases heq : eqv (hostT ⟨f0, f1, f2, f3, f4, f5, n0⟩) t with _ | _
      · rw [heq] at HS
        have hno : BRes t zeroB 282 := .inr ⟨rfl, rfl, fun b hb => by
          have h1 := (HIs.out b hb).1
          have h2 := hb.2.2
          rw [h1] at h2
          rw [eqv_t h2] at heq
          cases heq⟩
        have cG := hGe.cell
        simp only [cells8] at cG
        go_upto_region 11 with (go_at_call 19; refine (HS.out _ (Below.refl _ _)).mono ?_; rintro e w10 ⟨rfl, hb10⟩)
        have hRe := hRe.kept hb10
        have hbe := hbe.trans (hb10.mono hbe.size)
        have cR := hRe.cell
        have fR := hRe.frozen
        have cZ := (((((((hRe.set_ 0 (.int .u64 0)).set_ 1 (.int .u64 0)).set_ 2 (.int .u64 0)).set_ 3 (.int .u64 0)).set_ 4 (.int .i64 0)).set_ 5 (.int .i64 0)).set_ 6 (.int .i64 0)).cell
        have hbz := (((((((hbe.setCell (p := ⟨w.heap.size + 1, 0, none⟩) (by simp) (.int .u64 0)).setCell (p := ⟨w.heap.size + 1, 1, none⟩) (by simp) (.int .u64 0)).setCell (p := ⟨w.heap.size + 1, 2, none⟩) (by simp) (.int .u64 0)).setCell (p := ⟨w.heap.size + 1, 3, none⟩) (by simp) (.int .u64 0)).setCell (p := ⟨w.heap.size + 1, 4, none⟩) (by simp) (.int .i64 0)).setCell (p := ⟨w.heap.size + 1, 5, none⟩) (by simp) (.int .i64 0)).setCell (p := ⟨w.heap.size + 1, 6, none⟩) (by simp) (.int .i64 0))
        go_wp2_with fail
        exact bodyPost_ret (v := .tuple #[.agg (encBd zeroB).toArray, .int .i64 282]) (by simp [results, Try.results22, go_sem, cZ, encBd, zeroB]) rfl ⟨zeroB, 282, rfl, hno, hbz⟩
      · rw [heq] at HS
        have hyes : BRes t ⟨f0, f1, f2, f3, f4, f5, n0⟩ 0 := .inl ⟨rfl, hokF, hfit, by
          apply Classical.byContradiction
          intro hne
          rw [eqv_f hne] at heq
          cases heq⟩
        have cG := hGe.cell
        simp only [cells8] at cG
        go_upto_region 12 with (go_at_call 19; refine (HS.out _ (Below.refl _ _)).mono ?_; rintro e w10 ⟨rfl, hb10⟩)
        have hRe := hRe.kept hb10
        have hGe := hGe.kept hb10
        have hbe := hbe.trans (hb10.mono hbe.size)
        clear cG
        have cG := hGe.cell
        simp only [cells8] at cG
        have cR := hRe.cell
        have fR := hRe.frozen
        have cZ := (((((((hRe.set_ 0 (.int .u64 f0)).set_ 1 (.int .u64 f1)).set_ 2 (.int .u64 f2)).set_ 3 (.int .u64 f3)).set_ 4 (.int .i64 f4)).set_ 5 (.int .i64 f5)).set_ 6 (.int .i64 n0)).cell
        have hbz := (((((((hbe.setCell (p := ⟨w.heap.size + 1, 0, none⟩) (by simp) (.int .u64 f0)).setCell (p := ⟨w.heap.size + 1, 1, none⟩) (by simp) (.int .u64 f1)).setCell (p := ⟨w.heap.size + 1, 2, none⟩) (by simp) (.int .u64 f2)).setCell (p := ⟨w.heap.size + 1, 3, none⟩) (by simp) (.int .u64 f3)).setCell (p := ⟨w.heap.size + 1, 4, none⟩) (by simp) (.int .i64 f4)).setCell (p := ⟨w.heap.size + 1, 5, none⟩) (by simp) (.int .i64 f5)).setCell (p := ⟨w.heap.size + 1, 6, none⟩) (by simp) (.int .i64 n0))
        go_wp2_with fail
        exact bodyPost_ret (v := .tuple #[.agg (encBd ⟨f0, f1, f2, f3, f4, f5, n0⟩).toArray, .int .i64 0]) (by simp [results, Try.results22, go_sem, cZ, encBd]) rfl ⟨⟨f0, f1, f2, f3, f4, f5, n0⟩, 0, rfl, hyes, hbz⟩
end Go.Proofs.Ytnkpaockginooaa
