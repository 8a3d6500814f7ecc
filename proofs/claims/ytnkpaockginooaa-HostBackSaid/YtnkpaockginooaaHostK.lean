/- The document's board of a tree (portreeveref29.BoardOf); walked. -/
import Derived.Test.YtnkpaockginooaaHostJ
import Derived.Test.YtnkpaockginooaaTreeH
namespace Go.Proofs.Ytnkpaockginooaa
set_option linter.unusedVariables false
set_option linter.unusedSimpArgs false
open Go.RowKit Go.Sort

set_option maxRecDepth 100000 in
set_option maxHeartbeats 4000000 in
theorem rboard_three (k : Nat) (t k0 k1 k2 : Tr) (tcs : List Value) (w : World) (ht : TrOk w w.heap.size k t tcs) (hks : t.ks = [k0, k1, k2]) (hk32 : k0.ks.length ≤ 32) :
    Calls Try.prog 23 #[.agg tcs.toArray] w fun e w' => ∃ x r, e = .returned (.tuple #[.agg (encBd x).toArray, .int .i64 r]) ∧ BRes t x r ∧ Below w.heap.size w w' := by
  obtain ⟨A1, A2, c1, c2, g, m, rfl, h7, h9⟩ := ht.form3
  have hl := ht.lens
  unfold maxLen at hl
  have hk0 := h9 0 k0 (by rw [hks]; rfl)
  have hk1 := h9 1 k1 (by rw [hks]; rfl)
  have hk2 := h9 2 k2 (by rw [hks]; rfl)
  have hok := rreadB_ok ht hk0 hk1 hk2
  obtain ⟨A3, A4, c3, c4, _, _, hg0, _, _⟩ := hk0.form3
  obtain ⟨A5, A6, c5, c6, _, _, hg1, _, _⟩ := hk1.form3
  obtain ⟨A7, A8, c7, c8, _, _, hg2, _, _⟩ := hk2.form3
  have hn3 : t.ks.length = 3 := by rw [hks]; rfl
  obtain ⟨b2, o2, rfl, hb2, hc2⟩ := h7 (by rw [hn3]; decide)
  rw [hn3] at ht hc2 ⊢
  have HC0 := Lib.hid (fun W (hW : Below w.heap.size w W) (j : Nat) (hj : j < 3) => (hW.cell (p := ⟨b2, o2 + (0 * 3 + j), none⟩) hb2).trans (hc2 0 (by decide) j hj))
  have HC1 := Lib.hid (fun W (hW : Below w.heap.size w W) (j : Nat) (hj : j < 3) => (hW.cell (p := ⟨b2, o2 + (1 * 3 + j), none⟩) hb2).trans (hc2 1 (by decide) j hj))
  have HC2 := Lib.hid (fun W (hW : Below w.heap.size w W) (j : Nat) (hj : j < 3) => (hW.cell (p := ⟨b2, o2 + (2 * 3 + j), none⟩) hb2).trans (hc2 2 (by decide) j hj))
  rw [hg0] at HC0
  rw [hg1] at HC1 hk1
  rw [hg2] at HC2 hk2
  have HT := Lib.hid (fun W (hW : Below w.heap.size w W) => (ht.below hW).more hW.size)
  have HK1 := Lib.hid (fun W (hW : Below w.heap.size w W) => (hk1.below hW).more hW.size)
  have HK2 := Lib.hid (fun W (hW : Below w.heap.size w W) => (hk2.below hW).more hW.size)
  have HOk := Lib.hid hok
  have HBy := Lib.hid ht.bytes
  have HKs := Lib.hid hks
  have HTr := Lib.hid (fun b (hb : BdOk b) (hf : fitB b = true) => rhost_yes b hb hf)
  clear ht hk0 hk1 hk2 h7 h9 hc2 hg0 hg1 hg2 hok hks hn3
  generalize hnp : t.ps.length = np at *
  generalize hnm : t.nm = nm at *
  obtain ⟨n0, hn0⟩ : ∃ n, k0.ks.length = n := ⟨_, rfl⟩
  rw [hn0] at HC0 hk32
  generalize k0.ps.length = n1 at *
  generalize k0.nm = m0 at *
  generalize k1.nm = m1 at *
  generalize k1.ps.length = n2 at *
  generalize k1.ks.length = n3 at *
  generalize k2.nm = m2 at *
  generalize k2.ps.length = n4 at *
  generalize k2.ks.length = n5 at *
  obtain ⟨p1, hp1⟩ : ∃ x, vval t.ps 1 0 4 = x := ⟨_, rfl⟩
  obtain ⟨p2, hp2⟩ : ∃ x, vval t.ps 2 0 4 = x := ⟨_, rfl⟩
  obtain ⟨r0, hr0⟩ : ∃ x, vval k1.ps 0 0 8 = x := ⟨_, rfl⟩
  obtain ⟨r1, hr1⟩ : ∃ x, vval k1.ps 0 8 8 = x := ⟨_, rfl⟩
  obtain ⟨s0, hs0⟩ : ∃ x, vval k2.ps 0 0 8 = x := ⟨_, rfl⟩
  obtain ⟨s1, hs1⟩ : ∃ x, vval k2.ps 0 8 8 = x := ⟨_, rfl⟩
  have hF : rreadB t k0 k1 k2 = ⟨r0, r1, s0, s1, p1, p2, n0⟩ := by
    unfold rreadB
    rw [hp1, hp2, hr0, hr1, hs0, hs1, hn0]
  have hokF : BdOk ⟨r0, r1, s0, s1, p1, p2, n0⟩ := hF ▸ HOk.out
  have hpb1 := Lib.hid (vval_bd t.ps 1 0 4 HBy.out)
  have hpb2 := Lib.hid (vval_bd t.ps 2 0 4 HBy.out)
  rw [hp1] at hpb1
  rw [hp2] at hpb2
  have hp1b : 0 ≤ p1 ∧ p1 < 4294967296 := ⟨hpb1.out.1, by have := hpb1.out.2; simpa using this⟩
  have hp2b : 0 ≤ p2 ∧ p2 < 4294967296 := ⟨hpb2.out.1, by have := hpb2.out.2; simpa using this⟩
  have hw1 : IntKind.i64.wrap p1 = p1 := IntWalk.i64_in _ (by omega)
  have hw2 : IntKind.i64.wrap p2 = p2 := IntWalk.i64_in _ (by omega)
  have HVp1 := Lib.hid (fun W (hW : Below w.heap.size w W) => hp1 ▸ rvalue_any 1 0 4 1 0 4 rfl rfl rfl (by decide) (by decide) (by decide) _ t _ W (HT.out W hW))
  have HVp2 := Lib.hid (fun W (hW : Below w.heap.size w W) => hp2 ▸ rvalue_any 2 0 4 2 0 4 rfl rfl rfl (by decide) (by decide) (by decide) _ t _ W (HT.out W hW))
  have HVr0 := Lib.hid (fun W (hW : Below w.heap.size w W) => hr0 ▸ rvalue_any 0 0 8 0 0 8 rfl rfl rfl (by decide) (by decide) (by decide) _ k1 _ W (HK1.out W hW))
  have HVr1 := Lib.hid (fun W (hW : Below w.heap.size w W) => hr1 ▸ rvalue_any 0 8 8 0 8 8 rfl rfl rfl (by decide) (by decide) (by decide) _ k1 _ W (HK1.out W hW))
  have HVs0 := Lib.hid (fun W (hW : Below w.heap.size w W) => hs0 ▸ rvalue_any 0 0 8 0 0 8 rfl rfl rfl (by decide) (by decide) (by decide) _ k2 _ W (HK2.out W hW))
  have HVs1 := Lib.hid (fun W (hW : Below w.heap.size w W) => hs1 ▸ rvalue_any 0 8 8 0 8 8 rfl rfl rfl (by decide) (by decide) (by decide) _ k2 _ W (HK2.out W hW))
  have hIs : ∀ b, IsB t b → b = ⟨r0, r1, s0, s1, p1, p2, n0⟩ := fun b hb => by
    obtain ⟨e1, e2, rfl⟩ := hb
    exact (rread_host b e1 e2 k0 k1 k2 HKs.out).1.symm.trans hF
  have HIs := Lib.hid hIs
  clear hp1 hp2 hr0 hr1 hs0 hs1 hF hIs hpb1 hpb2 HOk hn0 HKs
  have hR := Blk.fresh (w.alloc (.cells #[.string nm, .slice A1 np c1, .slice (some ⟨b2, o2, none⟩) 3 c2] 25)) 39 #[.int .u64 0, .int .u64 0, .int .u64 0, .int .u64 0, .int .i64 0, .int .i64 0, .int .i64 0] (g := w.heap.size + 1)
  have hb := bal (bal (Below.refl w.heap.size w) (.cells #[.string nm, .slice A1 np c1, .slice (some ⟨b2, o2, none⟩) 3 c2] 25)) (.cells #[.int .u64 0, .int .u64 0, .int .u64 0, .int .u64 0, .int .i64 0, .int .i64 0, .int .i64 0] 39)
  have hT := (Blk.new w 25 #[.string nm, .slice A1 np c1, .slice (some ⟨b2, o2, none⟩) 3 c2]).alloc (.cells #[.int .u64 0, .int .u64 0, .int .u64 0, .int .u64 0, .int .i64 0, .int .i64 0, .int .i64 0] 39)
  have hz1 : ((w.alloc (.cells #[.string nm, .slice A1 np c1, .slice (some ⟨b2, o2, none⟩) 3 c2] 25)).alloc (.cells #[.int .u64 0, .int .u64 0, .int .u64 0, .int .u64 0, .int .i64 0, .int .i64 0, .int .i64 0] 39)).heap.size = w.heap.size + 2 := by simp
  go_enter Try.func23, Try.ntmps23
  go_upto_region 1 with (fail)
  generalize (w.alloc (.cells #[.string nm, .slice A1 np c1, .slice (some ⟨b2, o2, none⟩) 3 c2] 25)).alloc (.cells #[.int .u64 0, .int .u64 0, .int .u64 0, .int .u64 0, .int .i64 0, .int .i64 0, .int .i64 0] 39) = w1 at *
  have cT := hT.cell
  have x02 := HC0.out _ hb 2 (by decide)
  have x10 := HC1.out _ hb 0 (by decide)
  have x11 := HC1.out _ hb 1 (by decide)
  have x12 := HC1.out _ hb 2 (by decide)
  have x20 := HC2.out _ hb 0 (by decide)
  have x21 := HC2.out _ hb 1 (by decide)
  have x22 := HC2.out _ hb 2 (by decide)
  simp only [Nat.reduceMul, Nat.reduceAdd, Nat.add_zero, List.getElem?_cons_zero, List.getElem?_cons_succ] at x02 x10 x11 x12 x20 x21 x22
  go_upto_region 3 with (fail)
  have hS0 : (fun W : World => Below w1.heap.size w1 W) w1.drew := (Below.refl _ _).drew
  refine wp_region_held_drew (S := fun W : World => Below w1.heap.size w1 W) (by kernel_rfl) hS0 (fun hHeld => ?_)
  clear hHeld
  clear cT x02 x10 x11 x12 x20 x21 x22
  refine wpAnyH_take (i := 0) (v := ?v0) rfl (by kernel_rfl) (by kernel_rfl) (by kernel_rfl) (fun _ _ _ h => h) (Or.inl ⟨by kernel_rfl, ?hy0⟩) hS0 ?rest0
  case hy0 =>
    intro W hW
    have hW : Below w1.heap.size w1 W := hW
    have hbW := hb.trans (hW.mono hb.size)
    have cT := (hT.kept hW).cell
    have x10 := HC1.out _ hbW 0 (by decide)
    have x11 := HC1.out _ hbW 1 (by decide)
    have x12 := HC1.out _ hbW 2 (by decide)
    have x20 := HC2.out _ hbW 0 (by decide)
    have x21 := HC2.out _ hbW 1 (by decide)
    have x22 := HC2.out _ hbW 2 (by decide)
    simp only [Nat.reduceMul, Nat.reduceAdd, Nat.add_zero, List.getElem?_cons_zero, List.getElem?_cons_succ] at x10 x11 x12 x20 x21 x22
    go_simp
    first | done | with_reducible rfl
  simp only [List.getElem_toArray, List.getElem_cons_succ, List.getElem_cons_zero, Act.put, List.setIfInBounds_toArray, List.set_cons_zero, List.set_cons_succ]
  refine wpAnyH_take (i := 1) (v := ?v1) rfl (by kernel_rfl) (by kernel_rfl) (by kernel_rfl) (fun _ _ _ h => h) (Or.inl ⟨by kernel_rfl, ?hy1⟩) hS0 ?rest1
  case hy1 =>
    intro W hW
    have hW : Below w1.heap.size w1 W := hW
    have hbW := hb.trans (hW.mono hb.size)
    have cT := (hT.kept hW).cell
    have x10 := HC1.out _ hbW 0 (by decide)
    have x11 := HC1.out _ hbW 1 (by decide)
    have x12 := HC1.out _ hbW 2 (by decide)
    have x20 := HC2.out _ hbW 0 (by decide)
    have x21 := HC2.out _ hbW 1 (by decide)
    have x22 := HC2.out _ hbW 2 (by decide)
    simp only [Nat.reduceMul, Nat.reduceAdd, Nat.add_zero, List.getElem?_cons_zero, List.getElem?_cons_succ] at x10 x11 x12 x20 x21 x22
    go_simp
    first | done | with_reducible rfl
  simp only [List.getElem_toArray, List.getElem_cons_succ, List.getElem_cons_zero, Act.put, List.setIfInBounds_toArray, List.set_cons_zero, List.set_cons_succ]
  refine wpAnyH_take (i := 2) (v := ?v2) rfl (by kernel_rfl) (by kernel_rfl) (by kernel_rfl) (fun _ _ _ h => h) (Or.inl ⟨by kernel_rfl, ?hy2⟩) hS0 ?rest2
  case hy2 =>
    intro W hW
    have hW : Below w1.heap.size w1 W := hW
    have hbW := hb.trans (hW.mono hb.size)
    have cT := (hT.kept hW).cell
    have x10 := HC1.out _ hbW 0 (by decide)
    have x11 := HC1.out _ hbW 1 (by decide)
    have x12 := HC1.out _ hbW 2 (by decide)
    have x20 := HC2.out _ hbW 0 (by decide)
    have x21 := HC2.out _ hbW 1 (by decide)
    have x22 := HC2.out _ hbW 2 (by decide)
    simp only [Nat.reduceMul, Nat.reduceAdd, Nat.add_zero, List.getElem?_cons_zero, List.getElem?_cons_succ] at x10 x11 x12 x20 x21 x22
    go_simp
    first | done | with_reducible rfl
  simp only [List.getElem_toArray, List.getElem_cons_succ, List.getElem_cons_zero, Act.put, List.setIfInBounds_toArray, List.set_cons_zero, List.set_cons_succ]
  refine wpAnyH_take (i := 3) (v := ?v3) rfl (by kernel_rfl) (by kernel_rfl) (by kernel_rfl) (fun _ _ _ h => h) (Or.inl ⟨by kernel_rfl, ?hy3⟩) hS0 ?rest3
  case hy3 =>
    intro W hW
    have hW : Below w1.heap.size w1 W := hW
    have hbW := hb.trans (hW.mono hb.size)
    have cT := (hT.kept hW).cell
    have x10 := HC1.out _ hbW 0 (by decide)
    have x11 := HC1.out _ hbW 1 (by decide)
    have x12 := HC1.out _ hbW 2 (by decide)
    have x20 := HC2.out _ hbW 0 (by decide)
    have x21 := HC2.out _ hbW 1 (by decide)
    have x22 := HC2.out _ hbW 2 (by decide)
    simp only [Nat.reduceMul, Nat.reduceAdd, Nat.add_zero, List.getElem?_cons_zero, List.getElem?_cons_succ] at x10 x11 x12 x20 x21 x22
    go_simp
    first | done | with_reducible rfl
  simp only [List.getElem_toArray, List.getElem_cons_succ, List.getElem_cons_zero, Act.put, List.setIfInBounds_toArray, List.set_cons_zero, List.set_cons_succ]
  refine wpAnyH_take (i := 4) (v := ?v4) rfl (by kernel_rfl) (by kernel_rfl) (by kernel_rfl) (fun _ _ _ h => h) (Or.inl ⟨by kernel_rfl, ?hy4⟩) hS0 ?rest4
  case hy4 =>
    intro W hW
    have hW : Below w1.heap.size w1 W := hW
    have hbW := hb.trans (hW.mono hb.size)
    have cT := (hT.kept hW).cell
    have x10 := HC1.out _ hbW 0 (by decide)
    have x11 := HC1.out _ hbW 1 (by decide)
    have x12 := HC1.out _ hbW 2 (by decide)
    have x20 := HC2.out _ hbW 0 (by decide)
    have x21 := HC2.out _ hbW 1 (by decide)
    have x22 := HC2.out _ hbW 2 (by decide)
    simp only [Nat.reduceMul, Nat.reduceAdd, Nat.add_zero, List.getElem?_cons_zero, List.getElem?_cons_succ] at x10 x11 x12 x20 x21 x22
    go_simp
    first | done | with_reducible rfl
  simp only [List.getElem_toArray, List.getElem_cons_succ, List.getElem_cons_zero, Act.put, List.setIfInBounds_toArray, List.set_cons_zero, List.set_cons_succ]
  refine wpAnyH_take (i := 5) (v := ?v5) rfl (by kernel_rfl) (by kernel_rfl) (by kernel_rfl) (fun _ _ _ h => h) (Or.inl ⟨by kernel_rfl, ?hy5⟩) hS0 ?rest5
  case hy5 =>
    intro W hW
    have hW : Below w1.heap.size w1 W := hW
    have hbW := hb.trans (hW.mono hb.size)
    have cT := (hT.kept hW).cell
    have x10 := HC1.out _ hbW 0 (by decide)
    have x11 := HC1.out _ hbW 1 (by decide)
    have x12 := HC1.out _ hbW 2 (by decide)
    have x20 := HC2.out _ hbW 0 (by decide)
    have x21 := HC2.out _ hbW 1 (by decide)
    have x22 := HC2.out _ hbW 2 (by decide)
    simp only [Nat.reduceMul, Nat.reduceAdd, Nat.add_zero, List.getElem?_cons_zero, List.getElem?_cons_succ] at x10 x11 x12 x20 x21 x22
    go_simp
    first | done | with_reducible rfl
  simp only [List.getElem_toArray, List.getElem_cons_succ, List.getElem_cons_zero, Act.put, List.setIfInBounds_toArray, List.set_cons_zero, List.set_cons_succ]
  refine wpAnyH_take (i := 6) (v := ?v6) rfl (by kernel_rfl) (by kernel_rfl) (by kernel_rfl) (fun _ _ _ h => h) (Or.inl ⟨by kernel_rfl, ?hy6⟩) hS0 ?rest6
  case hy6 =>
    intro W hW
    have hW : Below w1.heap.size w1 W := hW
    have hbW := hb.trans (hW.mono hb.size)
    have cT := (hT.kept hW).cell
    have x10 := HC1.out _ hbW 0 (by decide)
    have x11 := HC1.out _ hbW 1 (by decide)
    have x12 := HC1.out _ hbW 2 (by decide)
    have x20 := HC2.out _ hbW 0 (by decide)
    have x21 := HC2.out _ hbW 1 (by decide)
    have x22 := HC2.out _ hbW 2 (by decide)
    simp only [Nat.reduceMul, Nat.reduceAdd, Nat.add_zero, List.getElem?_cons_zero, List.getElem?_cons_succ] at x10 x11 x12 x20 x21 x22
    go_simp
    first | done | with_reducible rfl
  simp only [List.getElem_toArray, List.getElem_cons_succ, List.getElem_cons_zero, Act.put, List.setIfInBounds_toArray, List.set_cons_zero, List.set_cons_succ]
  refine wpAnyH_take (i := 7) (v := ?v7) rfl (by kernel_rfl) (by kernel_rfl) (by kernel_rfl) (fun _ _ _ h => h) (Or.inl ⟨by kernel_rfl, ?hy7⟩) hS0 ?rest7
  case hy7 =>
    intro W hW
    have hW : Below w1.heap.size w1 W := hW
    have hbW := hb.trans (hW.mono hb.size)
    have cT := (hT.kept hW).cell
    have x10 := HC1.out _ hbW 0 (by decide)
    have x11 := HC1.out _ hbW 1 (by decide)
    have x12 := HC1.out _ hbW 2 (by decide)
    have x20 := HC2.out _ hbW 0 (by decide)
    have x21 := HC2.out _ hbW 1 (by decide)
    have x22 := HC2.out _ hbW 2 (by decide)
    simp only [Nat.reduceMul, Nat.reduceAdd, Nat.add_zero, List.getElem?_cons_zero, List.getElem?_cons_succ] at x10 x11 x12 x20 x21 x22
    go_simp
    first | done | with_reducible rfl
  simp only [List.getElem_toArray, List.getElem_cons_succ, List.getElem_cons_zero, Act.put, List.setIfInBounds_toArray, List.set_cons_zero, List.set_cons_succ]
  refine wpAnyH_all (rs := [8, 9]) (by kernel_rfl) (by decide) fun j hj => ?_
  have hj' : j = 8 ∨ j = 9 := by simpa using hj
  rcases hj' with rfl | rfl
  · refine wpOp_do rfl (by kernel_rfl) fun K hK => ?_
    simp only [List.getElem_toArray, List.getElem_cons_succ, List.getElem_cons_zero]
    go_simp
    refine hK.out _ _ (((Below.refl _ _).alloc (Nat.le_refl _) _).drew) ?_
    clear hK K
    (try simp only [List.getElem_toArray, List.getElem_cons_succ, List.getElem_cons_zero, Act.put, List.setIfInBounds_toArray, List.set_cons_zero, List.set_cons_succ])
    refine wpAnyH_call (i := 9) (by kernel_rfl) rfl (by kernel_rfl) fun K hK => ?_
    simp only [List.getElem_toArray, List.getElem_cons_succ, List.getElem_cons_zero]
    go_simp
    have hzA : (w1.alloc (.cells #[.string ⟨#[]⟩, .slice none 0 0, .slice none 0 0] 25)).heap.size = w.heap.size + 2 + 1 := by simp [hz1]
    have hX : Blk (((w1.alloc (.cells #[.string ⟨#[]⟩, .slice none 0 0, .slice none 0 0] 25)).alloc (.cells #[.string ⟨#[]⟩, .slice none 0 0, .slice none 0 0] 25)).drew) (w.heap.size + 2) 25 #[.string ⟨#[]⟩, .slice none 0 0, .slice none 0 0] := ((Blk.fresh w1 25 #[.string ⟨#[]⟩, .slice none 0 0, .slice none 0 0] hz1.symm).alloc _).drew
    have hY : Blk (((w1.alloc (.cells #[.string ⟨#[]⟩, .slice none 0 0, .slice none 0 0] 25)).alloc (.cells #[.string ⟨#[]⟩, .slice none 0 0, .slice none 0 0] 25)).drew) (w.heap.size + 2 + 1) 25 #[.string ⟨#[]⟩, .slice none 0 0, .slice none 0 0] := (Blk.fresh _ _ _ hzA.symm).drew
    have hB3 : Below w1.heap.size w1 (((w1.alloc (.cells #[.string ⟨#[]⟩, .slice none 0 0, .slice none 0 0] 25)).alloc (.cells #[.string ⟨#[]⟩, .slice none 0 0, .slice none 0 0] 25)).drew) := ((bal (bal (Below.refl _ w1) _) _)).drew
    have hT3 := hT.kept hB3
    have hR3 := hR.kept hB3
    refine hK.out _ _ hB3 ?_
    clear hK K hzA hS0
    (try simp only [List.getElem_toArray, List.getElem_cons_succ, List.getElem_cons_zero, Act.put, List.setIfInBounds_toArray, List.set_cons_zero, List.set_cons_succ])
    generalize ((w1.alloc (.cells #[.string ⟨#[]⟩, .slice none 0 0, .slice none 0 0] 25)).alloc (.cells #[.string ⟨#[]⟩, .slice none 0 0, .slice none 0 0] 25)).drew = w2 at *
    have cX := hX.cell
    have fX := hX.frozen
    refine wpAnyH_call (i := 10) (by kernel_rfl) rfl (by kernel_rfl) fun K hK => ?_
    simp only [List.getElem_toArray, List.getElem_cons_succ, List.getElem_cons_zero]
    go_simp
    have hX4 : Blk ((((w2).setCell ⟨w.heap.size + 2, 0, none⟩ (.string m1)).setCell ⟨w.heap.size + 2, 1, none⟩ (.slice A5 n2 c5)).setCell ⟨w.heap.size + 2, 2, none⟩ (.slice A6 n3 c6)) (w.heap.size + 2) 25 #[.string m1, .slice A5 n2 c5, .slice A6 n3 c6] := (((hX).set_ 0 (.string m1)).set_ 1 (.slice A5 n2 c5)).set_ 2 (.slice A6 n3 c6)
    have hY4 := (((hY).far (p := ⟨w.heap.size + 2, 0, none⟩) (by simp <;> omega) (.string m1)).far (p := ⟨w.heap.size + 2, 1, none⟩) (by simp <;> omega) (.slice A5 n2 c5)).far (p := ⟨w.heap.size + 2, 2, none⟩) (by simp <;> omega) (.slice A6 n3 c6)
    have hT4 := (((hT3).far (p := ⟨w.heap.size + 2, 0, none⟩) (by simp <;> omega) (.string m1)).far (p := ⟨w.heap.size + 2, 1, none⟩) (by simp <;> omega) (.slice A5 n2 c5)).far (p := ⟨w.heap.size + 2, 2, none⟩) (by simp <;> omega) (.slice A6 n3 c6)
    have hR4 := (((hR3).far (p := ⟨w.heap.size + 2, 0, none⟩) (by simp <;> omega) (.string m1)).far (p := ⟨w.heap.size + 2, 1, none⟩) (by simp <;> omega) (.slice A5 n2 c5)).far (p := ⟨w.heap.size + 2, 2, none⟩) (by simp <;> omega) (.slice A6 n3 c6)
    have hB4 := (((hB3).setCell (p := ⟨w.heap.size + 2, 0, none⟩) (by simp <;> omega) (.string m1)).setCell (p := ⟨w.heap.size + 2, 1, none⟩) (by simp <;> omega) (.slice A5 n2 c5)).setCell (p := ⟨w.heap.size + 2, 2, none⟩) (by simp <;> omega) (.slice A6 n3 c6)
    refine hK.out _ _ hB4 ?_
    clear hK K hX hY hT3 hR3 hB3 cX fX
    (try simp only [List.getElem_toArray, List.getElem_cons_succ, List.getElem_cons_zero, Act.put, List.setIfInBounds_toArray, List.set_cons_zero, List.set_cons_succ])
    generalize (((w2).setCell ⟨w.heap.size + 2, 0, none⟩ (.string m1)).setCell ⟨w.heap.size + 2, 1, none⟩ (.slice A5 n2 c5)).setCell ⟨w.heap.size + 2, 2, none⟩ (.slice A6 n3 c6) = w3 at *
    have cY := hY4.cell
    have fY := hY4.frozen
    refine wpAnyH_call (i := 11) (by kernel_rfl) rfl (by kernel_rfl) fun K hK => ?_
    simp only [List.getElem_toArray, List.getElem_cons_succ, List.getElem_cons_zero]
    go_simp
    have hY5 : Blk ((((w3).setCell ⟨w.heap.size + 2 + 1, 0, none⟩ (.string m2)).setCell ⟨w.heap.size + 2 + 1, 1, none⟩ (.slice A7 n4 c7)).setCell ⟨w.heap.size + 2 + 1, 2, none⟩ (.slice A8 n5 c8)) (w.heap.size + 2 + 1) 25 #[.string m2, .slice A7 n4 c7, .slice A8 n5 c8] := (((hY4).set_ 0 (.string m2)).set_ 1 (.slice A7 n4 c7)).set_ 2 (.slice A8 n5 c8)
    have hX5 := (((hX4).far (p := ⟨w.heap.size + 2 + 1, 0, none⟩) (by simp <;> omega) (.string m2)).far (p := ⟨w.heap.size + 2 + 1, 1, none⟩) (by simp <;> omega) (.slice A7 n4 c7)).far (p := ⟨w.heap.size + 2 + 1, 2, none⟩) (by simp <;> omega) (.slice A8 n5 c8)
    have hT5 := (((hT4).far (p := ⟨w.heap.size + 2 + 1, 0, none⟩) (by simp <;> omega) (.string m2)).far (p := ⟨w.heap.size + 2 + 1, 1, none⟩) (by simp <;> omega) (.slice A7 n4 c7)).far (p := ⟨w.heap.size + 2 + 1, 2, none⟩) (by simp <;> omega) (.slice A8 n5 c8)
    have hR5 := (((hR4).far (p := ⟨w.heap.size + 2 + 1, 0, none⟩) (by simp <;> omega) (.string m2)).far (p := ⟨w.heap.size + 2 + 1, 1, none⟩) (by simp <;> omega) (.slice A7 n4 c7)).far (p := ⟨w.heap.size + 2 + 1, 2, none⟩) (by simp <;> omega) (.slice A8 n5 c8)
    have hB5 := (((hB4).setCell (p := ⟨w.heap.size + 2 + 1, 0, none⟩) (by simp <;> omega) (.string m2)).setCell (p := ⟨w.heap.size + 2 + 1, 1, none⟩) (by simp <;> omega) (.slice A7 n4 c7)).setCell (p := ⟨w.heap.size + 2 + 1, 2, none⟩) (by simp <;> omega) (.slice A8 n5 c8)
    refine hK.out _ _ hB5 ?_
    clear hK K hX4 hY4 hT4 hR4 hB4 cY fY
    (try simp only [List.getElem_toArray, List.getElem_cons_succ, List.getElem_cons_zero, Act.put, List.setIfInBounds_toArray, List.set_cons_zero, List.set_cons_succ])
    generalize (((w3).setCell ⟨w.heap.size + 2 + 1, 0, none⟩ (.string m2)).setCell ⟨w.heap.size + 2 + 1, 1, none⟩ (.slice A7 n4 c7)).setCell ⟨w.heap.size + 2 + 1, 2, none⟩ (.slice A8 n5 c8) = w4 at *
    refine wpAnyH_done (by kernel_rfl) ?_ _
    have hbW := hb.trans (hB5.mono hb.size)
    go_wp2_with fail
    have hz4 : w.heap.size + 4 ≤ w4.heap.size := by have := hX5.lt; have := hY5.lt; omega
    refine wp_region_spec 14 [31, 32, 33, 34, 35, 36, 37, 38, 39, 40, 41, 42, 43, 6] [.eq (.agg #[.string nm, .slice A1 np c1, .slice (some ⟨b2, o2, none⟩) 3 c2]), .eq (.int .u64 p1), .eq (.int .i64 p1), .eq (.agg #[.string nm, .slice A1 np c1, .slice (some ⟨b2, o2, none⟩) 3 c2]), .eq (.int .u64 p2), .eq (.int .i64 p2), .eq (.pointer (some ⟨w.heap.size, 2, none⟩)), .eq (.slice (some ⟨b2, o2, none⟩) 3 c2), .eq (.pointer (some ⟨b2, o2, none⟩)), .eq (.pointer (some ⟨b2, o2 + 2, none⟩)),
      .eq (.slice A4 n0 c4), .eq (.int .i64 n0), .eq (.agg #[.int .u64 0, .int .u64 0, .int .u64 0, .int .u64 0, .int .i64 p1, .int .i64 p2, .int .i64 n0]), BoxV w4.heap.size 39 #[.int .u64 0, .int .u64 0, .int .u64 0, .int .u64 0, .int .i64 0, .int .i64 0, .int .i64 0]] (by kernel_rfl) (by kernel_rfl) ?_ ?_
    · unfold StepS
      simp only [List.take_succ_cons, List.take_zero, fillA, fillL, List.setIfInBounds_toArray, List.set_cons_succ, List.set_cons_zero, Nat.zero_add, Nat.reduceAdd]
      refine StepsOk.cons (fun vals w' hb hd K hK => ?_) ?_
      · have cT := (hT5.kept hb).cell
        go_simp
        exact hK.out _ _ _ (Below.refl _ _) rfl (by kernel_rfl)
      refine StepsOk.cons (fun vals w' hb hd K hK => ?_) ?_
      · have d0 := hd 0 (by decide)
        simp only [List.getD_cons_zero, List.getD_cons_succ, SP.eq] at d0
        go_simp
        go_at_call 48
        refine (HVp1.out _ (hbW.trans (hb.mono hbW.size))).mono ?_
        rintro e w7 ⟨rfl, hb7⟩
        exact hK.out _ _ _ hb7 rfl (by simp only [d0, Act.put, List.setIfInBounds_toArray, List.set_cons_succ, List.set_cons_zero])
      refine StepsOk.cons (fun vals w' hb hd K hK => ?_) ?_
      · have d1 := hd 1 (by decide)
        simp only [List.getD_cons_zero, List.getD_cons_succ, SP.eq] at d1
        go_simp
        exact hK.out _ _ _ (Below.refl _ _) rfl (by simp only [d1, Act.put, List.setIfInBounds_toArray, List.set_cons_succ, List.set_cons_zero])
      refine StepsOk.cons (fun vals w' hb hd K hK => ?_) ?_
      · have cT := (hT5.kept hb).cell
        go_simp
        exact hK.out _ _ _ (Below.refl _ _) rfl (by kernel_rfl)
      refine StepsOk.cons (fun vals w' hb hd K hK => ?_) ?_
      · have d3 := hd 3 (by decide)
        simp only [List.getD_cons_zero, List.getD_cons_succ, SP.eq] at d3
        go_simp
        go_at_call 48
        refine (HVp2.out _ (hbW.trans (hb.mono hbW.size))).mono ?_
        rintro e w7 ⟨rfl, hb7⟩
        exact hK.out _ _ _ hb7 rfl (by simp only [d3, Act.put, List.setIfInBounds_toArray, List.set_cons_succ, List.set_cons_zero])
      refine StepsOk.cons (fun vals w' hb hd K hK => ?_) ?_
      · have d4 := hd 4 (by decide)
        simp only [List.getD_cons_zero, List.getD_cons_succ, SP.eq] at d4
        go_simp
        exact hK.out _ _ _ (Below.refl _ _) rfl (by simp only [d4, Act.put, List.setIfInBounds_toArray, List.set_cons_succ, List.set_cons_zero])
      refine StepsOk.cons (fun vals w' hb hd K hK => ?_) ?_
      · go_simp
        exact hK.out _ _ _ (Below.refl _ _) rfl (by kernel_rfl)
      refine StepsOk.cons (fun vals w' hb hd K hK => ?_) ?_
      · have d6 := hd 6 (by decide)
        simp only [List.getD_cons_zero, List.getD_cons_succ, SP.eq] at d6
        have cT := (hT5.kept hb).cell
        go_simp
        exact hK.out _ _ _ (Below.refl _ _) rfl (by simp only [d6, Act.put, List.setIfInBounds_toArray, List.set_cons_succ, List.set_cons_zero])
      refine StepsOk.cons (fun vals w' hb hd K hK => ?_) ?_
      · have d7 := hd 7 (by decide)
        simp only [List.getD_cons_zero, List.getD_cons_succ, SP.eq] at d7
        go_simp
        exact hK.out _ _ _ (Below.refl _ _) rfl (by simp only [d7, Act.put, List.setIfInBounds_toArray, List.set_cons_succ, List.set_cons_zero])
      refine StepsOk.cons (fun vals w' hb hd K hK => ?_) ?_
      · have d8 := hd 8 (by decide)
        simp only [List.getD_cons_zero, List.getD_cons_succ, SP.eq] at d8
        go_simp
        exact hK.out _ _ _ (Below.refl _ _) rfl (by simp only [d8, Act.put, List.setIfInBounds_toArray, List.set_cons_succ, List.set_cons_zero])
      refine StepsOk.cons (fun vals w' hb hd K hK => ?_) ?_
      · have d9 := hd 9 (by decide)
        simp only [List.getD_cons_zero, List.getD_cons_succ, SP.eq] at d9
        have x02 := HC0.out _ (hbW.trans (hb.mono hbW.size)) 2 (by decide)
        simp only [Nat.reduceMul, Nat.reduceAdd, Nat.add_zero, List.getElem?_cons_zero, List.getElem?_cons_succ] at x02
        go_simp
        exact hK.out _ _ _ (Below.refl _ _) rfl (by simp only [d9, Act.put, List.setIfInBounds_toArray, List.set_cons_succ, List.set_cons_zero])
      refine StepsOk.cons (fun vals w' hb hd K hK => ?_) ?_
      · have d10 := hd 10 (by decide)
        simp only [List.getD_cons_zero, List.getD_cons_succ, SP.eq] at d10
        go_simp
        exact hK.out _ _ _ (Below.refl _ _) rfl (by simp only [d10, Act.put, List.setIfInBounds_toArray, List.set_cons_succ, List.set_cons_zero])
      refine StepsOk.cons (fun vals w' hb hd K hK => ?_) ?_
      · have d2 := hd 2 (by decide)
        simp only [List.getD_cons_zero, List.getD_cons_succ, SP.eq] at d2
        have d5 := hd 5 (by decide)
        simp only [List.getD_cons_zero, List.getD_cons_succ, SP.eq] at d5
        have d11 := hd 11 (by decide)
        simp only [List.getD_cons_zero, List.getD_cons_succ, SP.eq] at d11
        go_simp
        exact hK.out _ _ _ (Below.refl _ _) rfl (by simp only [d2, d5, d11, Act.put, List.setIfInBounds_toArray, List.set_cons_succ, List.set_cons_zero])
      refine StepsOk.cons (fun vals w' hb hd K hK => ?_) ?_
      · go_simp
        exact hK.out _ _ _ (bal (Below.refl _ _) _) ⟨_, rfl, hb.size, Blk.new _ _ _⟩ (by kernel_rfl)
      exact StepsOk.nil
    intro vals w6 hb6 hd
    have d12 := hd 12 (by decide)
    have d13 := hd 13 (by decide)
    simp only [List.getD_cons_zero, List.getD_cons_succ, SP.eq] at d12 d13
    obtain ⟨g6, hv6, hg6, hH6⟩ := d13
    have hX6 := hX5.kept hb6
    have hY6 := hY5.kept hb6
    have hT6 := hT5.kept hb6
    have hR6 := hR5.kept hb6
    have hbW6 := hbW.trans (hb6.mono hbW.size)
    have cH := hH6.cell
    have fH := hH6.frozen
    simp only [List.drop_succ_cons, List.drop_zero, fillA, fillL, List.setIfInBounds_toArray, List.set_cons_succ, List.set_cons_zero, Nat.zero_add, Nat.reduceAdd, d12, hv6]
    generalize vals 0 = u0
    generalize vals 1 = u1
    generalize vals 2 = u2
    generalize vals 3 = u3
    generalize vals 4 = u4
    generalize vals 5 = u5
    generalize vals 6 = u6
    generalize vals 7 = u7
    generalize vals 8 = u8
    generalize vals 9 = u9
    generalize vals 10 = u10
    generalize vals 11 = u11
    clear hd d12 hv6
    have hH7 : Blk ((((((((w6).setCell ⟨g6, 0, none⟩ (.int .u64 0)).setCell ⟨g6, 1, none⟩ (.int .u64 0)).setCell ⟨g6, 2, none⟩ (.int .u64 0)).setCell ⟨g6, 3, none⟩ (.int .u64 0)).setCell ⟨g6, 4, none⟩ (.int .i64 p1)).setCell ⟨g6, 5, none⟩ (.int .i64 p2)).setCell ⟨g6, 6, none⟩ (.int .i64 n0)) g6 39 #[.int .u64 0, .int .u64 0, .int .u64 0, .int .u64 0, .int .i64 p1, .int .i64 p2, .int .i64 n0] := (((((((hH6).set_ 0 (.int .u64 0)).set_ 1 (.int .u64 0)).set_ 2 (.int .u64 0)).set_ 3 (.int .u64 0)).set_ 4 (.int .i64 p1)).set_ 5 (.int .i64 p2)).set_ 6 (.int .i64 n0)
    have hX7 := (((((((hX6).far (p := ⟨g6, 0, none⟩) (by simp <;> omega) (.int .u64 0)).far (p := ⟨g6, 1, none⟩) (by simp <;> omega) (.int .u64 0)).far (p := ⟨g6, 2, none⟩) (by simp <;> omega) (.int .u64 0)).far (p := ⟨g6, 3, none⟩) (by simp <;> omega) (.int .u64 0)).far (p := ⟨g6, 4, none⟩) (by simp <;> omega) (.int .i64 p1)).far (p := ⟨g6, 5, none⟩) (by simp <;> omega) (.int .i64 p2)).far (p := ⟨g6, 6, none⟩) (by simp <;> omega) (.int .i64 n0)
    have hY7 := (((((((hY6).far (p := ⟨g6, 0, none⟩) (by simp <;> omega) (.int .u64 0)).far (p := ⟨g6, 1, none⟩) (by simp <;> omega) (.int .u64 0)).far (p := ⟨g6, 2, none⟩) (by simp <;> omega) (.int .u64 0)).far (p := ⟨g6, 3, none⟩) (by simp <;> omega) (.int .u64 0)).far (p := ⟨g6, 4, none⟩) (by simp <;> omega) (.int .i64 p1)).far (p := ⟨g6, 5, none⟩) (by simp <;> omega) (.int .i64 p2)).far (p := ⟨g6, 6, none⟩) (by simp <;> omega) (.int .i64 n0)
    have hT7 := (((((((hT6).far (p := ⟨g6, 0, none⟩) (by simp <;> omega) (.int .u64 0)).far (p := ⟨g6, 1, none⟩) (by simp <;> omega) (.int .u64 0)).far (p := ⟨g6, 2, none⟩) (by simp <;> omega) (.int .u64 0)).far (p := ⟨g6, 3, none⟩) (by simp <;> omega) (.int .u64 0)).far (p := ⟨g6, 4, none⟩) (by simp <;> omega) (.int .i64 p1)).far (p := ⟨g6, 5, none⟩) (by simp <;> omega) (.int .i64 p2)).far (p := ⟨g6, 6, none⟩) (by simp <;> omega) (.int .i64 n0)
    have hR7 := (((((((hR6).far (p := ⟨g6, 0, none⟩) (by simp <;> omega) (.int .u64 0)).far (p := ⟨g6, 1, none⟩) (by simp <;> omega) (.int .u64 0)).far (p := ⟨g6, 2, none⟩) (by simp <;> omega) (.int .u64 0)).far (p := ⟨g6, 3, none⟩) (by simp <;> omega) (.int .u64 0)).far (p := ⟨g6, 4, none⟩) (by simp <;> omega) (.int .i64 p1)).far (p := ⟨g6, 5, none⟩) (by simp <;> omega) (.int .i64 p2)).far (p := ⟨g6, 6, none⟩) (by simp <;> omega) (.int .i64 n0)
    have hbW7 := (((((((hbW6).setCell (p := ⟨g6, 0, none⟩) (by simp <;> omega) (.int .u64 0)).setCell (p := ⟨g6, 1, none⟩) (by simp <;> omega) (.int .u64 0)).setCell (p := ⟨g6, 2, none⟩) (by simp <;> omega) (.int .u64 0)).setCell (p := ⟨g6, 3, none⟩) (by simp <;> omega) (.int .u64 0)).setCell (p := ⟨g6, 4, none⟩) (by simp <;> omega) (.int .i64 p1)).setCell (p := ⟨g6, 5, none⟩) (by simp <;> omega) (.int .i64 p2)).setCell (p := ⟨g6, 6, none⟩) (by simp <;> omega) (.int .i64 n0)
    clear hX5 hY5 hT5 hR5 hbW hb6 hH6 hX6 hY6 hT6 hR6 hbW6
    go_wp2_with fail
    clear cH fH
    generalize (((((((w6).setCell ⟨g6, 0, none⟩ (.int .u64 0)).setCell ⟨g6, 1, none⟩ (.int .u64 0)).setCell ⟨g6, 2, none⟩ (.int .u64 0)).setCell ⟨g6, 3, none⟩ (.int .u64 0)).setCell ⟨g6, 4, none⟩ (.int .i64 p1)).setCell ⟨g6, 5, none⟩ (.int .i64 p2)).setCell ⟨g6, 6, none⟩ (.int .i64 n0) = w7 at *
    refine wp_region_spec 5 [44, 45, 46, 47, 48] [.eq (.agg #[.string m1, .slice A5 n2 c5, .slice A6 n3 c6]), .eq (.int .u64 r0), .eq (.agg #[.string m1, .slice A5 n2 c5, .slice A6 n3 c6]), .eq (.int .u64 r1), .eq (.agg #[.int .u64 r0, .int .u64 r1])] (by kernel_rfl) (by kernel_rfl) ?_ ?_
    · unfold StepS
      simp only [List.take_succ_cons, List.take_zero, fillA, fillL, List.setIfInBounds_toArray, List.set_cons_succ, List.set_cons_zero, Nat.zero_add, Nat.reduceAdd]
      refine StepsOk.cons (fun vals w' hb hd K hK => ?_) ?_
      · have cT := (hX7.kept hb).cell
        go_simp
        exact hK.out _ _ _ (Below.refl _ _) rfl (by kernel_rfl)
      refine StepsOk.cons (fun vals w' hb hd K hK => ?_) ?_
      · have d0 := hd 0 (by decide)
        simp only [List.getD_cons_zero, List.getD_cons_succ, SP.eq] at d0
        go_simp
        go_at_call 48
        refine (HVr0.out _ (hbW7.trans (hb.mono hbW7.size))).mono ?_
        rintro e w7 ⟨rfl, hb7⟩
        exact hK.out _ _ _ hb7 rfl (by simp only [d0, Act.put, List.setIfInBounds_toArray, List.set_cons_succ, List.set_cons_zero])
      refine StepsOk.cons (fun vals w' hb hd K hK => ?_) ?_
      · have cT := (hX7.kept hb).cell
        go_simp
        exact hK.out _ _ _ (Below.refl _ _) rfl (by kernel_rfl)
      refine StepsOk.cons (fun vals w' hb hd K hK => ?_) ?_
      · have d2 := hd 2 (by decide)
        simp only [List.getD_cons_zero, List.getD_cons_succ, SP.eq] at d2
        go_simp
        go_at_call 48
        refine (HVr1.out _ (hbW7.trans (hb.mono hbW7.size))).mono ?_
        rintro e w7 ⟨rfl, hb7⟩
        exact hK.out _ _ _ hb7 rfl (by simp only [d2, Act.put, List.setIfInBounds_toArray, List.set_cons_succ, List.set_cons_zero])
      refine StepsOk.cons (fun vals w' hb hd K hK => ?_) ?_
      · have d1 := hd 1 (by decide)
        simp only [List.getD_cons_zero, List.getD_cons_succ, SP.eq] at d1
        have d3 := hd 3 (by decide)
        simp only [List.getD_cons_zero, List.getD_cons_succ, SP.eq] at d3
        go_simp
        exact hK.out _ _ _ (Below.refl _ _) rfl (by simp only [d1, d3, Act.put, List.setIfInBounds_toArray, List.set_cons_succ, List.set_cons_zero])
      exact StepsOk.nil
    intro vals w8 hb8 hd
    have d4 := hd 4 (by decide)
    simp only [List.getD_cons_zero, List.getD_cons_succ, SP.eq] at d4
    have hH8 := hH7.kept hb8
    have hX8 := hX7.kept hb8
    have hY8 := hY7.kept hb8
    have hT8 := hT7.kept hb8
    have hR8 := hR7.kept hb8
    have hbW8 := hbW7.trans (hb8.mono hbW7.size)
    have cH := hH8.cell
    have fH := hH8.frozen
    simp only [List.drop_succ_cons, List.drop_zero, fillA, fillL, List.setIfInBounds_toArray, List.set_cons_succ, List.set_cons_zero, Nat.zero_add, Nat.reduceAdd, d4]
    generalize vals 0 = u0
    generalize vals 1 = u1
    generalize vals 2 = u2
    generalize vals 3 = u3
    clear hd d4
    have hH9 : Blk (((w8).setCell ⟨g6, 0, none⟩ (.int .u64 r0)).setCell ⟨g6, 1, none⟩ (.int .u64 r1)) g6 39 #[.int .u64 r0, .int .u64 r1, .int .u64 0, .int .u64 0, .int .i64 p1, .int .i64 p2, .int .i64 n0] := ((hH8).set_ 0 (.int .u64 r0)).set_ 1 (.int .u64 r1)
    have hX9 := ((hX8).far (p := ⟨g6, 0, none⟩) (by simp <;> omega) (.int .u64 r0)).far (p := ⟨g6, 1, none⟩) (by simp <;> omega) (.int .u64 r1)
    have hY9 := ((hY8).far (p := ⟨g6, 0, none⟩) (by simp <;> omega) (.int .u64 r0)).far (p := ⟨g6, 1, none⟩) (by simp <;> omega) (.int .u64 r1)
    have hT9 := ((hT8).far (p := ⟨g6, 0, none⟩) (by simp <;> omega) (.int .u64 r0)).far (p := ⟨g6, 1, none⟩) (by simp <;> omega) (.int .u64 r1)
    have hR9 := ((hR8).far (p := ⟨g6, 0, none⟩) (by simp <;> omega) (.int .u64 r0)).far (p := ⟨g6, 1, none⟩) (by simp <;> omega) (.int .u64 r1)
    have hbW9 := ((hbW8).setCell (p := ⟨g6, 0, none⟩) (by simp <;> omega) (.int .u64 r0)).setCell (p := ⟨g6, 1, none⟩) (by simp <;> omega) (.int .u64 r1)
    clear hH7 hX7 hY7 hT7 hR7 hbW7 hb8 hH8 hX8 hY8 hT8 hR8 hbW8
    go_wp2_with fail
    clear cH fH
    generalize ((w8).setCell ⟨g6, 0, none⟩ (.int .u64 r0)).setCell ⟨g6, 1, none⟩ (.int .u64 r1) = w9 at *
    refine wp_region_spec 5 [50, 51, 52, 53, 54] [.eq (.agg #[.string m2, .slice A7 n4 c7, .slice A8 n5 c8]), .eq (.int .u64 s0), .eq (.agg #[.string m2, .slice A7 n4 c7, .slice A8 n5 c8]), .eq (.int .u64 s1), .eq (.agg #[.int .u64 s0, .int .u64 s1])] (by kernel_rfl) (by kernel_rfl) ?_ ?_
    · unfold StepS
      simp only [List.take_succ_cons, List.take_zero, fillA, fillL, List.setIfInBounds_toArray, List.set_cons_succ, List.set_cons_zero, Nat.zero_add, Nat.reduceAdd]
      refine StepsOk.cons (fun vals w' hb hd K hK => ?_) ?_
      · have cT := (hY9.kept hb).cell
        go_simp
        exact hK.out _ _ _ (Below.refl _ _) rfl (by kernel_rfl)
      refine StepsOk.cons (fun vals w' hb hd K hK => ?_) ?_
      · have d0 := hd 0 (by decide)
        simp only [List.getD_cons_zero, List.getD_cons_succ, SP.eq] at d0
        go_simp
        go_at_call 48
        refine (HVs0.out _ (hbW9.trans (hb.mono hbW9.size))).mono ?_
        rintro e w7 ⟨rfl, hb7⟩
        exact hK.out _ _ _ hb7 rfl (by simp only [d0, Act.put, List.setIfInBounds_toArray, List.set_cons_succ, List.set_cons_zero])
      refine StepsOk.cons (fun vals w' hb hd K hK => ?_) ?_
      · have cT := (hY9.kept hb).cell
        go_simp
        exact hK.out _ _ _ (Below.refl _ _) rfl (by kernel_rfl)
      refine StepsOk.cons (fun vals w' hb hd K hK => ?_) ?_
      · have d2 := hd 2 (by decide)
        simp only [List.getD_cons_zero, List.getD_cons_succ, SP.eq] at d2
        go_simp
        go_at_call 48
        refine (HVs1.out _ (hbW9.trans (hb.mono hbW9.size))).mono ?_
        rintro e w7 ⟨rfl, hb7⟩
        exact hK.out _ _ _ hb7 rfl (by simp only [d2, Act.put, List.setIfInBounds_toArray, List.set_cons_succ, List.set_cons_zero])
      refine StepsOk.cons (fun vals w' hb hd K hK => ?_) ?_
      · have d1 := hd 1 (by decide)
        simp only [List.getD_cons_zero, List.getD_cons_succ, SP.eq] at d1
        have d3 := hd 3 (by decide)
        simp only [List.getD_cons_zero, List.getD_cons_succ, SP.eq] at d3
        go_simp
        exact hK.out _ _ _ (Below.refl _ _) rfl (by simp only [d1, d3, Act.put, List.setIfInBounds_toArray, List.set_cons_succ, List.set_cons_zero])
      exact StepsOk.nil
    intro vals w10 hb10 hd
    have d4 := hd 4 (by decide)
    simp only [List.getD_cons_zero, List.getD_cons_succ, SP.eq] at d4
    have hH10 := hH9.kept hb10
    have hX10 := hX9.kept hb10
    have hY10 := hY9.kept hb10
    have hT10 := hT9.kept hb10
    have hR10 := hR9.kept hb10
    have hbW10 := hbW9.trans (hb10.mono hbW9.size)
    have cH := hH10.cell
    have fH := hH10.frozen
    simp only [List.drop_succ_cons, List.drop_zero, fillA, fillL, List.setIfInBounds_toArray, List.set_cons_succ, List.set_cons_zero, Nat.zero_add, Nat.reduceAdd, d4]
    generalize vals 0 = u0
    generalize vals 1 = u1
    generalize vals 2 = u2
    generalize vals 3 = u3
    clear hd d4
    have hH11 : Blk (((w10).setCell ⟨g6, 2, none⟩ (.int .u64 s0)).setCell ⟨g6, 3, none⟩ (.int .u64 s1)) g6 39 #[.int .u64 r0, .int .u64 r1, .int .u64 s0, .int .u64 s1, .int .i64 p1, .int .i64 p2, .int .i64 n0] := ((hH10).set_ 2 (.int .u64 s0)).set_ 3 (.int .u64 s1)
    have hX11 := ((hX10).far (p := ⟨g6, 2, none⟩) (by simp <;> omega) (.int .u64 s0)).far (p := ⟨g6, 3, none⟩) (by simp <;> omega) (.int .u64 s1)
    have hY11 := ((hY10).far (p := ⟨g6, 2, none⟩) (by simp <;> omega) (.int .u64 s0)).far (p := ⟨g6, 3, none⟩) (by simp <;> omega) (.int .u64 s1)
    have hT11 := ((hT10).far (p := ⟨g6, 2, none⟩) (by simp <;> omega) (.int .u64 s0)).far (p := ⟨g6, 3, none⟩) (by simp <;> omega) (.int .u64 s1)
    have hR11 := ((hR10).far (p := ⟨g6, 2, none⟩) (by simp <;> omega) (.int .u64 s0)).far (p := ⟨g6, 3, none⟩) (by simp <;> omega) (.int .u64 s1)
    have hbW11 := ((hbW10).setCell (p := ⟨g6, 2, none⟩) (by simp <;> omega) (.int .u64 s0)).setCell (p := ⟨g6, 3, none⟩) (by simp <;> omega) (.int .u64 s1)
    clear hH9 hX9 hY9 hT9 hR9 hbW9 hb10 hH10 hX10 hY10 hT10 hR10 hbW10
    go_wp2_with fail
    clear cH fH
    generalize ((w10).setCell ⟨g6, 2, none⟩ (.int .u64 s0)).setCell ⟨g6, 3, none⟩ (.int .u64 s1) = w11 at *
    have cH := hH11.cell
    rcases hfit : fitB ⟨r0, r1, s0, s1, p1, p2, n0⟩ with _ | _
    · have hno : BRes t zeroB 282 := .inr ⟨rfl, rfl, fun b hb => by
        have h1 := HIs.out b hb
        have h2 := hb.2.1
        rw [h1, hfit] at h2
        cases h2⟩
      have HN := Lib.hid (fun W => rhost_no ⟨r0, r1, s0, s1, p1, p2, n0⟩ hokF hfit W)
      simp only [encBd] at HN
      clear hX11 hY11
      go_upto_region 8 with (go_at_call 30; refine (HN.out _).mono ?_; rintro e w12 ⟨rfl, hb12⟩; have hR12 := hR11.kept hb12; have hbW12 := hbW11.trans (hb12.mono hbW11.size))
      have hRe := hR12.alloc (.cells #[.string ⟨#[]⟩, .slice none 0 0, .slice none 0 0] 25)
      have hbe := bal' hbW12 (.cells #[.string ⟨#[]⟩, .slice none 0 0, .slice none 0 0] 25) hbW12.size
      generalize w12.alloc (.cells #[.string ⟨#[]⟩, .slice none 0 0, .slice none 0 0] 25) = w13 at *
      clear cH hR11 hH11 hbW11 hR12 hbW12 hb12
      have cR := hRe.cell
      have fR := hRe.frozen
      have cZ := (((((((hRe.set_ 0 (.int .u64 0)).set_ 1 (.int .u64 0)).set_ 2 (.int .u64 0)).set_ 3 (.int .u64 0)).set_ 4 (.int .i64 0)).set_ 5 (.int .i64 0)).set_ 6 (.int .i64 0)).cell
      have hbz := (((((((hbe.setCell (p := ⟨w.heap.size + 1, 0, none⟩) (by simp) (.int .u64 0)).setCell (p := ⟨w.heap.size + 1, 1, none⟩) (by simp) (.int .u64 0)).setCell (p := ⟨w.heap.size + 1, 2, none⟩) (by simp) (.int .u64 0)).setCell (p := ⟨w.heap.size + 1, 3, none⟩) (by simp) (.int .u64 0)).setCell (p := ⟨w.heap.size + 1, 4, none⟩) (by simp) (.int .i64 0)).setCell (p := ⟨w.heap.size + 1, 5, none⟩) (by simp) (.int .i64 0)).setCell (p := ⟨w.heap.size + 1, 6, none⟩) (by simp) (.int .i64 0))
      go_wp2_with fail
      exact bodyPost_ret (v := .tuple #[.agg (encBd zeroB).toArray, .int .i64 282]) (by simp [results, Try.results23, go_sem, cZ, encBd, zeroB]) rfl ⟨zeroB, 282, rfl, hno, hbz⟩
    · have HN := Lib.hid (fun W => HTr.out ⟨r0, r1, s0, s1, p1, p2, n0⟩ hokF hfit W)
      simp only [encBd] at HN
      clear hX11 hY11
      go_upto_region 8 with (go_at_call 30; refine (HN.out _).mono ?_; rintro e w12 ⟨v8, rfl, htp, hb12⟩; obtain ⟨B3, d3, B4, d4, rfl, k8, htx⟩ := htp.cells; generalize hy1 : (hostT ⟨r0, r1, s0, s1, p1, p2, n0⟩).nm = y1 at htx; generalize hy2 : (hostT ⟨r0, r1, s0, s1, p1, p2, n0⟩).ps.length = y2 at htx; generalize hy3 : (hostT ⟨r0, r1, s0, s1, p1, p2, n0⟩).ks.length = y3 at htx; have hR12 := hR11.kept hb12; have hH12 := hH11.kept hb12; have hT12 := hT11.kept hb12; have hbW12 := hbW11.trans (hb12.mono hbW11.size))
      have hXe := Blk.new w12 25 #[.string y1, .slice B3 y2 d3, .slice B4 y3 d4]
      have htx := htx.kept (bal (Below.refl _ _) (.cells #[.string y1, .slice B3 y2 d3, .slice B4 y3 d4] 25))
      have hRe := hR12.alloc (.cells #[.string y1, .slice B3 y2 d3, .slice B4 y3 d4] 25)
      have hGe := hH12.alloc (.cells #[.string y1, .slice B3 y2 d3, .slice B4 y3 d4] 25)
      have hTe := hT12.alloc (.cells #[.string y1, .slice B3 y2 d3, .slice B4 y3 d4] 25)
      have hbe := bal' hbW12 (.cells #[.string y1, .slice B3 y2 d3, .slice B4 y3 d4] 25) hbW12.size
      generalize w12.alloc (.cells #[.string y1, .slice B3 y2 d3, .slice B4 y3 d4] 25) = w13 at *
      clear cH hR11 hH11 hT11 hbW11 hR12 hH12 hT12 hbW12 hb12
      have cT := hTe.cell
      have cX := hXe.cell
      have HS := Lib.hid (fun W (hW : Below w13.heap.size w13 W) => refSame_any _ _ (hostT ⟨r0, r1, s0, s1, p1, p2, n0⟩) t _ _ W (htx.ok.kept hW) ((HT.out _ (hbe.trans (hW.mono hbe.size)))))
      rcases heq : eqv (hostT ⟨r0, r1, s0, s1, p1, p2, n0⟩) t with _ | _
      · rw [heq] at HS
        have hno : BRes t zeroB 282 := .inr ⟨rfl, rfl, fun b hb => by
          have h1 := HIs.out b hb
          have h2 := hb.2.2
          rw [h1] at h2
          rw [eqv_t h2] at heq
          cases heq⟩
        go_upto_region 9 with (go_at_call 20; refine (HS.out _ (Below.refl _ _)).mono ?_; rintro e w14 ⟨rfl, hb14⟩)
        have hRe := hRe.kept hb14
        have hbe := hbe.trans (hb14.mono hbe.size)
        clear cT cX
        have cR := hRe.cell
        have fR := hRe.frozen
        have cZ := (((((((hRe.set_ 0 (.int .u64 0)).set_ 1 (.int .u64 0)).set_ 2 (.int .u64 0)).set_ 3 (.int .u64 0)).set_ 4 (.int .i64 0)).set_ 5 (.int .i64 0)).set_ 6 (.int .i64 0)).cell
        have hbz := (((((((hbe.setCell (p := ⟨w.heap.size + 1, 0, none⟩) (by simp) (.int .u64 0)).setCell (p := ⟨w.heap.size + 1, 1, none⟩) (by simp) (.int .u64 0)).setCell (p := ⟨w.heap.size + 1, 2, none⟩) (by simp) (.int .u64 0)).setCell (p := ⟨w.heap.size + 1, 3, none⟩) (by simp) (.int .u64 0)).setCell (p := ⟨w.heap.size + 1, 4, none⟩) (by simp) (.int .i64 0)).setCell (p := ⟨w.heap.size + 1, 5, none⟩) (by simp) (.int .i64 0)).setCell (p := ⟨w.heap.size + 1, 6, none⟩) (by simp) (.int .i64 0))
        go_wp2_with fail
        exact bodyPost_ret (v := .tuple #[.agg (encBd zeroB).toArray, .int .i64 282]) (by simp [results, Try.results23, go_sem, cZ, encBd, zeroB]) rfl ⟨zeroB, 282, rfl, hno, hbz⟩
      · rw [heq] at HS
        have hyes : BRes t ⟨r0, r1, s0, s1, p1, p2, n0⟩ 0 := .inl ⟨rfl, hokF, hfit, by
          apply Classical.byContradiction
          intro hne
          rw [eqv_f hne] at heq
          cases heq⟩
        go_upto_region 10 with (go_at_call 20; refine (HS.out _ (Below.refl _ _)).mono ?_; rintro e w14 ⟨rfl, hb14⟩)
        have hRe := hRe.kept hb14
        have hGe := hGe.kept hb14
        have hbe := hbe.trans (hb14.mono hbe.size)
        clear cT cX
        have cG := hGe.cell
        have cR := hRe.cell
        have fR := hRe.frozen
        have cZ := (((((((hRe.set_ 0 (.int .u64 r0)).set_ 1 (.int .u64 r1)).set_ 2 (.int .u64 s0)).set_ 3 (.int .u64 s1)).set_ 4 (.int .i64 p1)).set_ 5 (.int .i64 p2)).set_ 6 (.int .i64 n0)).cell
        have hbz := (((((((hbe.setCell (p := ⟨w.heap.size + 1, 0, none⟩) (by simp) (.int .u64 r0)).setCell (p := ⟨w.heap.size + 1, 1, none⟩) (by simp) (.int .u64 r1)).setCell (p := ⟨w.heap.size + 1, 2, none⟩) (by simp) (.int .u64 s0)).setCell (p := ⟨w.heap.size + 1, 3, none⟩) (by simp) (.int .u64 s1)).setCell (p := ⟨w.heap.size + 1, 4, none⟩) (by simp) (.int .i64 p1)).setCell (p := ⟨w.heap.size + 1, 5, none⟩) (by simp) (.int .i64 p2)).setCell (p := ⟨w.heap.size + 1, 6, none⟩) (by simp) (.int .i64 n0))
        go_wp2_with fail
        exact bodyPost_ret (v := .tuple #[.agg (encBd ⟨r0, r1, s0, s1, p1, p2, n0⟩).toArray, .int .i64 0]) (by simp [results, Try.results23, go_sem, cZ, encBd]) rfl ⟨⟨r0, r1, s0, s1, p1, p2, n0⟩, 0, rfl, hyes, hbz⟩
  · refine wpOp_do rfl (by kernel_rfl) fun K hK => ?_
    simp only [List.getElem_toArray, List.getElem_cons_succ, List.getElem_cons_zero]
    go_simp
    refine hK.out _ _ (((Below.refl _ _).alloc (Nat.le_refl _) _).drew) ?_
    clear hK K
    (try simp only [List.getElem_toArray, List.getElem_cons_succ, List.getElem_cons_zero, Act.put, List.setIfInBounds_toArray, List.set_cons_zero, List.set_cons_succ])
    refine wpAnyH_call (i := 8) (by kernel_rfl) rfl (by kernel_rfl) fun K hK => ?_
    simp only [List.getElem_toArray, List.getElem_cons_succ, List.getElem_cons_zero]
    go_simp
    have hzA : (w1.alloc (.cells #[.string ⟨#[]⟩, .slice none 0 0, .slice none 0 0] 25)).heap.size = w.heap.size + 2 + 1 := by simp [hz1]
    have hY : Blk (((w1.alloc (.cells #[.string ⟨#[]⟩, .slice none 0 0, .slice none 0 0] 25)).alloc (.cells #[.string ⟨#[]⟩, .slice none 0 0, .slice none 0 0] 25)).drew) (w.heap.size + 2) 25 #[.string ⟨#[]⟩, .slice none 0 0, .slice none 0 0] := ((Blk.fresh w1 25 #[.string ⟨#[]⟩, .slice none 0 0, .slice none 0 0] hz1.symm).alloc _).drew
    have hX : Blk (((w1.alloc (.cells #[.string ⟨#[]⟩, .slice none 0 0, .slice none 0 0] 25)).alloc (.cells #[.string ⟨#[]⟩, .slice none 0 0, .slice none 0 0] 25)).drew) (w.heap.size + 2 + 1) 25 #[.string ⟨#[]⟩, .slice none 0 0, .slice none 0 0] := (Blk.fresh _ _ _ hzA.symm).drew
    have hB3 : Below w1.heap.size w1 (((w1.alloc (.cells #[.string ⟨#[]⟩, .slice none 0 0, .slice none 0 0] 25)).alloc (.cells #[.string ⟨#[]⟩, .slice none 0 0, .slice none 0 0] 25)).drew) := ((bal (bal (Below.refl _ w1) _) _)).drew
    have hT3 := hT.kept hB3
    have hR3 := hR.kept hB3
    refine hK.out _ _ hB3 ?_
    clear hK K hzA hS0
    (try simp only [List.getElem_toArray, List.getElem_cons_succ, List.getElem_cons_zero, Act.put, List.setIfInBounds_toArray, List.set_cons_zero, List.set_cons_succ])
    generalize ((w1.alloc (.cells #[.string ⟨#[]⟩, .slice none 0 0, .slice none 0 0] 25)).alloc (.cells #[.string ⟨#[]⟩, .slice none 0 0, .slice none 0 0] 25)).drew = w2 at *
    have cX := hX.cell
    have fX := hX.frozen
    refine wpAnyH_call (i := 10) (by kernel_rfl) rfl (by kernel_rfl) fun K hK => ?_
    simp only [List.getElem_toArray, List.getElem_cons_succ, List.getElem_cons_zero]
    go_simp
    have hX4 : Blk ((((w2).setCell ⟨w.heap.size + 2 + 1, 0, none⟩ (.string m1)).setCell ⟨w.heap.size + 2 + 1, 1, none⟩ (.slice A5 n2 c5)).setCell ⟨w.heap.size + 2 + 1, 2, none⟩ (.slice A6 n3 c6)) (w.heap.size + 2 + 1) 25 #[.string m1, .slice A5 n2 c5, .slice A6 n3 c6] := (((hX).set_ 0 (.string m1)).set_ 1 (.slice A5 n2 c5)).set_ 2 (.slice A6 n3 c6)
    have hY4 := (((hY).far (p := ⟨w.heap.size + 2 + 1, 0, none⟩) (by simp <;> omega) (.string m1)).far (p := ⟨w.heap.size + 2 + 1, 1, none⟩) (by simp <;> omega) (.slice A5 n2 c5)).far (p := ⟨w.heap.size + 2 + 1, 2, none⟩) (by simp <;> omega) (.slice A6 n3 c6)
    have hT4 := (((hT3).far (p := ⟨w.heap.size + 2 + 1, 0, none⟩) (by simp <;> omega) (.string m1)).far (p := ⟨w.heap.size + 2 + 1, 1, none⟩) (by simp <;> omega) (.slice A5 n2 c5)).far (p := ⟨w.heap.size + 2 + 1, 2, none⟩) (by simp <;> omega) (.slice A6 n3 c6)
    have hR4 := (((hR3).far (p := ⟨w.heap.size + 2 + 1, 0, none⟩) (by simp <;> omega) (.string m1)).far (p := ⟨w.heap.size + 2 + 1, 1, none⟩) (by simp <;> omega) (.slice A5 n2 c5)).far (p := ⟨w.heap.size + 2 + 1, 2, none⟩) (by simp <;> omega) (.slice A6 n3 c6)
    have hB4 := (((hB3).setCell (p := ⟨w.heap.size + 2 + 1, 0, none⟩) (by simp <;> omega) (.string m1)).setCell (p := ⟨w.heap.size + 2 + 1, 1, none⟩) (by simp <;> omega) (.slice A5 n2 c5)).setCell (p := ⟨w.heap.size + 2 + 1, 2, none⟩) (by simp <;> omega) (.slice A6 n3 c6)
    refine hK.out _ _ hB4 ?_
    clear hK K hX hY hT3 hR3 hB3 cX fX
    (try simp only [List.getElem_toArray, List.getElem_cons_succ, List.getElem_cons_zero, Act.put, List.setIfInBounds_toArray, List.set_cons_zero, List.set_cons_succ])
    generalize (((w2).setCell ⟨w.heap.size + 2 + 1, 0, none⟩ (.string m1)).setCell ⟨w.heap.size + 2 + 1, 1, none⟩ (.slice A5 n2 c5)).setCell ⟨w.heap.size + 2 + 1, 2, none⟩ (.slice A6 n3 c6) = w3 at *
    have cY := hY4.cell
    have fY := hY4.frozen
    refine wpAnyH_call (i := 11) (by kernel_rfl) rfl (by kernel_rfl) fun K hK => ?_
    simp only [List.getElem_toArray, List.getElem_cons_succ, List.getElem_cons_zero]
    go_simp
    have hY5 : Blk ((((w3).setCell ⟨w.heap.size + 2, 0, none⟩ (.string m2)).setCell ⟨w.heap.size + 2, 1, none⟩ (.slice A7 n4 c7)).setCell ⟨w.heap.size + 2, 2, none⟩ (.slice A8 n5 c8)) (w.heap.size + 2) 25 #[.string m2, .slice A7 n4 c7, .slice A8 n5 c8] := (((hY4).set_ 0 (.string m2)).set_ 1 (.slice A7 n4 c7)).set_ 2 (.slice A8 n5 c8)
    have hX5 := (((hX4).far (p := ⟨w.heap.size + 2, 0, none⟩) (by simp <;> omega) (.string m2)).far (p := ⟨w.heap.size + 2, 1, none⟩) (by simp <;> omega) (.slice A7 n4 c7)).far (p := ⟨w.heap.size + 2, 2, none⟩) (by simp <;> omega) (.slice A8 n5 c8)
    have hT5 := (((hT4).far (p := ⟨w.heap.size + 2, 0, none⟩) (by simp <;> omega) (.string m2)).far (p := ⟨w.heap.size + 2, 1, none⟩) (by simp <;> omega) (.slice A7 n4 c7)).far (p := ⟨w.heap.size + 2, 2, none⟩) (by simp <;> omega) (.slice A8 n5 c8)
    have hR5 := (((hR4).far (p := ⟨w.heap.size + 2, 0, none⟩) (by simp <;> omega) (.string m2)).far (p := ⟨w.heap.size + 2, 1, none⟩) (by simp <;> omega) (.slice A7 n4 c7)).far (p := ⟨w.heap.size + 2, 2, none⟩) (by simp <;> omega) (.slice A8 n5 c8)
    have hB5 := (((hB4).setCell (p := ⟨w.heap.size + 2, 0, none⟩) (by simp <;> omega) (.string m2)).setCell (p := ⟨w.heap.size + 2, 1, none⟩) (by simp <;> omega) (.slice A7 n4 c7)).setCell (p := ⟨w.heap.size + 2, 2, none⟩) (by simp <;> omega) (.slice A8 n5 c8)
    refine hK.out _ _ hB5 ?_
    clear hK K hX4 hY4 hT4 hR4 hB4 cY fY
    (try simp only [List.getElem_toArray, List.getElem_cons_succ, List.getElem_cons_zero, Act.put, List.setIfInBounds_toArray, List.set_cons_zero, List.set_cons_succ])
    generalize (((w3).setCell ⟨w.heap.size + 2, 0, none⟩ (.string m2)).setCell ⟨w.heap.size + 2, 1, none⟩ (.slice A7 n4 c7)).setCell ⟨w.heap.size + 2, 2, none⟩ (.slice A8 n5 c8) = w4 at *
    refine wpAnyH_done (by kernel_rfl) ?_ _
    have hbW := hb.trans (hB5.mono hb.size)
    go_wp2_with fail
    have hz4 : w.heap.size + 4 ≤ w4.heap.size := by have := hX5.lt; have := hY5.lt; omega
    refine wp_region_spec 14 [31, 32, 33, 34, 35, 36, 37, 38, 39, 40, 41, 42, 43, 6] [.eq (.agg #[.string nm, .slice A1 np c1, .slice (some ⟨b2, o2, none⟩) 3 c2]), .eq (.int .u64 p1), .eq (.int .i64 p1), .eq (.agg #[.string nm, .slice A1 np c1, .slice (some ⟨b2, o2, none⟩) 3 c2]), .eq (.int .u64 p2), .eq (.int .i64 p2), .eq (.pointer (some ⟨w.heap.size, 2, none⟩)), .eq (.slice (some ⟨b2, o2, none⟩) 3 c2), .eq (.pointer (some ⟨b2, o2, none⟩)), .eq (.pointer (some ⟨b2, o2 + 2, none⟩)),
      .eq (.slice A4 n0 c4), .eq (.int .i64 n0), .eq (.agg #[.int .u64 0, .int .u64 0, .int .u64 0, .int .u64 0, .int .i64 p1, .int .i64 p2, .int .i64 n0]), BoxV w4.heap.size 39 #[.int .u64 0, .int .u64 0, .int .u64 0, .int .u64 0, .int .i64 0, .int .i64 0, .int .i64 0]] (by kernel_rfl) (by kernel_rfl) ?_ ?_
    · unfold StepS
      simp only [List.take_succ_cons, List.take_zero, fillA, fillL, List.setIfInBounds_toArray, List.set_cons_succ, List.set_cons_zero, Nat.zero_add, Nat.reduceAdd]
      refine StepsOk.cons (fun vals w' hb hd K hK => ?_) ?_
      · have cT := (hT5.kept hb).cell
        go_simp
        exact hK.out _ _ _ (Below.refl _ _) rfl (by kernel_rfl)
      refine StepsOk.cons (fun vals w' hb hd K hK => ?_) ?_
      · have d0 := hd 0 (by decide)
        simp only [List.getD_cons_zero, List.getD_cons_succ, SP.eq] at d0
        go_simp
        go_at_call 48
        refine (HVp1.out _ (hbW.trans (hb.mono hbW.size))).mono ?_
        rintro e w7 ⟨rfl, hb7⟩
        exact hK.out _ _ _ hb7 rfl (by simp only [d0, Act.put, List.setIfInBounds_toArray, List.set_cons_succ, List.set_cons_zero])
      refine StepsOk.cons (fun vals w' hb hd K hK => ?_) ?_
      · have d1 := hd 1 (by decide)
        simp only [List.getD_cons_zero, List.getD_cons_succ, SP.eq] at d1
        go_simp
        exact hK.out _ _ _ (Below.refl _ _) rfl (by simp only [d1, Act.put, List.setIfInBounds_toArray, List.set_cons_succ, List.set_cons_zero])
      refine StepsOk.cons (fun vals w' hb hd K hK => ?_) ?_
      · have cT := (hT5.kept hb).cell
        go_simp
        exact hK.out _ _ _ (Below.refl _ _) rfl (by kernel_rfl)
      refine StepsOk.cons (fun vals w' hb hd K hK => ?_) ?_
      · have d3 := hd 3 (by decide)
        simp only [List.getD_cons_zero, List.getD_cons_succ, SP.eq] at d3
        go_simp
        go_at_call 48
        refine (HVp2.out _ (hbW.trans (hb.mono hbW.size))).mono ?_
        rintro e w7 ⟨rfl, hb7⟩
        exact hK.out _ _ _ hb7 rfl (by simp only [d3, Act.put, List.setIfInBounds_toArray, List.set_cons_succ, List.set_cons_zero])
      refine StepsOk.cons (fun vals w' hb hd K hK => ?_) ?_
      · have d4 := hd 4 (by decide)
        simp only [List.getD_cons_zero, List.getD_cons_succ, SP.eq] at d4
        go_simp
        exact hK.out _ _ _ (Below.refl _ _) rfl (by simp only [d4, Act.put, List.setIfInBounds_toArray, List.set_cons_succ, List.set_cons_zero])
      refine StepsOk.cons (fun vals w' hb hd K hK => ?_) ?_
      · go_simp
        exact hK.out _ _ _ (Below.refl _ _) rfl (by kernel_rfl)
      refine StepsOk.cons (fun vals w' hb hd K hK => ?_) ?_
      · have d6 := hd 6 (by decide)
        simp only [List.getD_cons_zero, List.getD_cons_succ, SP.eq] at d6
        have cT := (hT5.kept hb).cell
        go_simp
        exact hK.out _ _ _ (Below.refl _ _) rfl (by simp only [d6, Act.put, List.setIfInBounds_toArray, List.set_cons_succ, List.set_cons_zero])
      refine StepsOk.cons (fun vals w' hb hd K hK => ?_) ?_
      · have d7 := hd 7 (by decide)
        simp only [List.getD_cons_zero, List.getD_cons_succ, SP.eq] at d7
        go_simp
        exact hK.out _ _ _ (Below.refl _ _) rfl (by simp only [d7, Act.put, List.setIfInBounds_toArray, List.set_cons_succ, List.set_cons_zero])
      refine StepsOk.cons (fun vals w' hb hd K hK => ?_) ?_
      · have d8 := hd 8 (by decide)
        simp only [List.getD_cons_zero, List.getD_cons_succ, SP.eq] at d8
        go_simp
        exact hK.out _ _ _ (Below.refl _ _) rfl (by simp only [d8, Act.put, List.setIfInBounds_toArray, List.set_cons_succ, List.set_cons_zero])
      refine StepsOk.cons (fun vals w' hb hd K hK => ?_) ?_
      · have d9 := hd 9 (by decide)
        simp only [List.getD_cons_zero, List.getD_cons_succ, SP.eq] at d9
        have x02 := HC0.out _ (hbW.trans (hb.mono hbW.size)) 2 (by decide)
        simp only [Nat.reduceMul, Nat.reduceAdd, Nat.add_zero, List.getElem?_cons_zero, List.getElem?_cons_succ] at x02
        go_simp
        exact hK.out _ _ _ (Below.refl _ _) rfl (by simp only [d9, Act.put, List.setIfInBounds_toArray, List.set_cons_succ, List.set_cons_zero])
      refine StepsOk.cons (fun vals w' hb hd K hK => ?_) ?_
      · have d10 := hd 10 (by decide)
        simp only [List.getD_cons_zero, List.getD_cons_succ, SP.eq] at d10
        go_simp
        exact hK.out _ _ _ (Below.refl _ _) rfl (by simp only [d10, Act.put, List.setIfInBounds_toArray, List.set_cons_succ, List.set_cons_zero])
      refine StepsOk.cons (fun vals w' hb hd K hK => ?_) ?_
      · have d2 := hd 2 (by decide)
        simp only [List.getD_cons_zero, List.getD_cons_succ, SP.eq] at d2
        have d5 := hd 5 (by decide)
        simp only [List.getD_cons_zero, List.getD_cons_succ, SP.eq] at d5
        have d11 := hd 11 (by decide)
        simp only [List.getD_cons_zero, List.getD_cons_succ, SP.eq] at d11
        go_simp
        exact hK.out _ _ _ (Below.refl _ _) rfl (by simp only [d2, d5, d11, Act.put, List.setIfInBounds_toArray, List.set_cons_succ, List.set_cons_zero])
      refine StepsOk.cons (fun vals w' hb hd K hK => ?_) ?_
      · go_simp
        exact hK.out _ _ _ (bal (Below.refl _ _) _) ⟨_, rfl, hb.size, Blk.new _ _ _⟩ (by kernel_rfl)
      exact StepsOk.nil
    intro vals w6 hb6 hd
    have d12 := hd 12 (by decide)
    have d13 := hd 13 (by decide)
    simp only [List.getD_cons_zero, List.getD_cons_succ, SP.eq] at d12 d13
    obtain ⟨g6, hv6, hg6, hH6⟩ := d13
    have hX6 := hX5.kept hb6
    have hY6 := hY5.kept hb6
    have hT6 := hT5.kept hb6
    have hR6 := hR5.kept hb6
    have hbW6 := hbW.trans (hb6.mono hbW.size)
    have cH := hH6.cell
    have fH := hH6.frozen
    simp only [List.drop_succ_cons, List.drop_zero, fillA, fillL, List.setIfInBounds_toArray, List.set_cons_succ, List.set_cons_zero, Nat.zero_add, Nat.reduceAdd, d12, hv6]
    generalize vals 0 = u0
    generalize vals 1 = u1
    generalize vals 2 = u2
    generalize vals 3 = u3
    generalize vals 4 = u4
    generalize vals 5 = u5
    generalize vals 6 = u6
    generalize vals 7 = u7
    generalize vals 8 = u8
    generalize vals 9 = u9
    generalize vals 10 = u10
    generalize vals 11 = u11
    clear hd d12 hv6
    have hH7 : Blk ((((((((w6).setCell ⟨g6, 0, none⟩ (.int .u64 0)).setCell ⟨g6, 1, none⟩ (.int .u64 0)).setCell ⟨g6, 2, none⟩ (.int .u64 0)).setCell ⟨g6, 3, none⟩ (.int .u64 0)).setCell ⟨g6, 4, none⟩ (.int .i64 p1)).setCell ⟨g6, 5, none⟩ (.int .i64 p2)).setCell ⟨g6, 6, none⟩ (.int .i64 n0)) g6 39 #[.int .u64 0, .int .u64 0, .int .u64 0, .int .u64 0, .int .i64 p1, .int .i64 p2, .int .i64 n0] := (((((((hH6).set_ 0 (.int .u64 0)).set_ 1 (.int .u64 0)).set_ 2 (.int .u64 0)).set_ 3 (.int .u64 0)).set_ 4 (.int .i64 p1)).set_ 5 (.int .i64 p2)).set_ 6 (.int .i64 n0)
    have hX7 := (((((((hX6).far (p := ⟨g6, 0, none⟩) (by simp <;> omega) (.int .u64 0)).far (p := ⟨g6, 1, none⟩) (by simp <;> omega) (.int .u64 0)).far (p := ⟨g6, 2, none⟩) (by simp <;> omega) (.int .u64 0)).far (p := ⟨g6, 3, none⟩) (by simp <;> omega) (.int .u64 0)).far (p := ⟨g6, 4, none⟩) (by simp <;> omega) (.int .i64 p1)).far (p := ⟨g6, 5, none⟩) (by simp <;> omega) (.int .i64 p2)).far (p := ⟨g6, 6, none⟩) (by simp <;> omega) (.int .i64 n0)
    have hY7 := (((((((hY6).far (p := ⟨g6, 0, none⟩) (by simp <;> omega) (.int .u64 0)).far (p := ⟨g6, 1, none⟩) (by simp <;> omega) (.int .u64 0)).far (p := ⟨g6, 2, none⟩) (by simp <;> omega) (.int .u64 0)).far (p := ⟨g6, 3, none⟩) (by simp <;> omega) (.int .u64 0)).far (p := ⟨g6, 4, none⟩) (by simp <;> omega) (.int .i64 p1)).far (p := ⟨g6, 5, none⟩) (by simp <;> omega) (.int .i64 p2)).far (p := ⟨g6, 6, none⟩) (by simp <;> omega) (.int .i64 n0)
    have hT7 := (((((((hT6).far (p := ⟨g6, 0, none⟩) (by simp <;> omega) (.int .u64 0)).far (p := ⟨g6, 1, none⟩) (by simp <;> omega) (.int .u64 0)).far (p := ⟨g6, 2, none⟩) (by simp <;> omega) (.int .u64 0)).far (p := ⟨g6, 3, none⟩) (by simp <;> omega) (.int .u64 0)).far (p := ⟨g6, 4, none⟩) (by simp <;> omega) (.int .i64 p1)).far (p := ⟨g6, 5, none⟩) (by simp <;> omega) (.int .i64 p2)).far (p := ⟨g6, 6, none⟩) (by simp <;> omega) (.int .i64 n0)
    have hR7 := (((((((hR6).far (p := ⟨g6, 0, none⟩) (by simp <;> omega) (.int .u64 0)).far (p := ⟨g6, 1, none⟩) (by simp <;> omega) (.int .u64 0)).far (p := ⟨g6, 2, none⟩) (by simp <;> omega) (.int .u64 0)).far (p := ⟨g6, 3, none⟩) (by simp <;> omega) (.int .u64 0)).far (p := ⟨g6, 4, none⟩) (by simp <;> omega) (.int .i64 p1)).far (p := ⟨g6, 5, none⟩) (by simp <;> omega) (.int .i64 p2)).far (p := ⟨g6, 6, none⟩) (by simp <;> omega) (.int .i64 n0)
    have hbW7 := (((((((hbW6).setCell (p := ⟨g6, 0, none⟩) (by simp <;> omega) (.int .u64 0)).setCell (p := ⟨g6, 1, none⟩) (by simp <;> omega) (.int .u64 0)).setCell (p := ⟨g6, 2, none⟩) (by simp <;> omega) (.int .u64 0)).setCell (p := ⟨g6, 3, none⟩) (by simp <;> omega) (.int .u64 0)).setCell (p := ⟨g6, 4, none⟩) (by simp <;> omega) (.int .i64 p1)).setCell (p := ⟨g6, 5, none⟩) (by simp <;> omega) (.int .i64 p2)).setCell (p := ⟨g6, 6, none⟩) (by simp <;> omega) (.int .i64 n0)
    clear hX5 hY5 hT5 hR5 hbW hb6 hH6 hX6 hY6 hT6 hR6 hbW6
    go_wp2_with fail
    clear cH fH
    generalize (((((((w6).setCell ⟨g6, 0, none⟩ (.int .u64 0)).setCell ⟨g6, 1, none⟩ (.int .u64 0)).setCell ⟨g6, 2, none⟩ (.int .u64 0)).setCell ⟨g6, 3, none⟩ (.int .u64 0)).setCell ⟨g6, 4, none⟩ (.int .i64 p1)).setCell ⟨g6, 5, none⟩ (.int .i64 p2)).setCell ⟨g6, 6, none⟩ (.int .i64 n0) = w7 at *
    refine wp_region_spec 5 [44, 45, 46, 47, 48] [.eq (.agg #[.string m1, .slice A5 n2 c5, .slice A6 n3 c6]), .eq (.int .u64 r0), .eq (.agg #[.string m1, .slice A5 n2 c5, .slice A6 n3 c6]), .eq (.int .u64 r1), .eq (.agg #[.int .u64 r0, .int .u64 r1])] (by kernel_rfl) (by kernel_rfl) ?_ ?_
    · unfold StepS
      simp only [List.take_succ_cons, List.take_zero, fillA, fillL, List.setIfInBounds_toArray, List.set_cons_succ, List.set_cons_zero, Nat.zero_add, Nat.reduceAdd]
      refine StepsOk.cons (fun vals w' hb hd K hK => ?_) ?_
      · have cT := (hX7.kept hb).cell
        go_simp
        exact hK.out _ _ _ (Below.refl _ _) rfl (by kernel_rfl)
      refine StepsOk.cons (fun vals w' hb hd K hK => ?_) ?_
      · have d0 := hd 0 (by decide)
        simp only [List.getD_cons_zero, List.getD_cons_succ, SP.eq] at d0
        go_simp
        go_at_call 48
        refine (HVr0.out _ (hbW7.trans (hb.mono hbW7.size))).mono ?_
        rintro e w7 ⟨rfl, hb7⟩
        exact hK.out _ _ _ hb7 rfl (by simp only [d0, Act.put, List.setIfInBounds_toArray, List.set_cons_succ, List.set_cons_zero])
      refine StepsOk.cons (fun vals w' hb hd K hK => ?_) ?_
      · have cT := (hX7.kept hb).cell
        go_simp
        exact hK.out _ _ _ (Below.refl _ _) rfl (by kernel_rfl)
      refine StepsOk.cons (fun vals w' hb hd K hK => ?_) ?_
      · have d2 := hd 2 (by decide)
        simp only [List.getD_cons_zero, List.getD_cons_succ, SP.eq] at d2
        go_simp
        go_at_call 48
        refine (HVr1.out _ (hbW7.trans (hb.mono hbW7.size))).mono ?_
        rintro e w7 ⟨rfl, hb7⟩
        exact hK.out _ _ _ hb7 rfl (by simp only [d2, Act.put, List.setIfInBounds_toArray, List.set_cons_succ, List.set_cons_zero])
      refine StepsOk.cons (fun vals w' hb hd K hK => ?_) ?_
      · have d1 := hd 1 (by decide)
        simp only [List.getD_cons_zero, List.getD_cons_succ, SP.eq] at d1
        have d3 := hd 3 (by decide)
        simp only [List.getD_cons_zero, List.getD_cons_succ, SP.eq] at d3
        go_simp
        exact hK.out _ _ _ (Below.refl _ _) rfl (by simp only [d1, d3, Act.put, List.setIfInBounds_toArray, List.set_cons_succ, List.set_cons_zero])
      exact StepsOk.nil
    intro vals w8 hb8 hd
    have d4 := hd 4 (by decide)
    simp only [List.getD_cons_zero, List.getD_cons_succ, SP.eq] at d4
    have hH8 := hH7.kept hb8
    have hX8 := hX7.kept hb8
    have hY8 := hY7.kept hb8
    have hT8 := hT7.kept hb8
    have hR8 := hR7.kept hb8
    have hbW8 := hbW7.trans (hb8.mono hbW7.size)
    have cH := hH8.cell
    have fH := hH8.frozen
    simp only [List.drop_succ_cons, List.drop_zero, fillA, fillL, List.setIfInBounds_toArray, List.set_cons_succ, List.set_cons_zero, Nat.zero_add, Nat.reduceAdd, d4]
    generalize vals 0 = u0
    generalize vals 1 = u1
    generalize vals 2 = u2
    generalize vals 3 = u3
    clear hd d4
    have hH9 : Blk (((w8).setCell ⟨g6, 0, none⟩ (.int .u64 r0)).setCell ⟨g6, 1, none⟩ (.int .u64 r1)) g6 39 #[.int .u64 r0, .int .u64 r1, .int .u64 0, .int .u64 0, .int .i64 p1, .int .i64 p2, .int .i64 n0] := ((hH8).set_ 0 (.int .u64 r0)).set_ 1 (.int .u64 r1)
    have hX9 := ((hX8).far (p := ⟨g6, 0, none⟩) (by simp <;> omega) (.int .u64 r0)).far (p := ⟨g6, 1, none⟩) (by simp <;> omega) (.int .u64 r1)
    have hY9 := ((hY8).far (p := ⟨g6, 0, none⟩) (by simp <;> omega) (.int .u64 r0)).far (p := ⟨g6, 1, none⟩) (by simp <;> omega) (.int .u64 r1)
    have hT9 := ((hT8).far (p := ⟨g6, 0, none⟩) (by simp <;> omega) (.int .u64 r0)).far (p := ⟨g6, 1, none⟩) (by simp <;> omega) (.int .u64 r1)
    have hR9 := ((hR8).far (p := ⟨g6, 0, none⟩) (by simp <;> omega) (.int .u64 r0)).far (p := ⟨g6, 1, none⟩) (by simp <;> omega) (.int .u64 r1)
    have hbW9 := ((hbW8).setCell (p := ⟨g6, 0, none⟩) (by simp <;> omega) (.int .u64 r0)).setCell (p := ⟨g6, 1, none⟩) (by simp <;> omega) (.int .u64 r1)
    clear hH7 hX7 hY7 hT7 hR7 hbW7 hb8 hH8 hX8 hY8 hT8 hR8 hbW8
    go_wp2_with fail
    clear cH fH
    generalize ((w8).setCell ⟨g6, 0, none⟩ (.int .u64 r0)).setCell ⟨g6, 1, none⟩ (.int .u64 r1) = w9 at *
    refine wp_region_spec 5 [50, 51, 52, 53, 54] [.eq (.agg #[.string m2, .slice A7 n4 c7, .slice A8 n5 c8]), .eq (.int .u64 s0), .eq (.agg #[.string m2, .slice A7 n4 c7, .slice A8 n5 c8]), .eq (.int .u64 s1), .eq (.agg #[.int .u64 s0, .int .u64 s1])] (by kernel_rfl) (by kernel_rfl) ?_ ?_
    · unfold StepS
      simp only [List.take_succ_cons, List.take_zero, fillA, fillL, List.setIfInBounds_toArray, List.set_cons_succ, List.set_cons_zero, Nat.zero_add, Nat.reduceAdd]
      refine StepsOk.cons (fun vals w' hb hd K hK => ?_) ?_
      · have cT := (hY9.kept hb).cell
        go_simp
        exact hK.out _ _ _ (Below.refl _ _) rfl (by kernel_rfl)
      refine StepsOk.cons (fun vals w' hb hd K hK => ?_) ?_
      · have d0 := hd 0 (by decide)
        simp only [List.getD_cons_zero, List.getD_cons_succ, SP.eq] at d0
        go_simp
        go_at_call 48
        refine (HVs0.out _ (hbW9.trans (hb.mono hbW9.size))).mono ?_
        rintro e w7 ⟨rfl, hb7⟩
        exact hK.out _ _ _ hb7 rfl (by simp only [d0, Act.put, List.setIfInBounds_toArray, List.set_cons_succ, List.set_cons_zero])
      refine StepsOk.cons (fun vals w' hb hd K hK => ?_) ?_
      · have cT := (hY9.kept hb).cell
        go_simp
        exact hK.out _ _ _ (Below.refl _ _) rfl (by kernel_rfl)
      refine StepsOk.cons (fun vals w' hb hd K hK => ?_) ?_
      · have d2 := hd 2 (by decide)
        simp only [List.getD_cons_zero, List.getD_cons_succ, SP.eq] at d2
        go_simp
        go_at_call 48
        refine (HVs1.out _ (hbW9.trans (hb.mono hbW9.size))).mono ?_
        rintro e w7 ⟨rfl, hb7⟩
        exact hK.out _ _ _ hb7 rfl (by simp only [d2, Act.put, List.setIfInBounds_toArray, List.set_cons_succ, List.set_cons_zero])
      refine StepsOk.cons (fun vals w' hb hd K hK => ?_) ?_
      · have d1 := hd 1 (by decide)
        simp only [List.getD_cons_zero, List.getD_cons_succ, SP.eq] at d1
        have d3 := hd 3 (by decide)
        simp only [List.getD_cons_zero, List.getD_cons_succ, SP.eq] at d3
        go_simp
        exact hK.out _ _ _ (Below.refl _ _) rfl (by simp only [d1, d3, Act.put, List.setIfInBounds_toArray, List.set_cons_succ, List.set_cons_zero])
      exact StepsOk.nil
    intro vals w10 hb10 hd
    have d4 := hd 4 (by decide)
    simp only [List.getD_cons_zero, List.getD_cons_succ, SP.eq] at d4
    have hH10 := hH9.kept hb10
    have hX10 := hX9.kept hb10
    have hY10 := hY9.kept hb10
    have hT10 := hT9.kept hb10
    have hR10 := hR9.kept hb10
    have hbW10 := hbW9.trans (hb10.mono hbW9.size)
    have cH := hH10.cell
    have fH := hH10.frozen
    simp only [List.drop_succ_cons, List.drop_zero, fillA, fillL, List.setIfInBounds_toArray, List.set_cons_succ, List.set_cons_zero, Nat.zero_add, Nat.reduceAdd, d4]
    generalize vals 0 = u0
    generalize vals 1 = u1
    generalize vals 2 = u2
    generalize vals 3 = u3
    clear hd d4
    have hH11 : Blk (((w10).setCell ⟨g6, 2, none⟩ (.int .u64 s0)).setCell ⟨g6, 3, none⟩ (.int .u64 s1)) g6 39 #[.int .u64 r0, .int .u64 r1, .int .u64 s0, .int .u64 s1, .int .i64 p1, .int .i64 p2, .int .i64 n0] := ((hH10).set_ 2 (.int .u64 s0)).set_ 3 (.int .u64 s1)
    have hX11 := ((hX10).far (p := ⟨g6, 2, none⟩) (by simp <;> omega) (.int .u64 s0)).far (p := ⟨g6, 3, none⟩) (by simp <;> omega) (.int .u64 s1)
    have hY11 := ((hY10).far (p := ⟨g6, 2, none⟩) (by simp <;> omega) (.int .u64 s0)).far (p := ⟨g6, 3, none⟩) (by simp <;> omega) (.int .u64 s1)
    have hT11 := ((hT10).far (p := ⟨g6, 2, none⟩) (by simp <;> omega) (.int .u64 s0)).far (p := ⟨g6, 3, none⟩) (by simp <;> omega) (.int .u64 s1)
    have hR11 := ((hR10).far (p := ⟨g6, 2, none⟩) (by simp <;> omega) (.int .u64 s0)).far (p := ⟨g6, 3, none⟩) (by simp <;> omega) (.int .u64 s1)
    have hbW11 := ((hbW10).setCell (p := ⟨g6, 2, none⟩) (by simp <;> omega) (.int .u64 s0)).setCell (p := ⟨g6, 3, none⟩) (by simp <;> omega) (.int .u64 s1)
    clear hH9 hX9 hY9 hT9 hR9 hbW9 hb10 hH10 hX10 hY10 hT10 hR10 hbW10
    go_wp2_with fail
    clear cH fH
    generalize ((w10).setCell ⟨g6, 2, none⟩ (.int .u64 s0)).setCell ⟨g6, 3, none⟩ (.int .u64 s1) = w11 at *
    have cH := hH11.cell
    rcases hfit : fitB ⟨r0, r1, s0, s1, p1, p2, n0⟩ with _ | _
    · have hno : BRes t zeroB 282 := .inr ⟨rfl, rfl, fun b hb => by
        have h1 := HIs.out b hb
        have h2 := hb.2.1
        rw [h1, hfit] at h2
        cases h2⟩
      have HN := Lib.hid (fun W => rhost_no ⟨r0, r1, s0, s1, p1, p2, n0⟩ hokF hfit W)
      simp only [encBd] at HN
      clear hX11 hY11
      go_upto_region 8 with (go_at_call 30; refine (HN.out _).mono ?_; rintro e w12 ⟨rfl, hb12⟩; have hR12 := hR11.kept hb12; have hbW12 := hbW11.trans (hb12.mono hbW11.size))
      have hRe := hR12.alloc (.cells #[.string ⟨#[]⟩, .slice none 0 0, .slice none 0 0] 25)
      have hbe := bal' hbW12 (.cells #[.string ⟨#[]⟩, .slice none 0 0, .slice none 0 0] 25) hbW12.size
      generalize w12.alloc (.cells #[.string ⟨#[]⟩, .slice none 0 0, .slice none 0 0] 25) = w13 at *
      clear cH hR11 hH11 hbW11 hR12 hbW12 hb12
      have cR := hRe.cell
      have fR := hRe.frozen
      have cZ := (((((((hRe.set_ 0 (.int .u64 0)).set_ 1 (.int .u64 0)).set_ 2 (.int .u64 0)).set_ 3 (.int .u64 0)).set_ 4 (.int .i64 0)).set_ 5 (.int .i64 0)).set_ 6 (.int .i64 0)).cell
      have hbz := (((((((hbe.setCell (p := ⟨w.heap.size + 1, 0, none⟩) (by simp) (.int .u64 0)).setCell (p := ⟨w.heap.size + 1, 1, none⟩) (by simp) (.int .u64 0)).setCell (p := ⟨w.heap.size + 1, 2, none⟩) (by simp) (.int .u64 0)).setCell (p := ⟨w.heap.size + 1, 3, none⟩) (by simp) (.int .u64 0)).setCell (p := ⟨w.heap.size + 1, 4, none⟩) (by simp) (.int .i64 0)).setCell (p := ⟨w.heap.size + 1, 5, none⟩) (by simp) (.int .i64 0)).setCell (p := ⟨w.heap.size + 1, 6, none⟩) (by simp) (.int .i64 0))
      go_wp2_with fail
      exact bodyPost_ret (v := .tuple #[.agg (encBd zeroB).toArray, .int .i64 282]) (by simp [results, Try.results23, go_sem, cZ, encBd, zeroB]) rfl ⟨zeroB, 282, rfl, hno, hbz⟩
    · have HN := Lib.hid (fun W => HTr.out ⟨r0, r1, s0, s1, p1, p2, n0⟩ hokF hfit W)
      simp only [encBd] at HN
      clear hX11 hY11
      go_upto_region 8 with (go_at_call 30; refine (HN.out _).mono ?_; rintro e w12 ⟨v8, rfl, htp, hb12⟩; obtain ⟨B3, d3, B4, d4, rfl, k8, htx⟩ := htp.cells; generalize hy1 : (hostT ⟨r0, r1, s0, s1, p1, p2, n0⟩).nm = y1 at htx; generalize hy2 : (hostT ⟨r0, r1, s0, s1, p1, p2, n0⟩).ps.length = y2 at htx; generalize hy3 : (hostT ⟨r0, r1, s0, s1, p1, p2, n0⟩).ks.length = y3 at htx; have hR12 := hR11.kept hb12; have hH12 := hH11.kept hb12; have hT12 := hT11.kept hb12; have hbW12 := hbW11.trans (hb12.mono hbW11.size))
      have hXe := Blk.new w12 25 #[.string y1, .slice B3 y2 d3, .slice B4 y3 d4]
      have htx := htx.kept (bal (Below.refl _ _) (.cells #[.string y1, .slice B3 y2 d3, .slice B4 y3 d4] 25))
      have hRe := hR12.alloc (.cells #[.string y1, .slice B3 y2 d3, .slice B4 y3 d4] 25)
      have hGe := hH12.alloc (.cells #[.string y1, .slice B3 y2 d3, .slice B4 y3 d4] 25)
      have hTe := hT12.alloc (.cells #[.string y1, .slice B3 y2 d3, .slice B4 y3 d4] 25)
      have hbe := bal' hbW12 (.cells #[.string y1, .slice B3 y2 d3, .slice B4 y3 d4] 25) hbW12.size
      generalize w12.alloc (.cells #[.string y1, .slice B3 y2 d3, .slice B4 y3 d4] 25) = w13 at *
      clear cH hR11 hH11 hT11 hbW11 hR12 hH12 hT12 hbW12 hb12
      have cT := hTe.cell
      have cX := hXe.cell
      have HS := Lib.hid (fun W (hW : Below w13.heap.size w13 W) => refSame_any _ _ (hostT ⟨r0, r1, s0, s1, p1, p2, n0⟩) t _ _ W (htx.ok.kept hW) ((HT.out _ (hbe.trans (hW.mono hbe.size)))))
      rcases heq : eqv (hostT ⟨r0, r1, s0, s1, p1, p2, n0⟩) t with _ | _
      · rw [heq] at HS
        have hno : BRes t zeroB 282 := .inr ⟨rfl, rfl, fun b hb => by
          have h1 := HIs.out b hb
          have h2 := hb.2.2
          rw [h1] at h2
          rw [eqv_t h2] at heq
          cases heq⟩
        go_upto_region 9 with (go_at_call 20; refine (HS.out _ (Below.refl _ _)).mono ?_; rintro e w14 ⟨rfl, hb14⟩)
        have hRe := hRe.kept hb14
        have hbe := hbe.trans (hb14.mono hbe.size)
        clear cT cX
        have cR := hRe.cell
        have fR := hRe.frozen
        have cZ := (((((((hRe.set_ 0 (.int .u64 0)).set_ 1 (.int .u64 0)).set_ 2 (.int .u64 0)).set_ 3 (.int .u64 0)).set_ 4 (.int .i64 0)).set_ 5 (.int .i64 0)).set_ 6 (.int .i64 0)).cell
        have hbz := (((((((hbe.setCell (p := ⟨w.heap.size + 1, 0, none⟩) (by simp) (.int .u64 0)).setCell (p := ⟨w.heap.size + 1, 1, none⟩) (by simp) (.int .u64 0)).setCell (p := ⟨w.heap.size + 1, 2, none⟩) (by simp) (.int .u64 0)).setCell (p := ⟨w.heap.size + 1, 3, none⟩) (by simp) (.int .u64 0)).setCell (p := ⟨w.heap.size + 1, 4, none⟩) (by simp) (.int .i64 0)).setCell (p := ⟨w.heap.size + 1, 5, none⟩) (by simp) (.int .i64 0)).setCell (p := ⟨w.heap.size + 1, 6, none⟩) (by simp) (.int .i64 0))
        go_wp2_with fail
        exact bodyPost_ret (v := .tuple #[.agg (encBd zeroB).toArray, .int .i64 282]) (by simp [results, Try.results23, go_sem, cZ, encBd, zeroB]) rfl ⟨zeroB, 282, rfl, hno, hbz⟩
      · rw [heq] at HS
        have hyes : BRes t ⟨r0, r1, s0, s1, p1, p2, n0⟩ 0 := .inl ⟨rfl, hokF, hfit, by
          apply Classical.byContradiction
          intro hne
          rw [eqv_f hne] at heq
          cases heq⟩
        go_upto_region 10 with (go_at_call 20; refine (HS.out _ (Below.refl _ _)).mono ?_; rintro e w14 ⟨rfl, hb14⟩)
        have hRe := hRe.kept hb14
        have hGe := hGe.kept hb14
        have hbe := hbe.trans (hb14.mono hbe.size)
        clear cT cX
        have cG := hGe.cell
        have cR := hRe.cell
        have fR := hRe.frozen
        have cZ := (((((((hRe.set_ 0 (.int .u64 r0)).set_ 1 (.int .u64 r1)).set_ 2 (.int .u64 s0)).set_ 3 (.int .u64 s1)).set_ 4 (.int .i64 p1)).set_ 5 (.int .i64 p2)).set_ 6 (.int .i64 n0)).cell
        have hbz := (((((((hbe.setCell (p := ⟨w.heap.size + 1, 0, none⟩) (by simp) (.int .u64 r0)).setCell (p := ⟨w.heap.size + 1, 1, none⟩) (by simp) (.int .u64 r1)).setCell (p := ⟨w.heap.size + 1, 2, none⟩) (by simp) (.int .u64 s0)).setCell (p := ⟨w.heap.size + 1, 3, none⟩) (by simp) (.int .u64 s1)).setCell (p := ⟨w.heap.size + 1, 4, none⟩) (by simp) (.int .i64 p1)).setCell (p := ⟨w.heap.size + 1, 5, none⟩) (by simp) (.int .i64 p2)).setCell (p := ⟨w.heap.size + 1, 6, none⟩) (by simp) (.int .i64 n0))
        go_wp2_with fail
        exact bodyPost_ret (v := .tuple #[.agg (encBd ⟨r0, r1, s0, s1, p1, p2, n0⟩).toArray, .int .i64 0]) (by simp [results, Try.results23, go_sem, cZ, encBd]) rfl ⟨⟨r0, r1, s0, s1, p1, p2, n0⟩, 0, rfl, hyes, hbz⟩
end Go.Proofs.Ytnkpaockginooaa
