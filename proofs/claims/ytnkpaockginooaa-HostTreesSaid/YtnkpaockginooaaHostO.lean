/- The tree of any board, or why there is none; its bytes: the law HostTrees walked. -/
import Derived.Test.YtnkpaockginooaaHostN
namespace Go.Proofs.Ytnkpaockginooaa
set_option linter.unusedVariables false
set_option linter.unusedSimpArgs false
open Go.RowKit Go.Sort Go.ChangeShapes Go.WideShapes
set_option maxRecDepth 100000 in
set_option maxHeartbeats 4000000 in
theorem hostTrees_any (x : Bd) (hx : BdOk x) (w : World) : Calls Try.prog 10 #[.agg (encBd x).toArray] w fun e w' => e = .returned (.bool true) ∧ Below w.heap.size w w' := by
  have HTr := Lib.hid (fun W => htree_all x hx W)
  have HRt := Lib.hid (fun W => rtree_all x hx W)
  have HBl := Lib.hid (fun W => hblob_any x hx W)
  have hB := Blk.new w 39 (encBd x).toArray
  have HbB := Lib.hid (bal (Below.refl w.heap.size w) (.cells (encBd x).toArray 39))
  obtain ⟨T, hT⟩ : ∃ T, hTr x = T := ⟨_, rfl⟩
  obtain ⟨l, hl⟩ : ∃ l, (hBlob x).1 = l := ⟨_, rfl⟩
  obtain ⟨y, hy⟩ : ∃ y, (hBlob x).2 = y := ⟨_, rfl⟩
  obtain ⟨n, hn⟩ : ∃ n, l.length = n := ⟨_, rfl⟩
  unfold BlobP at HBl
  rw [hl, hy, hn] at HBl
  have HN := Lib.hid hn
  have hsame : eqv T T = true := eqv_t rfl
  simp only [encBd] at HTr HRt HBl hB HbB ⊢
  rw [hT] at HTr HRt
  rcases hf : fitB x with _ | _
  · have e2 : hErr x = 282 := by unfold hErr; rw [hf]; rfl
    have hbl : hBlob x = ([], 282) := by unfold hBlob; rw [hf]; rfl
    rw [e2] at HTr HRt
    rw [hbl] at hl hy
    simp only at hl hy
    subst hl
    subst hy
    obtain rfl : n = 0 := by simpa using hn.symm
    clear hn e2 hbl hf hT
    go_enter Try.func10, Try.ntmps10
    have hcn : ∀ W : World, (convert 28 9 (.slice none 0 0)).run Try.prog W = .ok (.string (strOfNums [])) W := fun W => conv_str (w := W) (B := 0) (n := 0) (l := []) (Rd.nil) rfl 0
    go_wp2_with (first
      | (go_at_call 21; refine (awake32_any _).mono ?_; rintro e w1 ⟨rfl, hb1⟩; have hB1 := hB.kept hb1; have hbW1 := HbB.out.trans (hb1.mono HbB.out.size); have cB1 := hB1.cell; clear hb1)
      | (go_at_call 29; refine (HTr.out _).mono ?_; rintro e w2 ⟨sn, A1, n1, c1, A2, n2, c2, k1, rfl, hT2, hL, hb2⟩; have hB2 := (hB1.kept hb2).alloc (.cells #[.string sn, .slice A1 n1 c1, .slice A2 n2 c2] 25); have cB2 := hB2.cell; have hx2 := bal (Below.refl w2.heap.size w2) (.cells #[.string sn, .slice A1 n1 c1, .slice A2 n2 c2] 25); have hbW2 := (hbW1.trans (hb2.mono hbW1.size)).trans (hx2.mono (hbW1.trans (hb2.mono hbW1.size)).size); have hX2 := Blk.new w2 25 #[.string sn, .slice A1 n1 c1, .slice A2 n2 c2]; have hT2x := hT2.kept hx2; clear cB1 hT2 hb2 hx2 hbW1 hB1)
      | (go_at_call 30; refine (HRt.out _).mono ?_; rintro e w3 ⟨sm, D1, m1, d1, D2, m2, d2, k2, rfl, hT3, hL3, hb3⟩; have hB3 := (hB2.kept hb3).alloc (.cells #[.string sm, .slice D1 m1 d1, .slice D2 m2 d2] 25); have cB3 := hB3.cell; have hx3 := bal (Below.refl w3.heap.size w3) (.cells #[.string sm, .slice D1 m1 d1, .slice D2 m2 d2] 25); have hb3x := hb3.trans (hx3.mono hb3.size); have hbW3 := hbW2.trans (hb3x.mono hbW2.size); have hY3 := Blk.new w3 25 #[.string sm, .slice D1 m1 d1, .slice D2 m2 d2]; have hX3 := hX2.kept hb3x; have hT3x := hT3.kept hx3; have hT2y := hT2x.kept hb3x; clear cB2 hT3 hb3 hx3 hbW2 hB2 hX2 hT2x hb3x)
      | (go_at_call 31; refine (HBl.out _).mono ?_; rintro e w4 ⟨A4, c4, rfl, hown4, hb4⟩; have hbW4 := hbW3.trans (hb4.mono hbW3.size); have hX4 := hX3.kept hb4; have hY4 := hY3.kept hb4; have hT4 := hT2y.kept hb4; have hU4 := hT3x.kept hb4; have hr4 := Rd.of_own hown4; have cX4 := hX4.cell; have cY4 := hY4.cell; have HRP := Lib.hid (rput_any k2 _ _ w4 hU4 hL3); have s4 := conv_str hr4 HN.out c4; have HS := Lib.hid (refSame_any k1 k2 _ _ _ _ w4 hT4 hU4); clear cB3 hB3 hX3 hY3 hT2y hT3x hown4 hbW3 hb4)
      | (go_at_call 20; refine HS.out.mono ?_; rintro e w5 ⟨rfl, hb5⟩; have s5 := conv_str ((hr4.below hb5).more hb5.size) HN.out c4))
    go_ret
    exact ⟨by simp [hsame], hbW4.trans (hb5.mono hbW4.size)⟩
  · have e2 : hErr x = 0 := by unfold hErr; rw [hf]; rfl
    have hbl : putT T = (l, y) := by
      have h1 : hBlob x = putT (hostT x) := by unfold hBlob; rw [hf]; rfl
      have h2 : hTr x = hostT x := by unfold hTr; rw [hf]; rfl
      rw [← hT, h2, ← h1, ← hl, ← hy]
    have HPT := Lib.hid hbl
    rw [e2] at HTr HRt
    clear hn e2 hbl hf hT hl hy
    go_enter Try.func10, Try.ntmps10
    go_wp2_with (first
      | (go_at_call 21; refine (awake32_any _).mono ?_; rintro e w1 ⟨rfl, hb1⟩; have hB1 := hB.kept hb1; have hbW1 := HbB.out.trans (hb1.mono HbB.out.size); have cB1 := hB1.cell; clear hb1)
      | (go_at_call 29; refine (HTr.out _).mono ?_; rintro e w2 ⟨sn, A1, n1, c1, A2, n2, c2, k1, rfl, hT2, hL, hb2⟩; have hB2 := (hB1.kept hb2).alloc (.cells #[.string sn, .slice A1 n1 c1, .slice A2 n2 c2] 25); have cB2 := hB2.cell; have hx2 := bal (Below.refl w2.heap.size w2) (.cells #[.string sn, .slice A1 n1 c1, .slice A2 n2 c2] 25); have hbW2 := (hbW1.trans (hb2.mono hbW1.size)).trans (hx2.mono (hbW1.trans (hb2.mono hbW1.size)).size); have hX2 := Blk.new w2 25 #[.string sn, .slice A1 n1 c1, .slice A2 n2 c2]; have hT2x := hT2.kept hx2; clear cB1 hT2 hb2 hx2 hbW1 hB1)
      | (go_at_call 30; refine (HRt.out _).mono ?_; rintro e w3 ⟨sm, D1, m1, d1, D2, m2, d2, k2, rfl, hT3, hL3, hb3⟩; have hB3 := (hB2.kept hb3).alloc (.cells #[.string sm, .slice D1 m1 d1, .slice D2 m2 d2] 25); have cB3 := hB3.cell; have hx3 := bal (Below.refl w3.heap.size w3) (.cells #[.string sm, .slice D1 m1 d1, .slice D2 m2 d2] 25); have hb3x := hb3.trans (hx3.mono hb3.size); have hbW3 := hbW2.trans (hb3x.mono hbW2.size); have hY3 := Blk.new w3 25 #[.string sm, .slice D1 m1 d1, .slice D2 m2 d2]; have hX3 := hX2.kept hb3x; have hT3x := hT3.kept hx3; have hT2y := hT2x.kept hb3x; clear cB2 hT3 hb3 hx3 hbW2 hB2 hX2 hT2x hb3x)
      | (go_at_call 31; refine (HBl.out _).mono ?_; rintro e w4 ⟨A4, c4, rfl, hown4, hb4⟩; have hbW4 := hbW3.trans (hb4.mono hbW3.size); have hX4 := hX3.kept hb4; have hY4 := hY3.kept hb4; have hT4 := hT2y.kept hb4; have hU4 := hT3x.kept hb4; have hr4 := Rd.of_own hown4; have cX4 := hX4.cell; have cY4 := hY4.cell; have HRP := Lib.hid (rput_any k2 _ _ w4 hU4 hL3); have s4 := conv_str hr4 HN.out c4; have HS := Lib.hid (refSame_any k1 k2 _ _ _ _ w4 hT4 hU4); clear cB3 hB3 hX3 hY3 hT2y hT3x hown4 hbW3 hb4)
      | (go_at_call 16; refine HRP.out.mono ?_; rintro e w5 ⟨A5, c5, rfl, hown5, hb5⟩; rw [HPT.out] at hown5 ⊢; simp only [HN.out] at hown5 ⊢; have hX5 := hX4.kept hb5; have hY5 := hY4.kept hb5; have hT5 := hT4.kept hb5; have hU5 := hU4.kept hb5; have hr5 := Rd.of_own hown5; have hr4x := (hr4.below hb5).more hb5.size; have HS5 := Lib.hid (refSame_any k1 k2 _ _ _ _ w5 hT5 hU5); have hbW5 := hbW4.trans (hb5.mono hbW4.size); have cX5 := hX5.cell; have cY5 := hY5.cell; clear cX4 cY4 HS hX4 hY4 hT4 hU4 hr4 s4 hown5 hb5 hbW4)
      | (go_at_call 20; refine HS5.out.mono ?_; rintro e w6 ⟨rfl, hb6⟩; have s6 := conv_str ((hr4x.below hb6).more hb6.size) HN.out c4; have s7 := conv_str ((hr5.below hb6).more hb6.size) HN.out c5))
    go_ret
    exact ⟨by simp [hsame], hbW5.trans (hb6.mono hbW5.size)⟩
end Go.Proofs.Ytnkpaockginooaa
