/- Chapter 14: the document's Put whole; walked. -/
import Derived.Test.YtmhbpfclfffgkaaCfDg
import Derived.Test.YtmhbpfclfffgkaaCfWd
namespace Go.Proofs.Ytmhbpfclfffgkaa
set_option linter.unusedVariables false
set_option linter.unusedSimpArgs false
open Go.RowKit Go.Sort

/-- The document's writer on its way, a configuration's box beside it. -/
structure DPr (B gc gw K : Nat) (C : Array Value) (bs : List Int) (e : Int) (w0 w : World) : Prop where
  st : DW B gw K bs e w
  bc : Blk w gc 28 C
  wrt : Wrt B gw w0 w
  ne : gc ≠ gw
  le : B ≤ w.heap.size
section
variable {B gc gw K K' : Nat} {C : Array Value} {bs bs' : List Int} {e e' : Int} {w0 w w' : World}
theorem DPr.below (h : DPr B gc gw K C bs e w0 w) (hb : Below w.heap.size w w') : DPr B gc gw K C bs e w0 w' := ⟨h.st.below hb, h.bc.kept hb, h.wrt.trans (Wrt.of_below hb h.le), h.ne, Nat.le_trans h.le hb.size⟩
theorem DPr.step (h : DPr B gc gw K C bs e w0 w) (hs : DW B gw K' bs' e' w') (hw : Wrt B gw w w') : DPr B gc gw K' C bs' e' w0 w' := ⟨hs, h.bc.wrt hw (by decide) h.ne, h.wrt.trans hw, h.ne, Nat.le_trans h.le hw.size⟩
theorem DPr.mono (h : DPr B gc gw K C bs e w0 w) (hK : K ≤ K') (hb : e = 0 → bs = bs') : DPr B gc gw K' C bs' e w0 w := ⟨h.st.mono hK hb, h.bc, h.wrt, h.ne, h.le⟩
theorem DPr.err (h : DPr B gc gw K C bs e w0 w) : w.cell? ⟨gw, 1, none⟩ = some (.int .i64 e) ∧ gw < w.heap.size := by
  obtain ⟨_, _, _, _, h, _⟩ := h.st
  exact ⟨h.cell 1, h.lt⟩
end
theorem dw_new {w : World} {gw B : Nat} (hB : B ≤ gw) (h : Blk w gw 81 #[.slice none 0 0, .int .i64 0]) : DW B gw 0 [] 0 w :=
  ⟨hB, none, 0, [], h, World.ownsRow_nil _ _ _ _, Nat.le_refl _, fun _ => rfl⟩
theorem en_fst (e g m : Int) : fst (fst e (if inB g 65535 then 0 else 144)) (if inB m 7 then 0 else 144) = fst e (if (inB g 65535 && inB m 7) = true then 0 else 144) := by
  by_cases h : e = 0
  · subst h
    cases inB g 65535 <;> cases inB m 7 <;> rfl
  · unfold fst
    simp [h]
theorem ch_fst (a b c : Bool) : fst (fst (if a then 0 else 144) (if b then 0 else 144)) (if c then 0 else 144) = if a && (b && c) then (0 : Int) else 144 := by
  cases a <;> cases b <;> cases c <;> rfl
set_option maxRecDepth 100000 in
set_option maxHeartbeats 8000000 in
theorem rput_any (x : Cf) (A : Option Addr) (c : Nat) (A2 : Option Addr) (c2 : Nat) (w : World) (hC : CfR w w.heap.size x A c A2 c2) (hf : PutOk x) :
    Calls Try.prog 17 #[.agg #[.int .u32 x.ver, .slice A x.gs.length c, .slice A2 x.cs.length c2]] w (PutR (cData x) w) := by
  obtain ⟨B, hB⟩ : ∃ n, w.heap.size = n := ⟨_, rfl⟩
  have hbd : x.gs.length ≤ 20 ∧ x.cs.length ≤ 40 := ⟨hf.1, hf.2.1⟩
  have hver := hC.ver
  unfold inU32 at hver
  have HC := Lib.hid hC
  have HF := Lib.hid hf
  obtain ⟨nG, hnG⟩ : ∃ n, x.gs.length = n := ⟨_, rfl⟩
  obtain ⟨nC, hnC⟩ : ∃ n, x.cs.length = n := ⟨_, rfl⟩
  rw [hnG, hnC] at hbd ⊢
  have HnG := Lib.hid hnG
  have HnC := Lib.hid hnC
  have HE := Lib.hid (show ∀ h : ¬ (1 ≤ nG ∧ nG ≤ 16 ∧ nC ≤ 32), putE (cData x) = 142 from fun h => by unfold putE cData; simp only [List.length_map]; rw [hnG, hnC, if_pos h])
  have hb1 := bal (Below.refl w.heap.size w) (.cells #[.int .u32 x.ver, .slice A nG c, .slice A2 nC c2] 28)
  have HBad := Lib.hid (show ∀ (h : putE (cData x) = 142) W, Below w.heap.size w W → PutR (cData x) w (.returned (.tuple #[.slice none 0 0, .int .i64 142])) W from fun h W hW => ⟨hW, .inl ⟨by rw [h]; decide, by rw [h]⟩⟩)
  clear hC hf hnG hnC
  by_cases z1 : 1 ≤ nG
  case neg =>
    have e1 : decide ((nG : Int) < 1) = true := decide_eq_true (by omega)
    have HE := Lib.hid (HE.out (fun h => z1 h.1))
    clear z1
    go_enter Try.func17, Try.ntmps17
    go_wp2
    go_ret2
    exact HBad.out HE.out _ hb1
  have e1 : decide ((nG : Int) < 1) = false := decide_eq_false (by omega)
  by_cases z2 : nG ≤ 16
  case neg =>
    have e2 : decide ((16 : Int) < (nG : Int)) = true := decide_eq_true (by omega)
    have HE := Lib.hid (HE.out (fun h => z2 h.2.1))
    clear z2
    go_enter Try.func17, Try.ntmps17
    go_wp2
    go_ret2
    exact HBad.out HE.out _ hb1
  have e2 : decide ((16 : Int) < (nG : Int)) = false := decide_eq_false (by omega)
  by_cases z3 : nC ≤ 32
  case neg =>
    have e3 : decide ((32 : Int) < (nC : Int)) = true := decide_eq_true (by omega)
    have HE := Lib.hid (HE.out (fun h => z3 h.2.2))
    clear z3
    go_enter Try.func17, Try.ntmps17
    go_wp2
    go_ret2
    exact HBad.out HE.out _ hb1
  have e3 : decide ((32 : Int) < (nC : Int)) = false := decide_eq_false (by omega)
  have hW0 : ∀ W : World, W = w.alloc (.cells #[.int .u32 x.ver, .slice A nG c, .slice A2 nC c2] 28) → DPr B B (B + 1) 0 #[.int .u32 x.ver, .slice A nG c, .slice A2 nC c2] [] 0 w (W.alloc (.cells #[.slice none 0 0, .int .i64 0] 81)) := fun W hW => by
    have hz : W.heap.size = B + 1 := by rw [hW]; simp [hB]
    have hgw := Blk.new W 81 #[.slice none 0 0, .int .i64 0]
    have hgc := Blk.new w 28 #[.int .u32 x.ver, .slice A nG c, .slice A2 nC c2]
    have hb2 := bal (Below.refl W.heap.size W) (.cells #[.slice none 0 0, .int .i64 0] 81)
    rw [hz] at hgw
    rw [hB] at hgc
    rw [← hW] at hgc hb1
    exact ⟨dw_new (by omega) hgw, hgc.kept hb2, Wrt.of_below (hb1.trans (hb2.mono (by omega))) (by omega), by omega, by have := hb2.size; omega⟩
  have HW0 := Lib.hid (hW0 _ rfl)
  have HBw := Lib.hid hB
  have hzz : (w.alloc (.cells #[.int .u32 x.ver, .slice A nG c, .slice A2 nC c2] 28)).heap.size = B + 1 := by simp [hB]
  clear hW0 HBad hB
  go_enter Try.func17, Try.ntmps17
  go_upto_region 4 with (fail)
  clear e1 e2 e3
  have hW1 := HW0.out
  generalize (w.alloc (.cells #[.int .u32 x.ver, .slice A nG c, .slice A2 nC c2] 28)).alloc (.cells #[.slice none 0 0, .int .i64 0] 81) = w1 at *
  (try rw [hzz])
  (try rw [HBw.out])
  clear hzz HW0 hb1
  obtain ⟨gw, hgw⟩ : ∃ g, B + 1 = g := ⟨_, rfl⟩
  rw [hgw] at hW1 ⊢
  have HGw := Lib.hid hgw
  clear hgw
  have H2 := Lib.hid (dput_any B gw 0 4 [] 0 1111705159 _ hW1.st (by omega) (by omega) (by decide) (by decide))
  go_upto_region 5 with (go_at_call 34; refine H2.out.mono ?_; rintro r1 w2 ⟨rfl, hd, hw⟩)
  have hW2 := hW1.step hd hw
  clear H2 hd hw hW1
  have H3 := Lib.hid (dput_any B gw (0+4) 2 _ 0 1 _ hW2.st (by omega) (by omega) (by decide) (by decide))
  go_upto_region 6 with (go_at_call 34; refine H3.out.mono ?_; rintro r1 w3 ⟨rfl, hd, hw⟩)
  have hW3 := hW2.step hd hw
  clear H3 hd hw hW2
  have cC := hW3.bc.cell 1
  have u1 : (nG : Int) % 18446744073709551616 = nG := by omega
  have H4 := Lib.hid (dput_any B gw (0+4+2) 2 _ 0 nG _ hW3.st (by omega) (by omega) (by omega) (by omega))
  go_upto_region 7 with (go_at_call 34; refine H4.out.mono ?_; rintro r1 w4 ⟨rfl, hd, hw⟩)
  have hW4 := hW3.step hd hw
  clear H4 hd hw hW3
  clear cC u1
  have cC := hW4.bc.cell 2
  have u1 : (nC : Int) % 18446744073709551616 = nC := by omega
  have H5 := Lib.hid (dput_any B gw (0+4+2+2) 2 _ 0 nC _ hW4.st (by omega) (by omega) (by omega) (by omega))
  go_upto_region 8 with (go_at_call 34; refine H5.out.mono ?_; rintro r1 w5 ⟨rfl, hd, hw⟩)
  have hW5 := hW4.step hd hw
  clear H5 hd hw hW4
  clear cC u1
  have H6 := Lib.hid (dput_any B gw (0+4+2+2+2) 2 _ 0 0 _ hW5.st (by omega) (by omega) (by decide) (by decide))
  go_upto_region 9 with (go_at_call 34; refine H6.out.mono ?_; rintro r1 w6 ⟨rfl, hd, hw⟩)
  have hW6 := hW5.step hd hw
  clear H6 hd hw hW5
  have cC := hW6.bc.cell 0
  have u1 : x.ver % 18446744073709551616 = x.ver := by omega
  have H7 := Lib.hid (dput_any B gw (0+4+2+2+2+2) 4 _ 0 x.ver _ hW6.st (by omega) (by omega) (by omega) (by omega))
  go_upto_region 10 with (go_at_call 34; refine H7.out.mono ?_; rintro r1 w7 ⟨rfl, hd, hw⟩)
  have hW7 := hW6.step hd hw
  clear H7 hd hw hW6
  clear cC u1
  obtain ⟨b1, hb1⟩ : ∃ b, (((((([] : List Int) ++ bytesN 4 false 1111705159) ++ bytesN 2 false 1) ++ bytesN 2 false nG) ++ bytesN 2 false nC) ++ bytesN 2 false 0) ++ bytesN 4 false x.ver = b := ⟨_, rfl⟩
  rw [hb1] at hW7
  have HB1 := Lib.hid (show topB x.ver nG nC = b1 by rw [← hb1]; unfold topB; simp only [List.flatMap_cons, List.flatMap_nil, List.append_assoc, List.append_nil, List.nil_append])
  clear hb1
  have cC := hW7.bc.cell 1
  have HW7 := Lib.hid hW7
  clear hW7
  have hzs : Try.zeroCells70.size = 79 := by kernel_rfl
  go_wp2_with fail
  clear cC
  go_loopw [6, 55] (fun _ iv wr => ∃ k : Nat, k ≤ nG ∧ iv = .int .i64 k ∧ Hid (firstE ((x.gs.map Prod.fst).take k) = 0 ∧ DPr B B gw (16 + 2000 * k) #[.int .u32 x.ver, .slice A nG c, .slice A2 nC c2] (b1 ++ ((x.gs.map Prod.fst).take k).flatMap gB) 0 w wr)) (fun _ iv _ => nG - (intOf iv).toNat)
  case atStart => exact ⟨0, by omega, rfl, Lib.hid ⟨rfl, by simpa using HW7.out.mono (by omega) (fun _ => rfl)⟩⟩
  case round =>
    obtain ⟨k, hk, rfl, hh⟩ := hrel
    by_cases hlt : k < nG
    · have hq : decide ((k : Int) < (nG : Int)) = true := decide_eq_true (by omega)
      obtain ⟨hfe, hPr⟩ := hh.out
      obtain ⟨g, hg⟩ : ∃ g, x.gs[k]? = some g := ⟨_, List.getElem?_eq_getElem (by rw [HnG.out]; exact hlt)⟩
      have hgm : (x.gs.map Prod.fst)[k]? = some g.1 := by rw [List.getElem?_map, hg]; rfl
      have hmem := List.mem_of_getElem? hg
      have hbw : Below w.heap.size w wr := by have := hPr.wrt.below; rw [← HBw.out] at this; exact this
      obtain ⟨b0, o0, rfl, hb0, hrow⟩ := conf_rowB HC.out hbw hg
      have hog := HC.out.og g hmem
      have hl79 := gcells_len hog.kl
      have hi79 : (Try.prog.info? 70).map (·.size) = some (gcells g).length := by rw [hl79]; kernel_rfl
      have hZ := Blk.new wr 70 Try.zeroCells70
      have hbZ := bal (Below.refl wr.heap.size wr) (.cells Try.zeroCells70 70)
      have hPZ := hPr.below hbZ
      have HPr := Lib.hid hPr
      have HGm := Lib.hid hgm
      have HFe := Lib.hid hfe
      have HOg := Lib.hid hog
      have HMem := Lib.hid (HF.out.2.2 g hmem)
      have hlew := hPr.err.2
      clear hh hfe hPr hg hgm hmem hbw hog
      go_upto_region 13 with (first
        | (refine wpList_load_mid rfl 70 (.tmp 57) rfl b0 (o0 + k * 79) (by rfl) (gcells g) _ hrow Try.underlying70 rfl hi79 ?_)
        | (refine wpList_store_blk rfl 70 (.tmp 6) (.tmp 58) rfl wr.heap.size 0 (gcells g).toArray (by rfl) (by rfl) hZ (by rw [List.size_toArray, hl79, hzs]; decide) (by rw [List.size_toArray]; exact hi79) (gcells_one _) (setAt_all _ _ (by rw [hzs]; simpa using hl79)) ?_; intro w7 hX7 hb7 hz7 hh7))
      have hP7 := HPr.out.below (hbZ.trans (hb7 _ (Nat.le_refl _)))
      have hX7 : Blk w7 wr.heap.size 70 (gcells g).toArray := by simpa using hX7
      have hXr := blk_range hX7
      have HGu := dguest_any B gw _ _ 0 g w7 hP7.st hP7.le (by
        have h1 := HOg.out
        rw [HBw.out] at h1
        exact h1.below hP7.wrt.below) (by omega) HMem.out
      obtain ⟨E, hEe⟩ : ∃ E, gErr g.1 = E := ⟨_, rfl⟩
      rw [hEe, show fst 0 E = E from rfl] at HGu
      have HGu := Lib.hid (HGu.mono (R' := fun r w' => r = .returned (.tuple #[]) ∧ DPr B B gw (16 + 2000 * k + 2000) #[.int .u32 x.ver, .slice (some ⟨b0, o0, none⟩) nG c, .slice A2 nC c2] (b1 ++ ((x.gs.map Prod.fst).take k).flatMap gB ++ gB g.1) E w w') fun r w' h => ⟨h.1, hP7.step h.2.1 h.2.2⟩)
      have HEe := Lib.hid hEe
      clear hEe hPZ hZ hbZ hb7 hz7 hh7 hrow hX7 hP7
      go_upto_region 14 with (first
        | (refine wpList_load_mid rfl 70 (.tmp 6) rfl wr.heap.size 0 (by rfl) (gcells g) _ hXr Try.underlying70 rfl hi79 ?_)
        | (go_at_call 35; refine HGu.out.mono ?_; rintro e1 w8 ⟨rfl, hP8⟩))
      obtain ⟨cE, hE8⟩ := hP8.err
      clear hXr HGu
      by_cases hE0 : E = 0
      case neg =>
        have hne : (E != 0) = true := by simp [hE0]
        have hput : putE (cData x) = E := by
          have hfe := firstE_take _ k g.1 HFe.out HGm.out (by rw [HEe.out]; exact hE0)
          rw [HEe.out] at hfe
          unfold putE cData
          simp only [List.length_map]
          rw [HnG.out, HnC.out, if_neg (fun h => h ⟨z1, z2, z3⟩), hfe, if_pos hE0]
        have HPut := Lib.hid hput
        have HE0 := Lib.hid hE0
        have hbl : Below w.heap.size w w8 := by have := hP8.wrt.below; rw [← HBw.out] at this; exact this
        clear hput hE0
        go_upto_region 15 with (fail)
        go_quiet (fail)
        go_wp2_with fail
        go_ret2
        exact ⟨below_drewN hbl nq, .inl ⟨by rw [HPut.out]; exact HE0.out, by rw [HPut.out]; rfl⟩⟩
      subst hE0
      have HP8 := Lib.hid hP8
      clear hP8
      go_wp2_with fail
      go_roundw
      case rel =>
        have hkl : k < (x.gs.map Prod.fst).length := (List.getElem?_eq_some_iff.1 HGm.out).1
        have hgk : (x.gs.map Prod.fst)[k] = g.1 := (List.getElem?_eq_some_iff.1 HGm.out).2
        have ht : (x.gs.map Prod.fst).take (k + 1) = (x.gs.map Prod.fst).take k ++ [g.1] := by rw [List.take_succ_eq_append_getElem hkl, hgk]
        refine ⟨k + 1, by omega, by go_num, Lib.hid ⟨by rw [ht]; exact firstE_snoc _ _ HFe.out HEe.out, ?_⟩⟩
        refine HP8.out.mono (by omega) (fun _ => ?_)
        rw [ht, List.flatMap_append, ← List.append_assoc]
        simp
      case measure => simp [intOf]; omega
    · obtain rfl : k = nG := by omega
      have hq : decide ((k : Int) < (k : Int)) = false := decide_eq_false (by omega)
      obtain ⟨hfe, hPr⟩ := hh.out
      rw [List.take_of_length_le (by rw [List.length_map, HnG.out]; exact Nat.le_refl _)] at hfe hPr
      obtain ⟨b2, hb2'⟩ : ∃ b, b1 ++ (x.gs.map Prod.fst).flatMap gB = b := ⟨_, rfl⟩
      rw [hb2'] at hPr
      have HB2 := Lib.hid hb2'
      have HFe := Lib.hid hfe
      have hPr0 := hPr.mono (K' := 50000) (by omega) (fun _ => rfl)
      have HPr0 := Lib.hid hPr0
      have cC := hPr.bc.cell 2
      clear hh hfe hPr hb2' hPr0
      go_upto_region 17 with (fail)
      clear hq
      go_wp2_with fail
      clear cC
      go_loopw [8, 10, 75] (fun _ _ iv wr => ∃ j : Nat, j ≤ nC ∧ iv = .int .i64 j ∧ Hid (DPr B B gw (50000 + 48 * j) #[.int .u32 x.ver, .slice A k c, .slice A2 nC c2] (b2 ++ (x.cs.take j).flatMap chB) (if (x.cs.take j).all chOk then 0 else 144) w wr)) (fun _ _ iv _ => nC - (intOf iv).toNat)
      case atStart => exact ⟨0, by omega, rfl, Lib.hid (by simpa using HPr0.out)⟩
      case round =>
        obtain ⟨j, hj, rfl, hh⟩ := hrel
        by_cases hlt : j < nC
        · have hq : decide ((j : Int) < (nC : Int)) = true := decide_eq_true (by omega)
          have hkl2 : j < x.cs.length := by rw [HnC.out]; exact hlt
          have hPr := hh.out
          have hbw : Below w.heap.size w wr := by have := hPr.wrt.below; rw [← HBw.out] at this; exact this
          obtain ⟨b0, o0, rfl, hb0', hrow⟩ := (HC.out.rc.below hbw).row (enc := encCh) (fun _ => rfl) hkl2 rfl
          have d0 := hrow 0 (by decide)
          have d1 := hrow 1 (by decide)
          have d2 := hrow 2 (by decide)
          have d3 := hrow 3 (by decide)
          have d4 := hrow 4 (by decide)
          have d5 := hrow 5 (by decide)
          have d6 := hrow 6 (by decide)
          have d7 := hrow 7 (by decide)
          simp only [encCh, List.getElem?_cons_zero, List.getElem?_cons_succ, Nat.add_zero] at d0 d1 d2 d3 d4 d5 d6 d7
          have hxo := HC.out.oc _ (List.getElem_mem hkl2)
          have htk : (x.cs.take (j + 1)).flatMap chB = (x.cs.take j).flatMap chB ++ chB x.cs[j] := by rw [List.take_succ_eq_append_getElem hkl2, List.flatMap_append]; simp
          have hta : (x.cs.take (j + 1)).all chOk = ((x.cs.take j).all chOk && chOk x.cs[j]) := by rw [List.take_succ_eq_append_getElem hkl2, List.all_append]; simp
          have HTk := Lib.hid htk
          have HTa := Lib.hid hta
          generalize x.cs[j] = y at *
          generalize hbk : b2 ++ (x.cs.take j).flatMap chB = bk at *
          have HBk := Lib.hid hbk
          generalize hak : (x.cs.take j).all chOk = ak at *
          have HAk := Lib.hid hak
          clear hbk hak
          obtain ⟨pa, sz, ⟨g0, m0, i0⟩, ⟨g1, m1, i1⟩⟩ := y
          simp only at d0 d1 d2 d3 d4 d5 d6 d7
          obtain ⟨ho1, ho2, ⟨_, _, ho3⟩, ⟨_, _, ho4⟩⟩ := hxo
          clear hh htk hta hrow hbw
          have hbA := bal (Below.refl wr.heap.size wr) (.cells #[.int .u64 pa, .int .u64 sz, .int .i64 g0, .int .i64 m0, .int .u64 i0, .int .i64 g1, .int .i64 m1, .int .u64 i1] 77)
          have hXA := Blk.new wr 77 #[.int .u64 pa, .int .u64 sz, .int .i64 g0, .int .i64 m0, .int .u64 i0, .int .i64 g1, .int .i64 m1, .int .u64 i1]
          have hPA := hPr.below hbA
          have hgw := hPr.err.2
          go_upto_region 20 with (fail)
          clear d0 d1 d2 d3 d4 d5 d6 d7
          have hxA := hXA.lt
          have hxne : wr.heap.size ≠ gw := by omega
          generalize wr.heap.size = xb at *
          generalize wr.alloc (.cells #[.int .u64 pa, .int .u64 sz, .int .i64 g0, .int .i64 m0, .int .u64 i0, .int .i64 g1, .int .i64 m1, .int .u64 i1] 77) = wA at *
          clear hbA hPr
          have c0 := hXA.cell 0
          have H0 := Lib.hid (dput_any B gw _ 8 _ _ pa wA hPA.st (by omega) (by omega) ho1.1 ho1.2)
          go_upto_region 21 with (go_at_call 34; refine H0.out.mono ?_; rintro r1 wB ⟨rfl, hd, hw⟩)
          have hPB := hPA.step hd hw
          have hXB := hXA.wrt hw (by decide) hxne
          clear c0 H0 hd hw hPA hXA
          have c1 := hXB.cell 1
          have H1 := Lib.hid (dput_any B gw _ 8 _ _ sz wB hPB.st (by omega) (by omega) ho2.1 ho2.2)
          go_upto_region 22 with (go_at_call 34; refine H1.out.mono ?_; rintro r1 wC ⟨rfl, hd, hw⟩)
          have hPC := hPB.step hd hw
          have hXC := hXB.wrt hw (by decide) hxne
          have cC := hXC.cell
          clear c1 H1 hd hw hPB hXB
          obtain ⟨bh, hbh⟩ : ∃ b, (bk ++ bytesN 8 false pa) ++ bytesN 8 false sz = b := ⟨_, rfl⟩
          rw [hbh] at hPC
          have HBh := Lib.hid hbh
          have HPC := Lib.hid hPC
          clear hbh hPC
          go_wp2_with fail
          clear cC hXC
          go_loopw [10, 89] (fun _ iv wr => (iv = .int .i64 0 ∧ Hid (DPr B B gw (50000 + 48 * j + 16) #[.int .u32 x.ver, .slice A k c, .slice (some ⟨b0, o0, none⟩) nC c2] bh (if ak then 0 else 144) w wr)) ∨ (iv = .int .i64 1 ∧ Hid (DPr B B gw (50000 + 48 * j + 28) #[.int .u32 x.ver, .slice A k c, .slice (some ⟨b0, o0, none⟩) nC c2] (bh ++ enB ⟨g0, m0, i0⟩) (fst (if ak then 0 else 144) (if enOk ⟨g0, m0, i0⟩ then 0 else 144)) w wr)) ∨
            (iv = .int .i64 2 ∧ Hid (DPr B B gw (50000 + 48 * j + 40) #[.int .u32 x.ver, .slice A k c, .slice (some ⟨b0, o0, none⟩) nC c2] ((bh ++ enB ⟨g0, m0, i0⟩) ++ enB ⟨g1, m1, i1⟩) (fst (fst (if ak then 0 else 144) (if enOk ⟨g0, m0, i0⟩ then 0 else 144)) (if enOk ⟨g1, m1, i1⟩ then 0 else 144)) w wr))) (fun _ iv _ => 2 - (intOf iv).toNat)
          case atStart => exact .inl ⟨rfl, Lib.hid (HPC.out.mono (by omega) (fun _ => rfl))⟩
          case round =>
            rcases hrel with ⟨rfl, hp⟩ | ⟨rfl, hp⟩ | ⟨rfl, hp⟩
            · have hPr := hp.out
              clear hp
              have hix : ∀ W : World, (Instr.index 75 (.agg #[.int .i64 g0, .int .i64 m0, .int .u64 i0, .int .i64 g1, .int .i64 m1, .int .u64 i1]) (.int .i64 0)).run Try.prog W = .ok (.agg #[.int .i64 g0, .int .i64 m0, .int .u64 i0]) W := fun W => by kernel_rfl
              have hbA := bal (Below.refl wr.heap.size wr) (.cells #[.int .i64 g0, .int .i64 m0, .int .u64 i0] 74)
              have hXA := Blk.new wr 74 #[.int .i64 g0, .int .i64 m0, .int .u64 i0]
              have hPA := hPr.below hbA
              have hgw : gw < wr.heap.size := hPr.err.2
              obtain ⟨xb, hxb⟩ : ∃ b, wr.heap.size = b := ⟨_, rfl⟩
              go_upto_region 25 with (fail)
              clear hix
              rw [hxb] at hXA hgw
              generalize wr.alloc (.cells #[.int .i64 g0, .int .i64 m0, .int .u64 i0] 74) = wA at *
              have hxg : xb ≠ gw := by omega
              clear hbA hxb hPr
              have c0 := hXA.cell 0
              have H0 := Lib.hid (dsmall_any B gw _ 2 _ _ g0 65535 wA hPA.st (by omega) (by omega) (by omega))
              go_upto_region 26 with (go_at_call 36; refine H0.out.mono ?_; rintro r1 wB ⟨rfl, hd, hw⟩)
              have hPB := hPA.step hd hw
              have hXB := hXA.wrt hw (by decide) hxg
              clear c0 H0 hd hw hPA hXA
              have c1 := hXB.cell 1
              have H1 := Lib.hid (dsmall_any B gw _ 2 _ _ m0 7 wB hPB.st (by omega) (by omega) (by omega))
              go_upto_region 27 with (go_at_call 36; refine H1.out.mono ?_; rintro r1 wC ⟨rfl, hd, hw⟩)
              have hPC := hPB.step hd hw
              have hXC := hXB.wrt hw (by decide) hxg
              clear c1 H1 hd hw hPB hXB
              have c2 := hXC.cell 2
              have H2 := Lib.hid (dput_any B gw _ 8 _ _ i0 wC hPC.st (by omega) (by omega) ho3.1 ho3.2)
              go_wp2_with (go_at_call 34; refine H2.out.mono ?_; rintro r1 wD ⟨rfl, hd, hw⟩)
              have hPD := hPC.step hd hw
              rw [en_fst] at hPD
              have HPD := Lib.hid hPD
              clear c2 H2 hd hw hPC hXC hPD
              go_roundw
              case rel => exact .inr (.inl ⟨by go_num, Lib.hid (HPD.out.mono (by omega) (fun _ => by simp [enB]))⟩)
              case measure => simp [intOf]
            · have hPr := hp.out
              clear hp
              have hix : ∀ W : World, (Instr.index 75 (.agg #[.int .i64 g0, .int .i64 m0, .int .u64 i0, .int .i64 g1, .int .i64 m1, .int .u64 i1]) (.int .i64 1)).run Try.prog W = .ok (.agg #[.int .i64 g1, .int .i64 m1, .int .u64 i1]) W := fun W => by kernel_rfl
              have hbA := bal (Below.refl wr.heap.size wr) (.cells #[.int .i64 g1, .int .i64 m1, .int .u64 i1] 74)
              have hXA := Blk.new wr 74 #[.int .i64 g1, .int .i64 m1, .int .u64 i1]
              have hPA := hPr.below hbA
              have hgw : gw < wr.heap.size := hPr.err.2
              obtain ⟨xb, hxb⟩ : ∃ b, wr.heap.size = b := ⟨_, rfl⟩
              go_upto_region 25 with (fail)
              clear hix
              rw [hxb] at hXA hgw
              generalize wr.alloc (.cells #[.int .i64 g1, .int .i64 m1, .int .u64 i1] 74) = wA at *
              have hxg : xb ≠ gw := by omega
              clear hbA hxb hPr
              have c0 := hXA.cell 0
              have H0 := Lib.hid (dsmall_any B gw _ 2 _ _ g1 65535 wA hPA.st (by omega) (by omega) (by omega))
              go_upto_region 26 with (go_at_call 36; refine H0.out.mono ?_; rintro r1 wB ⟨rfl, hd, hw⟩)
              have hPB := hPA.step hd hw
              have hXB := hXA.wrt hw (by decide) hxg
              clear c0 H0 hd hw hPA hXA
              have c1 := hXB.cell 1
              have H1 := Lib.hid (dsmall_any B gw _ 2 _ _ m1 7 wB hPB.st (by omega) (by omega) (by omega))
              go_upto_region 27 with (go_at_call 36; refine H1.out.mono ?_; rintro r1 wC ⟨rfl, hd, hw⟩)
              have hPC := hPB.step hd hw
              have hXC := hXB.wrt hw (by decide) hxg
              clear c1 H1 hd hw hPB hXB
              have c2 := hXC.cell 2
              have H2 := Lib.hid (dput_any B gw _ 8 _ _ i1 wC hPC.st (by omega) (by omega) ho4.1 ho4.2)
              go_wp2_with (go_at_call 34; refine H2.out.mono ?_; rintro r1 wD ⟨rfl, hd, hw⟩)
              have hPD := hPC.step hd hw
              rw [en_fst] at hPD
              have HPD := Lib.hid hPD
              clear c2 H2 hd hw hPC hXC hPD
              go_roundw
              case rel => exact .inr (.inr ⟨by go_num, Lib.hid (HPD.out.mono (by omega) (fun _ => by simp [enB]))⟩)
              case measure => simp [intOf]
            · have HPr := Lib.hid hp.out
              clear hp
              go_wp2_with fail
              go_roundw
              case rel =>
                refine ⟨j + 1, by omega, by go_num, Lib.hid ?_⟩
                have h := HPr.out.mono (K' := 50000 + 48 * (j + 1)) (bs' := b2 ++ (x.cs.take (j + 1)).flatMap chB) (by omega) (fun _ => by rw [HTk.out, ← List.append_assoc, HBk.out, ← HBh.out]; simp [chB])
                rw [ch_fst] at h
                rw [HTa.out]
                exact h
              case measure => simp [intOf]; omega
        · obtain rfl : j = nC := by omega
          have hq : decide ((j : Int) < (j : Int)) = false := decide_eq_false (by omega)
          have hPr := hh.out
          rw [List.take_of_length_le (by rw [HnC.out]; exact Nat.le_refl _)] at hPr
          obtain ⟨pb, hpb⟩ : ∃ b, b2 ++ x.cs.flatMap chB = b := ⟨_, rfl⟩
          have hfin : putB (cData x) = pb := by
            rw [← hpb, ← HB2.out, ← HB1.out]
            unfold putB cData
            simp only [List.length_map, HnG.out, HnC.out]
          rw [hpb] at hPr
          have HFin := Lib.hid hfin
          have hK92 : 50000 + 48 * j ≤ 52000 := by omega
          generalize hKj : 50000 + 48 * j = Kj at *
          have hE2 : putE (cData x) = if x.cs.all chOk = false then 144 else 0 := by
            unfold putE cData
            simp only [List.length_map]
            rw [HnG.out, HnC.out, if_neg (fun h => h ⟨z1, z2, z3⟩), HFe.out, if_neg (by decide)]
          have HE2 := Lib.hid hE2
          clear hh hpb hfin hKj hE2
          rcases hal : x.cs.all chOk with _ | _
          · rw [hal] at hPr HE2
            simp only [Bool.false_eq_true, if_false] at hPr
            have HM := Lib.hid (fun is => dmust_any B gw _ pb 144 2 is wr hPr.st)
            have HP := Lib.hid hPr
            obtain ⟨hBg, A', c', bs', hB, hown, hK, hbs⟩ := hPr.st
            have cW := hB.cell
            have fW := hB.frozen
            clear hown hK hbs hB hPr hal
            go_upto_region 31 with (go_at_call 37; refine (HM.out _).mono ?_; rintro e1 w2 ⟨rfl, hd, hw⟩)
            have hP2 := HP.out.step hd hw
            obtain ⟨cE, hE2⟩ := hP2.err
            rw [show ∀ y, fst 144 y = 144 from fun y => rfl] at cE
            have hbl : Below w.heap.size w w2 := by have := hP2.wrt.below; rw [← HBw.out] at this; exact this
            clear cW fW hd hw hP2 HM
            go_upto_region 32 with (fail)
            go_quiet (fail)
            go_wp2_with fail
            go_ret2
            exact ⟨below_drewN hbl nq, .inl ⟨by rw [HE2.out]; decide, by rw [HE2.out]; rfl⟩⟩
          · rw [hal] at hPr HE2
            simp only [if_true] at hPr
            have HM := dmust_any B gw _ pb 0 2 true wr hPr.st
            simp only [if_true] at HM
            rw [show fst 0 0 = 0 from rfl] at HM
            have HM := Lib.hid HM
            have HP := Lib.hid hPr
            obtain ⟨hBg, A', c', bs', hB, hown, hK, hbs⟩ := hPr.st
            obtain rfl := hbs rfl
            have cW := hB.cell
            have fW := hB.frozen
            have hd : decide ((bs'.length : Int) ≤ 65536) = true := decide_eq_true (by omega)
            clear hown hB hPr hal
            go_upto_region 31 with (go_at_call 37; refine HM.out.mono ?_; rintro e1 w2 ⟨rfl, hd2, hw⟩)
            have hP2 := HP.out.step hd2 hw
            clear cW fW hd hd2 hw HM hK
            have hbl : Below w.heap.size w w2 := by have := hP2.wrt.below; rw [← HBw.out] at this; exact this
            obtain ⟨hBg2, A2', c2', bs2, hB2, hown2, hK2, hbs2⟩ := hP2.st
            obtain rfl := hbs2 rfl
            have cW := hB2.cell
            have fW := hB2.frozen
            have HO := Lib.hid hown2
            clear hB2 hown2 hP2
            go_wp2_with fail
            go_ret2
            refine ⟨hbl, .inr ⟨by rw [HE2.out]; rfl, A2', c2', ?_⟩⟩
            rw [HFin.out]
            exact ⟨rfl, own_le_base HO.out (by have := HBw.out; omega)⟩
end Go.Proofs.Ytmhbpfclfffgkaa
