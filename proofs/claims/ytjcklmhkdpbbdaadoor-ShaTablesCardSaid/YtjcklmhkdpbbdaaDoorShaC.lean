/- Chapter 3: the program's block, walked. -/
import Derived.Test.YtjcklmhkdpbbdaaDoorShaB
import Derived.Test.YtjcklmhkdpbbdaaDoorNear
import Derived.Deep.CutRange
import Derived.Deep.MidRow
import Derived.Deep.WholeRow
namespace Go.Proofs.YtjcklmhkdpbbdaaDoor
set_option linter.unusedVariables false
set_option linter.unusedSimpArgs false
open Go.RowKit Go.Sort

theorem info_w64 : (Tryd.prog.info? 71).map (fun i => (i.zero, i.size)) = some (some (.agg (Array.replicate 64 (.int .u32 0))), 64) := by kernel_rfl

set_option maxRecDepth 100000 in
set_option maxHeartbeats 4000000 in
theorem block_any (g : Nat) (t : TypeId) (tl : List Value) (h : V8) (sm : List Int) (n : Int) (A : Option Addr) (c : Nat) (bs : List Int) (w : World) (hsm : sm.length = 64) (hn : 0 ≤ n ∧ n < 18446744073709551616) (hT : Tabs w) (hg : 2 ≤ g)
    (hB : Blk w g t (stCs h sm n ++ tl).toArray) (hl : bs.length = 64) (hok : BytesOk bs) (hr : Rd w w.heap.size 1 A 64 (bs.flatMap encB)) :
    Calls Tryd.prog 56 #[.pointer (some ⟨g, 0, none⟩), .slice A 64 c] w fun e w' => e = .returned (.tuple #[]) ∧ Blk w' g t (stCs (blkV h bs) sm n ++ tl).toArray ∧ Near (fun i => i = g) w w' := by
  obtain ⟨b, o, rfl, hbb, hc⟩ := hr.cells (by decide)
  have HB := Lib.hid hB
  have HT := Lib.hid hT
  have HL := Lib.hid hl
  have HOK := Lib.hid hok
  have HC : Hid (∀ i, i < 64 → w.cell? ⟨b, o + i, none⟩ = some (.int .u8 (bs.getD i 0))) := Lib.hid fun i hi => by
    rw [hc i (by omega)]
    have := flatMap_get (enc := encB) (s := 1) (fun _ => rfl) bs i 0 (by omega) (by omega)
    rw [Nat.mul_one, Nat.add_zero] at this
    rw [this]
    simp [encB, List.getD, show i < bs.length by omega]
  have HBd : Hid (∀ i, i < 64 → 0 ≤ bs.getD i 0 ∧ bs.getD i 0 < 256) := Lib.hid fun i hi => by
    have hi' : i < bs.length := by omega
    simp only [List.getD, List.getElem?_eq_getElem hi', Option.getD_some]
    exact hok _ (List.getElem_mem hi')
  have HW0 := Lib.hid (Blk.new w 71 (padW []))
  rw [padW_nil] at HW0
  clear hB hT hl hok hc hr
  have HBw := Lib.hid (bal (Below.refl w.heap.size w) (.cells (Array.replicate 64 (.int .u32 0)) 71))
  go_enter Tryd.func56, Tryd.ntmps56
  go_upto_region 1 with (fail)
  refine wp_name ?_
  intro w1 hw1
  have hB1 : Blk w1 w.heap.size 71 (padW []) := by rw [hw1, padW_nil]; exact HW0.out
  have hb1 : RowKit.Below w.heap.size w w1 := by rw [hw1]; exact HBw.out
  clear hw1 HBw HW0
  have HBb := Lib.hid hb1
  have HB1 := Lib.hid hB1
  clear hb1 hB1
  go_wp2
  go_loopw [5, 20] (fun _ i wr => ∃ k : Nat, k ≤ 16 ∧ i = .int .i64 k ∧ Hid (Blk wr w.heap.size 71 (padW ((w16 bs).take k)) ∧ RowKit.Below w.heap.size w wr)) (fun _ i _ => 16 - (intOf i).toNat)
  case atStart => exact ⟨0, by omega, rfl, Lib.hid ⟨HB1.out, HBb.out⟩⟩
  case round =>
    obtain ⟨k, hk, rfl, HI⟩ := hrel
    clear HB1 HBb
    by_cases hlt : k < 16
    · obtain ⟨j0, hj0⟩ : ∃ j, 4 * k = j := ⟨_, rfl⟩
      obtain ⟨j1, hj1⟩ : ∃ j, 4 * k + 1 = j := ⟨_, rfl⟩
      obtain ⟨j2, hj2⟩ : ∃ j, 4 * k + 2 = j := ⟨_, rfl⟩
      obtain ⟨j3, hj3⟩ : ∃ j, 4 * k + 3 = j := ⟨_, rfl⟩
      have HS := Lib.hid (w16_step bs hlt)
      have HLk := Lib.hid (show ((w16 bs).take k).length = k by simp [w16]; omega)
      rw [hj1, hj2, hj3, hj0] at HS
      have q0 : IntKind.i64.wrap (4 * (k : Int)) = (j0 : Int) := by rw [IntWalk.i64_in _ (by omega)]; omega
      have q1 : IntKind.i64.wrap ((j0 : Int) + 1) = (j1 : Int) := by rw [IntWalk.i64_in _ (by omega)]; omega
      have q2 : IntKind.i64.wrap ((j0 : Int) + 2) = (j2 : Int) := by rw [IntWalk.i64_in _ (by omega)]; omega
      have q3 : IntKind.i64.wrap ((j0 : Int) + 3) = (j3 : Int) := by rw [IntWalk.i64_in _ (by omega)]; omega
      have m0 : j0 < 64 := by omega
      have n0 : (j0 : Int) < 64 := by omega
      have m1 : j1 < 64 := by omega
      have n1 : (j1 : Int) < 64 := by omega
      have m2 : j2 < 64 := by omega
      have n2 : (j2 : Int) < 64 := by omega
      have m3 : j3 < 64 := by omega
      have n3 : (j3 : Int) < 64 := by omega
      have b0 := HBd.out j0 m0
      have b1 := HBd.out j1 m1
      have b2 := HBd.out j2 m2
      have b3 := HBd.out j3 m3
      have c0 := HC.out j0 m0
      have c1 := HC.out j1 m1
      have c2 := HC.out j2 m2
      have c3 := HC.out j3 m3
      generalize bs.getD j0 0 = x0 at *
      generalize bs.getD j1 0 = x1 at *
      generalize bs.getD j2 0 = x2 at *
      generalize bs.getD j3 0 = x3 at *
      have HE := Lib.hid (be4_raw b0 b1 b2 b3)
      have v0 : IntKind.u32.wrap x0 = x0 := by rw [IntKind.wrap_u32']; omega
      have v1 : IntKind.u32.wrap x1 = x1 := by rw [IntKind.wrap_u32']; omega
      have v2 : IntKind.u32.wrap x2 = x2 := by rw [IntKind.wrap_u32']; omega
      have v3 : IntKind.u32.wrap x3 = x3 := by rw [IntKind.wrap_u32']; omega
      clear hj0 hj1 hj2 hj3 b0 b1 b2 b3
      go_upto_region 4 with (fail)
      refine wp_name ?_
      intro w2 hw2
      rw [← hw2] at HI
      clear hw2
      have e0 := fun d os => ((below_regrown w2 d os).cell (p := ⟨b, o + j0, none⟩) (Nat.lt_of_lt_of_le hbb HI.out.2.size)).trans ((HI.out.2.cell (p := ⟨b, o + j0, none⟩) hbb).trans c0)
      have e1 := fun d os => ((below_regrown w2 d os).cell (p := ⟨b, o + j1, none⟩) (Nat.lt_of_lt_of_le hbb HI.out.2.size)).trans ((HI.out.2.cell (p := ⟨b, o + j1, none⟩) hbb).trans c1)
      have e2 := fun d os => ((below_regrown w2 d os).cell (p := ⟨b, o + j2, none⟩) (Nat.lt_of_lt_of_le hbb HI.out.2.size)).trans ((HI.out.2.cell (p := ⟨b, o + j2, none⟩) hbb).trans c2)
      have e3 := fun d os => ((below_regrown w2 d os).cell (p := ⟨b, o + j3, none⟩) (Nat.lt_of_lt_of_le hbb HI.out.2.size)).trans ((HI.out.2.cell (p := ⟨b, o + j3, none⟩) hbb).trans c3)
      clear c0 c1 c2 c3
      refine wp_region_tail_below 35 (by kernel_rfl) (by kernel_rfl) ?_
      simp only [List.take_succ_cons, List.take_zero, List.drop_succ_cons, List.drop_zero]
      have he := HE.out
      have nk : (k : Int) < 64 := by omega
      repeat (quiet_step ((fail)))
      refine wpQuiet_nil ?_
      rintro w3 ⟨p, rfl⟩
      have hb3 := below_regrown w2 p.d p.os
      clear e0 e1 e2 e3
      generalize grow (redrawn w2 p.d) p.os = w3 at *
      have hB3 := HI.out.1.kept hb3
      have hbw3 := HI.out.2.trans (hb3.mono HI.out.2.size)
      have hf3 := hB3.frozen
      have hc3 := hB3.cell k
      rw [padW_at _ (by omega)] at hc3
      have HN := Lib.hid (show Blk (w3.setCell ⟨w.heap.size, k, none⟩ (.int .u32 (iw (be4 x0 x1 x2 x3)))) w.heap.size 71 (padW ((w16 bs).take (k + 1))) by
        have := hB3.set_ k (.int .u32 (iw (be4 x0 x1 x2 x3)))
        rw [padW_set _ (by rw [HLk.out]; omega) HLk.out, ← HS.out] at this
        exact this)
      clear HI hB3 hb3
      have HBw3 := Lib.hid hbw3
      clear hbw3
      go_wp2
      go_roundw
      case rel => exact ⟨k + 1, by omega, by go_num, Lib.hid ⟨HN.out, HBw3.out.setCell (by simp) _⟩⟩
      case measure => simp [intOf]; omega
    · have hk16 : (k : Int) = 16 := by omega
      have HI16 : Hid (Blk wr w.heap.size 71 (padW (schedN bs 0)) ∧ RowKit.Below w.heap.size w wr) := Lib.hid (by
        have := HI.out
        obtain rfl : k = 16 := by omega
        rw [List.take_of_length_le (by simp [w16])] at this
        exact this)
      clear HI hlt hk
      have HM1 := Lib.hid (fun (x : BitVec 32) (W : World) => mixed7_any x W)
      have HM2 := Lib.hid (fun (x : BitVec 32) (W : World) => mixed17_any x W)
      rw [hk16]
      clear hk16
      go_wp2
      go_loopw [6] (fun i wr => ∃ k j : Nat, k ≤ 48 ∧ j = 16 + k ∧ i = .int .i64 j ∧ Hid (Blk wr w.heap.size 71 (padW (schedN bs k)) ∧ RowKit.Below w.heap.size w wr)) (fun i _ => 64 - (intOf i).toNat)
      case atStart => exact ⟨0, 16, by omega, rfl, rfl, HI16⟩
      case round =>
        obtain ⟨k, j, hk, hj, rfl, HI⟩ := hrel
        clear HI16
        by_cases hlt : k < 48
        · have HLk := Lib.hid (schedN_len bs k)
          have HS := Lib.hid (show schedN bs (k + 1) = schedN bs k ++ [nextW (schedN bs k)] from rfl)
          rw [nextW_at (schedN_len bs k)] at HS
          generalize schedN bs k = l at *
          obtain ⟨k1, hk1⟩ : ∃ j, k + 1 = j := ⟨_, rfl⟩
          obtain ⟨k9, hk9⟩ : ∃ j, k + 9 = j := ⟨_, rfl⟩
          obtain ⟨k14, hk14⟩ : ∃ j, k + 14 = j := ⟨_, rfl⟩
          rw [hk1, hk9, hk14] at HS
          have q0 : IntKind.i64.wrap ((j : Int) - 16) = (k : Int) := by rw [IntWalk.i64_in _ (by omega)]; omega
          have q1 : IntKind.i64.wrap ((j : Int) - 15) = (k1 : Int) := by rw [IntWalk.i64_in _ (by omega)]; omega
          have q2 : IntKind.i64.wrap ((j : Int) - 7) = (k9 : Int) := by rw [IntWalk.i64_in _ (by omega)]; omega
          have q3 : IntKind.i64.wrap ((j : Int) - 2) = (k14 : Int) := by rw [IntWalk.i64_in _ (by omega)]; omega
          have n0 : (k : Int) < 64 := by omega
          have n1 : (k1 : Int) < 64 := by omega
          have n2 : (k9 : Int) < 64 := by omega
          have n3 : (k14 : Int) < 64 := by omega
          have n4 : (j : Int) < 64 := by omega
          have g0 := (HI.out.1.cell k).trans (padW_at l (i := k) (by omega))
          have g1 := (HI.out.1.cell k1).trans (padW_at l (i := k1) (by omega))
          have g2 := (HI.out.1.cell k9).trans (padW_at l (i := k9) (by omega))
          have g3 := (HI.out.1.cell k14).trans (padW_at l (i := k14) (by omega))
          generalize l.getD k 0 = y0 at *
          generalize l.getD k1 0 = y1 at *
          generalize l.getD k9 0 = y2 at *
          generalize l.getD k14 0 = y3 at *
          have a1 := iw_wadd y0 (sg 7 18 3 y1)
          have a2 := iw_wadd (y0 + sg 7 18 3 y1) y2
          have a3 := iw_wadd (y0 + sg 7 18 3 y1 + y2) (sg 17 19 10 y3)
          have HJ := Lib.hid (show j = 16 + k ∧ k1 = k + 1 from ⟨hj, hk1.symm⟩)
          clear hj hk1 hk9 hk14
          go_upto_region 9 with (fail)
          have e0 := fun d os => ((below_regrown wr d os).cell (p := ⟨w.heap.size, k, none⟩) HI.out.1.lt).trans g0
          have e1 := fun d os => ((below_regrown wr d os).cell (p := ⟨w.heap.size, k1, none⟩) HI.out.1.lt).trans g1
          have e2 := fun d os => ((below_regrown wr d os).cell (p := ⟨w.heap.size, k9, none⟩) HI.out.1.lt).trans g2
          have e3 := fun d os => ((below_regrown wr d os).cell (p := ⟨w.heap.size, k14, none⟩) HI.out.1.lt).trans g3
          clear g0 g1 g2 g3
          have HF1 := Lib.hid (fun (d : Nat) (os : Array Obj) => HM1.out y1 (grow (redrawn wr d) os))
          have HF2 := Lib.hid (fun (d : Nat) (os : Array Obj) => HM2.out y3 (grow (redrawn wr d) os))
          refine wp_region_tail_below 23 (by kernel_rfl) (by kernel_rfl) ?_
          simp only [List.take_succ_cons, List.take_zero, List.drop_succ_cons, List.drop_zero]
          repeat (quiet_step ((first
            | (go_at_call 74; with_reducible exact regrown (HF1.out _ _))
            | (go_at_call 74; with_reducible exact regrown (HF2.out _ _)))))
          refine wpQuiet_nil ?_
          rintro w3 ⟨p, rfl⟩
          have hb3 := below_regrown wr p.d p.os
          clear e0 e1 e2 e3
          generalize grow (redrawn wr p.d) p.os = w3 at *
          have hB3 := HI.out.1.kept hb3
          have hbw3 := HI.out.2.trans (hb3.mono HI.out.2.size)
          have hf3 := hB3.frozen
          have hc3 := hB3.cell j
          rw [padW_at _ (by omega)] at hc3
          have HN := Lib.hid (show Blk (w3.setCell ⟨w.heap.size, j, none⟩ (.int .u32 (iw (y0 + sg 7 18 3 y1 + y2 + sg 17 19 10 y3)))) w.heap.size 71 (padW (schedN bs k1)) by
            have := hB3.set_ j (.int .u32 (iw (y0 + sg 7 18 3 y1 + y2 + sg 17 19 10 y3)))
            rw [padW_set _ (by rw [HLk.out]; have := HJ.out.1; omega) (by rw [HLk.out]; exact HJ.out.1.symm), ← HS.out] at this
            exact this)
          clear HI hB3 hb3
          have HBw3 := Lib.hid hbw3
          clear hbw3
          go_wp2
          go_roundw
          case rel =>
            exact ⟨k1, j + 1, by have := HJ.out.2; omega, by have := HJ.out; omega, by go_num, Lib.hid ⟨HN.out, HBw3.out.setCell (by simp) _⟩⟩
          case measure => simp [intOf]; omega
        · have hj64 : (j : Int) = 64 := by omega
          have HI2 : Hid (Blk wr w.heap.size 71 (padW (schedN bs 48)) ∧ RowKit.Below w.heap.size w wr) := Lib.hid (by
            have := HI.out
            obtain rfl : k = 48 := by omega
            exact this)
          clear HI hlt hk HM1 HM2 hj
          rw [hj64]
          clear hj64
          go_wp2
          have hBs := HB.out.kept HI2.out.2
          have hs0 := hBs.lt
          have e0 := fun d os => (blk_regrown hBs d os 0).trans (show (stCs h sm n ++ tl).toArray[0]? = some (.int .u32 (iw h.a)) from rfl)
          have e1 := fun d os => (blk_regrown hBs d os 1).trans (show (stCs h sm n ++ tl).toArray[1]? = some (.int .u32 (iw h.b)) from rfl)
          have e2 := fun d os => (blk_regrown hBs d os 2).trans (show (stCs h sm n ++ tl).toArray[2]? = some (.int .u32 (iw h.c)) from rfl)
          have e3 := fun d os => (blk_regrown hBs d os 3).trans (show (stCs h sm n ++ tl).toArray[3]? = some (.int .u32 (iw h.d)) from rfl)
          have e4 := fun d os => (blk_regrown hBs d os 4).trans (show (stCs h sm n ++ tl).toArray[4]? = some (.int .u32 (iw h.e)) from rfl)
          have e5 := fun d os => (blk_regrown hBs d os 5).trans (show (stCs h sm n ++ tl).toArray[5]? = some (.int .u32 (iw h.f)) from rfl)
          have e6 := fun d os => (blk_regrown hBs d os 6).trans (show (stCs h sm n ++ tl).toArray[6]? = some (.int .u32 (iw h.g)) from rfl)
          have e7 := fun d os => (blk_regrown hBs d os 7).trans (show (stCs h sm n ++ tl).toArray[7]? = some (.int .u32 (iw h.h)) from rfl)
          refine wp_region_quiet_below (by kernel_rfl) (by kernel_rfl) ?_
          repeat (quiet_step ((fail)))
          refine wpQuiet_nil ?_
          rintro w3 ⟨p, rfl⟩
          have hb3 := below_regrown wr p.d p.os
          have HI3 := Lib.hid (show Blk (grow (redrawn wr p.d) p.os) w.heap.size 71 (padW (schedN bs 48)) ∧ RowKit.Below w.heap.size w (grow (redrawn wr p.d) p.os) from ⟨HI2.out.1.kept hb3, HI2.out.2.trans (hb3.mono HI2.out.2.size)⟩)
          clear e0 e1 e2 e3 e4 e5 e6 e7 hb3 HI2 hBs hs0
          generalize grow (redrawn wr p.d) p.os = w3 at *
          have HTu := Lib.hid (fun (x : BitVec 32) (W : World) => turned6_any x W)
          have HTv := Lib.hid (fun (x : BitVec 32) (W : World) => turned2_any x W)
          obtain ⟨W, hW⟩ : ∃ W, schedN bs 48 = W := ⟨_, rfl⟩
          have HWl := Lib.hid (show blkV h bs = addV h (rndN h W 64) by unfold blkV; rw [hW])
          rw [hW] at HI3
          clear hW
          go_wp2
          go_loopw [7, 8, 9, 10, 11, 12, 13, 14, 126] (fun x7 x8 x9 x10 x11 x12 x13 x14 i wr => ∃ (k : Nat) (va vb vc vd ve vf vg vh : BitVec 32), k ≤ 64 ∧ i = .int .i64 k ∧ Hid (rndN h W k = ⟨va, vb, vc, vd, ve, vf, vg, vh⟩) ∧ x7 = .int .u32 (iw va) ∧ x8 = .int .u32 (iw vb) ∧ x9 = .int .u32 (iw vc) ∧ x10 = .int .u32 (iw vd) ∧ x11 = .int .u32 (iw ve) ∧ x12 = .int .u32 (iw vf) ∧ x13 = .int .u32 (iw vg) ∧ x14 = .int .u32 (iw vh) ∧ Hid (Blk wr w.heap.size 71 (padW W) ∧ RowKit.Below w.heap.size w wr)) (fun _ _ _ _ _ _ _ _ i _ => 64 - (intOf i).toNat)
          case atStart => exact ⟨0, _, _, _, _, _, _, _, _, by omega, rfl, Lib.hid rfl, rfl, rfl, rfl, rfl, rfl, rfl, rfl, rfl, HI3⟩
          case round =>
            obtain ⟨k, va, vb, vc, vd, ve, vf, vg, vh, hk, rfl, HV, rfl, rfl, rfl, rfl, rfl, rfl, rfl, rfl, HI⟩ := hrel
            clear HI3
            by_cases hlt : k < 64
            · have HS := Lib.hid (show rndN h W (k + 1) = rnd (rndN h W k) (roundB k) (W.getD k 0) from rfl)
              rw [HV.out] at HS
              clear HV
              have n0 : (k : Int) < 64 := by omega
              have HTw := HT.out.kept HI.out.2
              have g0 := HTw.rounds k hlt
              rw [← roundB_iw k hlt] at g0
              have g1 := (HI.out.1.cell k).trans (padW_at W (i := k) (by omega))
              generalize W.getD k 0 = y0 at *
              generalize roundB k = rb at *
              obtain ⟨s1, hs1⟩ : ∃ x, sG 6 11 25 ve = x := ⟨_, rfl⟩
              obtain ⟨s2, hs2⟩ : ∃ x, sG 2 13 22 va = x := ⟨_, rfl⟩
              have HF1 := Lib.hid (fun (d : Nat) (os : Array Obj) => HTu.out ve (grow (redrawn wr d) os))
              have HF2 := Lib.hid (fun (W : World) => HTv.out va W)
              rw [hs1] at HF1
              rw [hs2] at HF2
              have HS1 := Lib.hid hs1
              have HS2 := Lib.hid hs2
              clear hs1 hs2
              have x1 := iw_xor vf vg
              have x2 := iw_and ve (vf ^^^ vg)
              have x3 := iw_xor vg (ve &&& (vf ^^^ vg))
              have a1 := iw_wadd vh s1
              have a2 := iw_wadd (vh + s1) (vg ^^^ (ve &&& (vf ^^^ vg)))
              have a3 := iw_wadd (vh + s1 + (vg ^^^ (ve &&& (vf ^^^ vg)))) rb
              have a4 := iw_wadd (vh + s1 + (vg ^^^ (ve &&& (vf ^^^ vg))) + rb) y0
              obtain ⟨tt, htt⟩ : ∃ x, vh + s1 + (vg ^^^ (ve &&& (vf ^^^ vg))) + rb + y0 = x := ⟨_, rfl⟩
              rw [htt] at a4
              have HTt := Lib.hid htt
              clear htt
              go_upto_region 14 with (fail)
              have hT2 := HTw.size
              have e0 := fun d os => ((below_regrown wr d os).cell (p := ⟨1, k, none⟩) (by show 1 < _; omega)).trans g0
              have e1 := fun d os => ((below_regrown wr d os).cell (p := ⟨w.heap.size, k, none⟩) HI.out.1.lt).trans g1
              clear g0 g1 HTw
              refine wp_region_quiet_below (by kernel_rfl) (by kernel_rfl) ?_
              repeat (quiet_step ((go_at_call 75; with_reducible exact regrown_same (HF1.out _ _))))
              refine wpQuiet_nil ?_
              rintro w3 ⟨p, rfl⟩
              have hb3 := below_regrown wr p.d p.os
              clear e0 e1 hT2
              generalize grow (redrawn wr p.d) p.os = w3 at *
              have HI3 : Hid (Blk w3 w.heap.size 71 (padW W) ∧ RowKit.Below w.heap.size w w3) := Lib.hid ⟨HI.out.1.kept hb3, HI.out.2.trans (hb3.mono HI.out.2.size)⟩
              clear HI hb3 x1 x2 x3 a1 a2 a3 a4
              have z1 := iw_and va vb
              have z2 := iw_or va vb
              have z3 := iw_and vc (va ||| vb)
              have z4 := iw_or (va &&& vb) (vc &&& (va ||| vb))
              have d1 := iw_add s2 ((va &&& vb) ||| (vc &&& (va ||| vb)))
              have d2 := iw_add tt (s2 + ((va &&& vb) ||| (vc &&& (va ||| vb))))
              have d3 := iw_add vd tt
              have d1' := iw_wadd s2 ((va &&& vb) ||| (vc &&& (va ||| vb)))
              have d2' := iw_wadd tt (s2 + ((va &&& vb) ||| (vc &&& (va ||| vb))))
              have d3' := iw_wadd vd tt
              go_wp2_with (go_at_call 75; with_reducible refine (HF2.out _).mono ?_; rintro e w4 ⟨rfl, rfl⟩)
              go_roundw
              case rel =>
                refine ⟨k + 1, _, _, _, _, _, _, _, _, by omega, by go_num, Lib.hid ?_, rfl, rfl, rfl, rfl, rfl, rfl, rfl, rfl, HI3⟩
                rw [HS.out]
                unfold rnd
                simp only [HS1.out, HS2.out, HTt.out]
              case measure => simp [intOf]; omega
            · have hk64 : (k : Int) = 64 := by omega
              have HZ : Hid (rndN h W 64 = ⟨va, vb, vc, vd, ve, vf, vg, vh⟩) := Lib.hid (by
                have := HV.out
                obtain rfl : k = 64 := by omega
                exact this)
              clear hlt hk HV HTu HTv
              rw [hk64]
              clear hk64
              have hBs := HB.out.kept HI.out.2
              have HN0 : Hid (Blk wr g t ((addN h ⟨va, vb, vc, vd, ve, vf, vg, vh⟩ 0).cs ++ (sm.flatMap encB ++ [Value.int .u64 n] ++ tl)).toArray ∧ Near (fun i => i = g) w wr) := Lib.hid ⟨by
                have e : stCs h sm n ++ tl = h.cs ++ (sm.flatMap encB ++ [Value.int .u64 n] ++ tl) := by unfold stCs; rw [List.append_assoc]
                rw [e] at hBs
                exact hBs, Near.of_below _ HI.out.2⟩
              clear HI hBs
              go_wp2
              go_loopw [183] (fun i wr => ∃ k : Nat, k ≤ 8 ∧ i = .int .i64 k ∧ Hid (Blk wr g t ((addN h ⟨va, vb, vc, vd, ve, vf, vg, vh⟩ k).cs ++ (sm.flatMap encB ++ [Value.int .u64 n] ++ tl)).toArray ∧ Near (fun i => i = g) w wr)) (fun i _ => 8 - (intOf i).toNat)
              case atStart => exact ⟨0, by omega, rfl, HN0⟩
              case round =>
                obtain ⟨k, hk, rfl, HI⟩ := hrel
                clear HN0
                by_cases hlt : k < 8
                · have n0 : (k : Int) < 8 := by omega
                  have hix := fun W => index8 va vb vc vd ve vf vg vh hlt W
                  have HSt := Lib.hid (fun r => addN_set h ⟨va, vb, vc, vd, ve, vf, vg, vh⟩ hlt r)
                  have hgt : ((addN h ⟨va, vb, vc, vd, ve, vf, vg, vh⟩ k).cs ++ (sm.flatMap encB ++ [Value.int .u64 n] ++ tl)).toArray[k]? = some (.int .u32 (iw (h.get k))) := by
                    rw [List.getElem?_toArray, List.getElem?_append_left (by show k < 8; exact hlt), V8.cs_at _ hlt, addN_get h _ hlt]
                  have a1 := iw_wadd (h.get k) ((⟨va, vb, vc, vd, ve, vf, vg, vh⟩ : V8).get k)
                  generalize (⟨va, vb, vc, vd, ve, vf, vg, vh⟩ : V8).get k = y1 at *
                  generalize h.get k = y0 at *
                  go_upto_region 21 with (fail)
                  have e0 := fun d os => (blk_regrown HI.out.1 d os k).trans hgt
                  have hs0 := HI.out.1.lt
                  refine wp_region_tail_below 11 (by kernel_rfl) (by kernel_rfl) ?_
                  simp only [List.take_succ_cons, List.take_zero, List.drop_succ_cons, List.drop_zero]
                  repeat (quiet_step ((fail)))
                  refine wpQuiet_nil ?_
                  rintro w3 ⟨p, rfl⟩
                  have hb3 := below_regrown wr p.d p.os
                  clear e0 hs0 a1 hix
                  generalize grow (redrawn wr p.d) p.os = w3 at *
                  have hB3 := HI.out.1.kept hb3
                  have hc3 := (hB3.cell k).trans hgt
                  have hf3 := hB3.frozen
                  have HN : Hid (Blk (w3.setCell ⟨g, k, none⟩ (.int .u32 (iw (y0 + y1)))) g t ((addN h ⟨va, vb, vc, vd, ve, vf, vg, vh⟩ (k + 1)).cs ++ (sm.flatMap encB ++ [Value.int .u64 n] ++ tl)).toArray ∧ Near (fun i => i = g) w (w3.setCell ⟨g, k, none⟩ (.int .u32 (iw (y0 + y1))))) := Lib.hid ⟨by
                    have := hB3.set_ k (.int .u32 (iw (y0 + y1)))
                    rw [List.setIfInBounds_toArray, HSt.out] at this
                    exact this, (HI.out.2.trans (Near.of_below _ hb3)).setCell (p := ⟨g, k, none⟩) rfl _⟩
                  clear hB3 hb3 hgt HI
                  go_wp2
                  go_roundw
                  case rel => exact ⟨k + 1, by omega, by go_num, HN⟩
                  case measure => simp [intOf]; omega
                · have HE : Hid (Blk wr g t (stCs (blkV h bs) sm n ++ tl).toArray ∧ Near (fun i => i = g) w wr) := Lib.hid (by
                    have := HI.out
                    obtain rfl : k = 8 := by omega
                    rw [addN_all, ← HZ.out, ← HWl.out, ← List.append_assoc] at this
                    exact this)
                  go_wp2
                  go_end0
                  exact ⟨rfl, HE.out⟩
end Go.Proofs.YtjcklmhkdpbbdaaDoor
