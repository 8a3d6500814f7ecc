/- Chapter 14: which guests are alike, as the program says; walked: streams. -/
import Derived.Test.YtmhbpfclfffgkaaCfD
namespace Go.Proofs.Ytmhbpfclfffgkaa
set_option linter.unusedVariables false
set_option linter.unusedSimpArgs false
open Go.RowKit Go.Sort

set_option maxRecDepth 100000 in
set_option maxHeartbeats 8000000 in
theorem sg_S (a b : Gs × Gp) (w : World) (ha : GsR w w.heap.size a) (hb : GsR w w.heap.size b) (hk : (((((((((((a.1.nm.toList == b.1.nm.toList) && (a.1.mand == b.1.mand)) && (a.1.off == b.1.off)) && (a.1.len == b.1.len)) && (a.1.cpus == b.1.cpus)) && (a.1.entry == b.1.entry)) && (a.1.dtb == b.1.dtb)) && (decide (a.1.key = b.1.key))) && (decide (a.1.ws = b.1.ws))) && (decide (a.1.ds = b.1.ds))) && (decide (a.1.qs = b.1.qs))) = true) :
    Calls Try.prog 39 #[.agg (gcells a).toArray, .agg (gcells b).toArray] w fun e w' => e = .returned (.bool (gEqB a.1 b.1)) ∧ Below w.heap.size w w' := by
  have HMa := Lib.hid ha
  have HMb := Lib.hid hb
  have HA := Lib.hid ((Blk.new w 70 (gcells a).toArray).alloc (.cells (gcells b).toArray 70))
  have HB : Hid (Blk ((w.alloc (.cells (gcells a).toArray 70)).alloc (.cells (gcells b).toArray 70)) (w.heap.size + 1) 70 (gcells b).toArray) := Lib.hid (by
    have := Blk.new (w.alloc (.cells (gcells a).toArray 70)) 70 (gcells b).toArray
    simpa using this)
  have HbX := Lib.hid (bal (bal (Below.refl w.heap.size w) (.cells (gcells a).toArray 70)) (.cells (gcells b).toArray 70))
  have HGa := Lib.hid (gst_cells HA.out ha.kl)
  have HGb := Lib.hid (gst_cells HB.out hb.kl)
  obtain ⟨c0, c1, c2, c3, c4, c5, c6, cW, -, -, -, -⟩ := HGa.out
  obtain ⟨d0, d1, d2, d3, d4, d5, d6, dW, -, -, -, -⟩ := HGb.out
  have Hia : Hid ((Try.prog.info? 64).map (·.size) = some (a.1.key.flatMap encB).length) := Lib.hid (by rw [flatB_len, ha.kl]; kernel_rfl)
  have Hib : Hid ((Try.prog.info? 64).map (·.size) = some (b.1.key.flatMap encB).length) := Lib.hid (by rw [flatB_len, hb.kl]; kernel_rfl)
  have hE := fun W => key_eql W ha.kl hb.kl
  obtain ⟨x0, h0⟩ : ∃ x, (a.1.nm.toList == b.1.nm.toList) = x := ⟨_, rfl⟩
  obtain ⟨x1, h1⟩ : ∃ x, (a.1.mand == b.1.mand) = x := ⟨_, rfl⟩
  obtain ⟨x2, h2⟩ : ∃ x, (a.1.off == b.1.off) = x := ⟨_, rfl⟩
  obtain ⟨x3, h3⟩ : ∃ x, (a.1.len == b.1.len) = x := ⟨_, rfl⟩
  obtain ⟨x4, h4⟩ : ∃ x, (a.1.cpus == b.1.cpus) = x := ⟨_, rfl⟩
  obtain ⟨x5, h5⟩ : ∃ x, (a.1.entry == b.1.entry) = x := ⟨_, rfl⟩
  obtain ⟨x6, h6⟩ : ∃ x, (a.1.dtb == b.1.dtb) = x := ⟨_, rfl⟩
  obtain ⟨x7, h7⟩ : ∃ x, (decide (a.1.key = b.1.key)) = x := ⟨_, rfl⟩
  obtain ⟨x8, h8⟩ : ∃ x, (decide (a.1.ws = b.1.ws)) = x := ⟨_, rfl⟩
  obtain ⟨x9, h9⟩ : ∃ x, (decide (a.1.ds = b.1.ds)) = x := ⟨_, rfl⟩
  obtain ⟨x10, h10⟩ : ∃ x, (decide (a.1.qs = b.1.qs)) = x := ⟨_, rfl⟩
  obtain ⟨x11, h11⟩ : ∃ x, (decide (a.1.ss = b.1.ss)) = x := ⟨_, rfl⟩
  have hR : gEqB a.1 b.1 = (((((((((((x0 && x1) && x2) && x3) && x4) && x5) && x6) && x7) && x8) && x9) && x10) && x11) := by unfold gEqB; rw [h0, h1, h2, h3, h4, h5, h6, h7, h8, h9, h10, h11]
  rw [hR]
  rw [h7] at hE
  have HW := fun W (h : Below w.heap.size w W) => eqWn_any a.2.AW a.1.ws.length a.2.cW a.1.ws b.2.AW b.1.ws.length b.2.cW b.1.ws W (rows_ml (Nat.le_trans ha.lW.1 ha.lW.2)) rfl rfl (fun _ _ => trivial) (fun _ _ => trivial) ((ha.rW.below h).more h.size) ((hb.rW.below h).more h.size)
  have HD := fun W (h : Below w.heap.size w W) => eqDv_any a.2.AD a.1.ds.length a.2.cD a.1.ds b.2.AD b.1.ds.length b.2.cD b.1.ds W (rows_ml (Nat.le_trans ha.lD.1 ha.lD.2)) rfl rfl (fun _ _ => trivial) (fun _ _ => trivial) ((ha.rD.below h).more h.size) ((hb.rD.below h).more h.size)
  have HI := fun W (h : Below w.heap.size w W) => eqIq_any a.2.AI a.1.qs.length a.2.cI a.1.qs b.2.AI b.1.qs.length b.2.cI b.1.qs W (rows_ml (Nat.le_trans ha.lI.1 ha.lI.2)) rfl rfl (fun _ _ => trivial) (fun _ _ => trivial) ((ha.rI.below h).more h.size) ((hb.rI.below h).more h.size)
  have HS := fun W (h : Below w.heap.size w W) => eqU32_any a.2.AS a.1.ss.length a.2.cS a.1.ss b.2.AS b.1.ss.length b.2.cS b.1.ss W (rows_ml (Nat.le_trans ha.lS.1 ha.lS.2)) rfl rfl ((ha.rS.below h).more h.size) ((hb.rS.below h).more h.size)
  rw [h8] at HW
  rw [h9] at HD
  rw [h10] at HI
  rw [h11] at HS
  have HW := Lib.hid HW
  have HD := Lib.hid HD
  have HI := Lib.hid HI
  have HS := Lib.hid HS
  rw [h0, h1, h2, h3, h4, h5, h6, h7, h8, h9, h10] at hk
  simp only [Bool.and_eq_true] at hk
  obtain ⟨⟨⟨⟨⟨⟨⟨⟨⟨⟨k0, k1⟩, k2⟩, k3⟩, k4⟩, k5⟩, k6⟩, k7⟩, k8⟩, k9⟩, k10⟩ := hk
  subst k0 k1 k2 k3 k4 k5 k6 k7 k8 k9 k10
  clear ha hb hR h7 h8 h9 h10 h11
  simp only [Bool.false_and, Bool.true_and]
  go_enter Try.func39, Try.ntmps39
  go_wp2_with (first
    | (go_at_call 78; refine (HS.out _ hbx3).mono ?_; rintro e w4 ⟨rfl, hb4⟩; have hbx4 := hbx3.trans (hb4.mono hbx3.size))
    | (go_at_call 77; refine (HI.out _ hbx2).mono ?_; rintro e w3 ⟨rfl, hb3⟩; obtain ⟨-, -, -, -, -, -, -, -, -, -, a6, -⟩ := gst_cells (HA2.out.kept hb3) HMa.out.kl; obtain ⟨-, -, -, -, -, -, -, -, -, -, b6, -⟩ := gst_cells (HB2.out.kept hb3) HMb.out.kl; have hbx3 := hbx2.trans (hb3.mono hbx2.size))
    | (go_at_call 76; refine (HD.out _ hbx1).mono ?_; rintro e w2 ⟨rfl, hb2⟩; obtain ⟨-, -, -, -, -, -, -, -, -, a4, a5, -⟩ := gst_cells (HA1.out.kept hb2) HMa.out.kl; obtain ⟨-, -, -, -, -, -, -, -, -, b4, b5, -⟩ := gst_cells (HB1.out.kept hb2) HMb.out.kl; have hbx2 := hbx1.trans (hb2.mono hbx1.size); have HA2 := Lib.hid (HA1.out.kept hb2); have HB2 := Lib.hid (HB1.out.kept hb2))
    | (go_at_call 75; refine (HW.out _ HbX.out).mono ?_; rintro e w1 ⟨rfl, hb1⟩; obtain ⟨-, -, -, -, -, -, -, -, a1, a2, a3, -⟩ := gst_cells (HA.out.kept hb1) HMa.out.kl; obtain ⟨-, -, -, -, -, -, -, -, b1, b2, b3, -⟩ := gst_cells (HB.out.kept hb1) HMb.out.kl; have hbx1 := HbX.out.trans (hb1.mono HbX.out.size); have HA1 := Lib.hid (HA.out.kept hb1); have HB1 := Lib.hid (HB.out.kept hb1))
    | (refine wpList_load_want (by kernel_rfl) 64 (.tmp 55) rfl (w.heap.size + 1) 7 (by rfl) (b.1.key.flatMap encB) _ HGb.out.key Try.underlying64 rfl Hib.out ?_)
    | (refine wpList_load_want (by kernel_rfl) 64 (.tmp 53) rfl w.heap.size 7 (by rfl) (a.1.key.flatMap encB) _ HGa.out.key Try.underlying64 rfl Hia.out ?_))
  go_ret
  exact ⟨rfl, hbx4⟩
end Go.Proofs.Ytmhbpfclfffgkaa
