/- Chapter 14: which guests are alike, as the document says; walked: the head. (Printed by cfs.py.) -/
import Derived.Test.YtmhbpfclfffgkaaCfE
namespace Go.Proofs.Ytmhbpfclfffgkaa
set_option linter.unusedVariables false
set_option linter.unusedSimpArgs false
open Go.RowKit Go.Sort

set_option maxRecDepth 100000 in
set_option maxHeartbeats 8000000 in
theorem rsg_head (a b : Gs × Gp) (w : World) (ha : GsR w w.heap.size a) (hb : GsR w w.heap.size b) (hk : ((((((((a.1.nm.toList == b.1.nm.toList) && (a.1.mand == b.1.mand)) && (a.1.off == b.1.off)) && (a.1.len == b.1.len)) && (a.1.cpus == b.1.cpus)) && (a.1.entry == b.1.entry)) && (a.1.dtb == b.1.dtb)) && decide (a.1.key = b.1.key)) = false) :
    Calls Try.prog 33 #[.agg (gcells a).toArray, .agg (gcells b).toArray] w fun e w' => e = .returned (.bool (gEqB a.1 b.1)) ∧ Below w.heap.size w w' := by
  have hF : gEqB a.1 b.1 = false := by
    unfold gEqB
    rw [hk]; rfl
  rw [hF]
  have HMa := Lib.hid ha
  have HMb := Lib.hid hb
  have HA := Lib.hid ((Blk.new w 70 (gcells a).toArray).alloc (.cells (gcells b).toArray 70))
  have HB : Hid (Blk ((w.alloc (.cells (gcells a).toArray 70)).alloc (.cells (gcells b).toArray 70)) (w.heap.size + 1) 70 (gcells b).toArray) := Lib.hid (by
    have := Blk.new (w.alloc (.cells (gcells a).toArray 70)) 70 (gcells b).toArray
    simpa using this)
  have HbX := Lib.hid (bal (bal (Below.refl w.heap.size w) (.cells (gcells a).toArray 70)) (.cells (gcells b).toArray 70))
  have HGa := Lib.hid (gst_cells HA.out ha.kl)
  have HGb := Lib.hid (gst_cells HB.out hb.kl)
  obtain ⟨c0, c1, c2, c3, c4, c5, c6, -, -, -, -, -⟩ := HGa.out
  obtain ⟨d0, d1, d2, d3, d4, d5, d6, -, -, -, -, -⟩ := HGb.out
  have Hia : Hid ((Try.prog.info? 64).map (·.size) = some (a.1.key.flatMap encB).length) := Lib.hid (by rw [flatB_len, ha.kl]; kernel_rfl)
  have Hib : Hid ((Try.prog.info? 64).map (·.size) = some (b.1.key.flatMap encB).length) := Lib.hid (by rw [flatB_len, hb.kl]; kernel_rfl)
  have hE := fun W => key_neq W ha.kl hb.kl
  obtain ⟨x0, h0⟩ : ∃ x, (a.1.nm.toList == b.1.nm.toList) = x := ⟨_, rfl⟩
  have e0 : (a.1.nm.toList != b.1.nm.toList) = !x0 := by rw [bne, h0]
  obtain ⟨x1, h1⟩ : ∃ x, (a.1.mand == b.1.mand) = x := ⟨_, rfl⟩
  have e1 : (a.1.mand != b.1.mand) = !x1 := by rw [bne, h1]
  obtain ⟨x2, h2⟩ : ∃ x, (a.1.off == b.1.off) = x := ⟨_, rfl⟩
  have e2 : (a.1.off != b.1.off) = !x2 := by rw [bne, h2]
  obtain ⟨x3, h3⟩ : ∃ x, (a.1.len == b.1.len) = x := ⟨_, rfl⟩
  have e3 : (a.1.len != b.1.len) = !x3 := by rw [bne, h3]
  obtain ⟨x4, h4⟩ : ∃ x, (a.1.cpus == b.1.cpus) = x := ⟨_, rfl⟩
  have e4 : (a.1.cpus != b.1.cpus) = !x4 := by rw [bne, h4]
  obtain ⟨x5, h5⟩ : ∃ x, (a.1.entry == b.1.entry) = x := ⟨_, rfl⟩
  have e5 : (a.1.entry != b.1.entry) = !x5 := by rw [bne, h5]
  obtain ⟨x6, h6⟩ : ∃ x, (a.1.dtb == b.1.dtb) = x := ⟨_, rfl⟩
  have e6 : (a.1.dtb != b.1.dtb) = !x6 := by rw [bne, h6]
  obtain ⟨x7, h7⟩ : ∃ x, (decide (a.1.key = b.1.key)) = x := ⟨_, rfl⟩
  rw [h7] at hE
  rw [h0, h1, h2, h3, h4, h5, h6, h7] at hk
  clear ha hb hF h7
  cases x0
  case false =>
    clear hk
    clear e1 h1 c1 d1
    clear e2 h2 c2 d2
    clear e3 h3 c3 d3
    clear e4 h4 c4 d4
    clear e5 h5 c5 d5
    clear e6 h6 c6 d6
    clear hE
    simp only [Bool.not_false, Bool.not_true] at *
    go_enter Try.func33, Try.ntmps33
    go_wp2
    go_ret
    exact ⟨rfl, HbX.out⟩
  cases x1
  case false =>
    clear hk
    clear e2 h2 c2 d2
    clear e3 h3 c3 d3
    clear e4 h4 c4 d4
    clear e5 h5 c5 d5
    clear e6 h6 c6 d6
    clear hE
    simp only [Bool.not_false, Bool.not_true] at *
    go_enter Try.func33, Try.ntmps33
    go_wp2
    go_ret
    exact ⟨rfl, HbX.out⟩
  cases x2
  case false =>
    clear hk
    clear e3 h3 c3 d3
    clear e4 h4 c4 d4
    clear e5 h5 c5 d5
    clear e6 h6 c6 d6
    clear hE
    simp only [Bool.not_false, Bool.not_true] at *
    go_enter Try.func33, Try.ntmps33
    go_wp2
    go_ret
    exact ⟨rfl, HbX.out⟩
  cases x3
  case false =>
    clear hk
    clear e4 h4 c4 d4
    clear e5 h5 c5 d5
    clear e6 h6 c6 d6
    clear hE
    simp only [Bool.not_false, Bool.not_true] at *
    go_enter Try.func33, Try.ntmps33
    go_wp2
    go_ret
    exact ⟨rfl, HbX.out⟩
  cases x4
  case false =>
    clear hk
    clear e5 h5 c5 d5
    clear e6 h6 c6 d6
    clear hE
    simp only [Bool.not_false, Bool.not_true] at *
    go_enter Try.func33, Try.ntmps33
    go_wp2
    go_ret
    exact ⟨rfl, HbX.out⟩
  cases x5
  case false =>
    clear hk
    clear e6 h6 c6 d6
    clear hE
    simp only [Bool.not_false, Bool.not_true] at *
    go_enter Try.func33, Try.ntmps33
    go_wp2
    go_ret
    exact ⟨rfl, HbX.out⟩
  cases x6
  case false =>
    clear hk
    clear hE
    simp only [Bool.not_false, Bool.not_true] at *
    go_enter Try.func33, Try.ntmps33
    go_wp2
    go_ret
    exact ⟨rfl, HbX.out⟩
  cases x7
  case false =>
    clear hk
    simp only [Bool.not_false, Bool.not_true] at *
    go_enter Try.func33, Try.ntmps33
    go_wp2_with (first
      | (refine wpList_load_want (by kernel_rfl) 64 (.tmp 59) rfl (w.heap.size + 1) 7 (by rfl) (b.1.key.flatMap encB) _ HGb.out.key Try.underlying64 rfl Hib.out ?_)
      | (refine wpList_load_want (by kernel_rfl) 64 (.tmp 57) rfl w.heap.size 7 (by rfl) (a.1.key.flatMap encB) _ HGa.out.key Try.underlying64 rfl Hia.out ?_))
    go_ret
    exact ⟨rfl, HbX.out⟩
  cases hk
end Go.Proofs.Ytmhbpfclfffgkaa
