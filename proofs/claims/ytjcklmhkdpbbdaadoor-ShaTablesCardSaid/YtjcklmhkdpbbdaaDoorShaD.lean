/- Chapter 3: the document's block, walked. -/
import Derived.Test.YtjcklmhkdpbbdaaDoorShaC
import Derived.Test.YtjcklmhkdpbbdaaDoorBox
import Derived.Deep.QuietTactic
namespace Go.Proofs.YtjcklmhkdpbbdaaDoor
set_option linter.unusedVariables false
set_option linter.unusedSimpArgs false
open Go.RowKit Go.Sort

def tabW : List (BitVec 32) := (List.range 64).map roundB
theorem tabW_len : tabW.length = 64 := by simp [tabW]
theorem tabW_at {k : Nat} (h : k < 64) : tabW.getD k 0 = roundB k := by simp [tabW, h]
def vI : V8 := ⟨BitVec.ofNat 32 1779033703, BitVec.ofNat 32 3144134277, BitVec.ofNat 32 1013904242, BitVec.ofNat 32 2773480762, BitVec.ofNat 32 1359893119, BitVec.ofNat 32 2600822924, BitVec.ofNat 32 528734635, BitVec.ofNat 32 1541459225⟩
theorem build_tab (w : World) : (Instr.build 71 #[(0, .int .u32 1116352408), (1, .int .u32 1899447441), (2, .int .u32 3049323471), (3, .int .u32 3921009573), (4, .int .u32 961987163), (5, .int .u32 1508970993), (6, .int .u32 2453635748), (7, .int .u32 2870763221), (8, .int .u32 3624381080), (9, .int .u32 310598401), (10, .int .u32 607225278), (11, .int .u32 1426881987), (12, .int .u32 1925078388), (13, .int .u32 2162078206), (14, .int .u32 2614888103), (15, .int .u32 3248222580), (16, .int .u32 3835390401), (17, .int .u32 4022224774), (18, .int .u32 264347078), (19, .int .u32 604807628), (20, .int .u32 770255983), (21, .int .u32 1249150122), (22, .int .u32 1555081692), (23, .int .u32 1996064986), (24, .int .u32 2554220882), (25, .int .u32 2821834349), (26, .int .u32 2952996808), (27, .int .u32 3210313671), (28, .int .u32 3336571891), (29, .int .u32 3584528711), (30, .int .u32 113926993), (31, .int .u32 338241895), (32, .int .u32 666307205), (33, .int .u32 773529912), (34, .int .u32 1294757372), (35, .int .u32 1396182291), (36, .int .u32 1695183700), (37, .int .u32 1986661051), (38, .int .u32 2177026350), (39, .int .u32 2456956037), (40, .int .u32 2730485921), (41, .int .u32 2820302411), (42, .int .u32 3259730800), (43, .int .u32 3345764771), (44, .int .u32 3516065817), (45, .int .u32 3600352804), (46, .int .u32 4094571909), (47, .int .u32 275423344), (48, .int .u32 430227734), (49, .int .u32 506948616), (50, .int .u32 659060556), (51, .int .u32 883997877), (52, .int .u32 958139571), (53, .int .u32 1322822218), (54, .int .u32 1537002063), (55, .int .u32 1747873779), (56, .int .u32 1955562222), (57, .int .u32 2024104815), (58, .int .u32 2227730452), (59, .int .u32 2361852424), (60, .int .u32 2428436474), (61, .int .u32 2756734187), (62, .int .u32 3204031479), (63, .int .u32 3329325298)]).run Tryd.prog w = .ok (.agg (padW tabW)) w := run_build w _ _ _ (by kernel_rfl)
theorem build_init (w : World) : (Instr.build 35 #[(0, .int .u32 1779033703), (1, .int .u32 3144134277), (2, .int .u32 1013904242), (3, .int .u32 2773480762), (4, .int .u32 1359893119), (5, .int .u32 2600822924), (6, .int .u32 528734635), (7, .int .u32 1541459225)]).run Tryd.prog w = .ok (.agg vI.cs.toArray) w := run_build w _ _ _ (by kernel_rfl)
theorem padW_one (l : List (BitVec 32)) : ∀ u ∈ (padW l).toList, u.oneCell' = true := by
  intro u hu
  simp only [padW, List.mem_map] at hu
  obtain ⟨x, _, rfl⟩ := hu
  rfl
theorem padW_llen (l : List (BitVec 32)) : (padW l).toList.length = 64 := by simp [padW]
theorem V8.one (v : V8) : ∀ u ∈ v.cs, u.oneCell' = true := by
  intro u hu
  simp only [V8.cs, List.mem_cons, List.not_mem_nil, or_false] at hu
  rcases hu with rfl | rfl | rfl | rfl | rfl | rfl | rfl | rfl <;> rfl
theorem V8.len (v : V8) : v.cs.length = 8 := rfl
theorem info_w8 : (Tryd.prog.info? 35).map (fun i => (i.zero, i.size)) = some (some (.agg (Array.replicate 8 (.int .u32 0))), 8) := by kernel_rfl
theorem store_w64 (l : List (BitVec 32)) (w : World) : (storeCells ⟨w.heap.size, 0, none⟩ (padW l).toList 0).run Tryd.prog (w.alloc (.cells (Array.replicate 64 (.int .u32 0)) 71)) = .ok () (w.alloc (.cells (padW l) 71)) := by
  have := store_new (P := Tryd.prog) (T := 71) (s := 64) (Z := Array.replicate 64 (.int .u32 0)) (by simp) (by kernel_rfl) (padW_llen l) (padW_one l) w
  simpa using this
theorem store_w8 (v : V8) (w : World) : (storeCells ⟨w.heap.size, 0, none⟩ v.cs 0).run Tryd.prog (w.alloc (.cells (Array.replicate 8 (.int .u32 0)) 35)) = .ok () (w.alloc (.cells v.cs.toArray 35)) :=
  store_new (P := Tryd.prog) (T := 35) (s := 8) (Z := Array.replicate 8 (.int .u32 0)) (by simp) (by kernel_rfl) v.len v.one w

set_option maxRecDepth 100000 in
set_option maxHeartbeats 1000000 in
theorem refTable_any (w : World) : Calls Tryd.prog 57 #[] w fun e w' => e = .returned (.agg (padW tabW)) ∧ Below w.heap.size w w' := by
  have HB := Lib.hid (fun W => build_tab W)
  have hz := (zero_of_info info_w64).1
  have hst := fun W => store_w64 tabW W
  have HBl := Lib.hid (Blk.new w 71 (padW tabW))
  have Hbw := Lib.hid (bal (Below.refl w.heap.size w) (.cells (padW tabW) 71))
  obtain ⟨P0, hP0⟩ : ∃ x, padW tabW = x := ⟨_, rfl⟩
  rw [hP0] at HB HBl Hbw hst
  have hsz : P0.size = 64 := by rw [← hP0]; exact padW_size _
  have HP := Lib.hid hP0
  clear hP0
  go_enter Tryd.func57, Tryd.ntmps57
  go_upto_region 1 with (fail)
  refine wp_region_lit ?_
  refine wpList_built rfl 71 _ rfl ?hv (HB.out _) ?_
  case hv => kernel_rfl
  go_wp2
  refine bodyPost_ret (res_cell1 rfl (b := w.heap.size) (o := 0) (cs := P0.toList) rfl HBl.out.rangeA Tryd.underlying71 rfl (by rw [Array.length_toList, hsz]; kernel_rfl)) rfl ⟨?_, Hbw.out⟩
  rw [HP.out, Array.toArray_toList]
theorem first_iw : ∀ i, i < 8 → iw (vI.get i) = firstZ.getD i 0 := by
  have h : (List.range 8).all (fun k => decide (iw (vI.get k) = firstZ.getD k 0)) = true := by decide +kernel
  intro k hk
  exact of_decide_eq_true (List.all_eq_true.1 h k (List.mem_range.2 hk))
theorem Tabs.rangeR {w : World} (h : Tabs w) : w.rangeAt 1 0 (padW tabW).toList := by
  intro j v hv
  rw [Nat.zero_add]
  have hj : j < 64 := by
    have := (List.getElem?_eq_some_iff.1 hv).1
    rwa [padW_llen] at this
  rw [h.rounds j hj, ← roundB_iw j hj, ← tabW_at hj]
  rw [Array.getElem?_toList, padW_at _ hj] at hv
  exact hv
theorem Tabs.rangeF {w : World} (h : Tabs w) : w.rangeAt 0 0 vI.cs := by
  intro j v hv
  rw [Nat.zero_add]
  have hj : j < 8 := (List.getElem?_eq_some_iff.1 hv).1
  rw [h.first j hj, ← first_iw j hj]
  rw [V8.cs_at _ hj] at hv
  exact hv

set_option maxRecDepth 100000 in
set_option maxHeartbeats 1000000 in
theorem shaTable_any (w : World) (hT : Tabs w) : Calls Tryd.prog 39 #[] w fun e w' => e = .returned (.agg (padW tabW)) ∧ Below w.heap.size w w' := by
  have hz := (zero_of_info info_w64).1
  have hst := fun W => store_w64 tabW W
  have HBl := Lib.hid (Blk.new w 71 (padW tabW))
  have Hbw := Lib.hid (bal (Below.refl w.heap.size w) (.cells (padW tabW) 71))
  have Hb0 := Lib.hid (bal (Below.refl w.heap.size w) (.cells (Array.replicate 64 (.int .u32 0)) 71))
  have HR := Lib.hid (hT.kept Hb0.out).rangeR
  obtain ⟨P0, hP0⟩ : ∃ x, padW tabW = x := ⟨_, rfl⟩
  rw [hP0] at HBl Hbw hst HR
  have hsz : P0.size = 64 := by rw [← hP0]; exact padW_size _
  have HP := Lib.hid hP0
  clear hP0 hT
  go_enter Tryd.func39, Tryd.ntmps39
  go_wp2_with (refine wpList_load_mid rfl 71 (.global 1) rfl 1 0 (by rfl) P0.toList _ HR.out Tryd.underlying71 rfl (by rw [Array.length_toList, hsz]; kernel_rfl) ?_)
  refine bodyPost_ret (res_cell1 rfl (b := w.heap.size) (o := 0) (cs := P0.toList) rfl (by simpa using HBl.out.rangeA) Tryd.underlying71 rfl (by rw [Array.length_toList, hsz]; kernel_rfl)) rfl ⟨?_, by simpa using Hbw.out⟩
  rw [HP.out, Array.toArray_toList]
set_option maxRecDepth 100000 in
set_option maxHeartbeats 1000000 in
theorem refInit_any (w : World) : Calls Tryd.prog 53 #[] w fun e w' => e = .returned (.agg vI.cs.toArray) ∧ Below w.heap.size w w' := by
  have HB := Lib.hid (fun W => build_init W)
  have hz := (zero_of_info info_w8).1
  have hst := fun W => store_w8 vI W
  have HBl := Lib.hid (Blk.new w 35 vI.cs.toArray)
  have Hbw := Lib.hid (bal (Below.refl w.heap.size w) (.cells vI.cs.toArray 35))
  have hsl := vI.len
  generalize vI.cs = P0 at *
  go_enter Tryd.func53, Tryd.ntmps53
  go_upto_region 1 with (fail)
  refine wp_region_lit ?_
  refine wpList_built rfl 35 _ rfl ?hv (HB.out _) ?_
  case hv => kernel_rfl
  go_wp2
  exact bodyPost_ret (res_cell1 rfl (b := w.heap.size) (o := 0) (cs := P0) rfl HBl.out.range Tryd.underlying35 rfl (by rw [hsl]; kernel_rfl)) rfl ⟨rfl, Hbw.out⟩
end Go.Proofs.YtjcklmhkdpbbdaaDoor
