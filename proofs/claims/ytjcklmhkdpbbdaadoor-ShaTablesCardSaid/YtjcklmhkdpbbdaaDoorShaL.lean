/- Chapter 3: its example holds. -/
import Derived.Test.YtjcklmhkdpbbdaaDoorShaK
import Derived.Lib.SlBytesConst
namespace Go.Proofs.YtjcklmhkdpbbdaaDoor
set_option linter.unusedVariables false
set_option linter.unusedSimpArgs false
open Go.RowKit Go.Sort

theorem abc_sum : sumB [97, 98, 99] = [186, 120, 22, 191, 143, 1, 207, 234, 65, 65, 64, 222, 93, 174, 34, 35, 176, 3, 97, 163, 150, 23, 122, 156, 180, 16, 255, 97, 242, 0, 21, 173] := by decide +kernel
theorem abc_cells : ((sumB [97, 98, 99]).flatMap encB).toArray[0]? = some (.int .u8 186) ∧ ((sumB [97, 98, 99]).flatMap encB).toArray[1]? = some (.int .u8 120) ∧ ((sumB [97, 98, 99]).flatMap encB).toArray[31]? = some (.int .u8 173) := by
  rw [abc_sum]; exact ⟨rfl, rfl, rfl⟩
theorem tab63 (w : World) : (Instr.index 71 (.agg (padW tabW)) (.int .i64 63)).run Tryd.prog w = .ok (.int .u32 3329325298) w := by
  have h : (padW tabW)[63]? = some (.int .u32 3329325298) := by
    rw [padW_at _ (by decide), tabW_at (by decide), roundB_iw _ (by decide)]; rfl
  exact run_index_arr (i := 63) Tryd.underlying71 (by kernel_rfl) info_u32b (by decide) h w
theorem store_node0 {l : List Int} (hl : l.length = 32) (w : World) : (storeCells ⟨w.heap.size, 0, none⟩ (l.flatMap encB) 0).run Tryd.prog (w.alloc (.cells (Array.replicate 32 (.int .u8 0)) 26)) = .ok () (w.alloc (.cells (l.flatMap encB).toArray 26)) :=
  store_new (P := Tryd.prog) (T := 26) (s := 32) (Z := Array.replicate 32 (.int .u8 0)) (by simp) (by kernel_rfl) (by rw [flatB_len, hl]) (one_b l) w

set_option maxRecDepth 100000 in
set_option maxHeartbeats 2000000 in
theorem awake03_any (w : World) (hT : Tabs w) : Calls Tryd.prog 14 #[] w fun e w' => e = .returned (.bool true) ∧ Below w.heap.size w w' := by
  have hzn := (zero_of_info info_node).1
  have hb0 := bal (Below.refl w.heap.size w) (.cells #[.int .u8 97, .int .u8 98, .int .u8 99] 5 (3, 4))
  have hb1 := bal' hb0 (.cells #[.slice (some ⟨w.heap.size, 0, none⟩) 3 3] 29) hb0.size
  have hRd : Rd ((w.alloc (.cells #[.int .u8 97, .int .u8 98, .int .u8 99] 5 (3, 4))).alloc (.cells #[.slice (some ⟨w.heap.size, 0, none⟩) 3 3] 29)) ((w.alloc (.cells #[.int .u8 97, .int .u8 98, .int .u8 99] 5 (3, 4))).alloc (.cells #[.slice (some ⟨w.heap.size, 0, none⟩) 3 3] 29)).heap.size 1 (some ⟨w.heap.size, 0, none⟩) 3 (([97, 98, 99] : List Int).flatMap encB) :=
    ⟨rfl, fun _ => ⟨w.heap.size, 0, rfl, by simp; omega, fun j u hu => by
      rw [Nat.zero_add, World.cell?_alloc_lt _ _ _ (by simp), World.cell?_alloc_mark]
      simpa [encB] using hu⟩⟩
  have HS := Lib.hid (shaSum_any (some ⟨w.heap.size + 1, 0, none⟩) 1 1 [⟨some ⟨w.heap.size, 0, none⟩, 3, 3, [97, 98, 99]⟩] ((w.alloc (.cells #[.int .u8 97, .int .u8 98, .int .u8 99] 5 (3, 4))).alloc (.cells #[.slice (some ⟨w.heap.size, 0, none⟩) 3 3] 29)) rfl (by decide)
    (Rd.fresh _ _ _ 1 1 _ rfl) (fun p hp => by obtain rfl := List.mem_singleton.1 hp; exact ⟨rfl, hRd⟩)
    (fun p hp => by obtain rfl := List.mem_singleton.1 hp; exact ⟨by intro x hx; simp at hx; omega, Nat.le_refl _⟩) (by show 3 ≤ _; decide) (hT.kept hb1))
  rw [show catN [⟨some ⟨w.heap.size, 0, none⟩, 3, 3, [97, 98, 99]⟩] = [97, 98, 99] from rfl] at HS
  obtain ⟨x0, x1, x31⟩ := abc_cells
  have hol := outB_len (sumV vI [97, 98, 99])
  rw [show outB (sumV vI [97, 98, 99]) = sumB [97, 98, 99] from rfl] at hol
  generalize sumB [97, 98, 99] = ob at *
  have hst := fun W => store_node0 hol W
  have hsn : (ob.flatMap encB).toArray.size = 32 := by rw [List.size_toArray, flatB_len, hol]
  have HTb := Lib.hid (fun W (h : Tabs W) => shaTable_any W h)
  have hix := fun W => tab63 W
  have HT := Lib.hid hT
  have Hb1 := Lib.hid hb1
  have kc := Lib.run_convert_bytes_const (P := Tryd.prog) w 29 5 #[.int .u8 97, .int .u8 98, .int .u8 99] 3 3 Tryd.underlying29 Tryd.underlying5
  rw [show (#[Value.int .u8 97, .int .u8 98, .int .u8 99] : Array Value).size = 3 from rfl] at kc
  have HBn := Lib.hid (fun W => Blk.new W 26 (ob.flatMap encB).toArray)
  generalize padW tabW = P0 at *
  clear hT hb0 hb1 hRd hol
  go_enter Tryd.func14, Tryd.ntmps14
  go_upto_region 2 with (go_at_call 16; refine HS.out.mono ?_; rintro e w2 ⟨rfl, hb2⟩)
  refine wp_name ?_
  intro w3 hw3
  have hB3 : Blk w3 w2.heap.size 26 (ob.flatMap encB).toArray := by rw [hw3]; exact HBn.out _
  have hb3 : RowKit.Below w.heap.size w w3 := by rw [hw3]; exact bal' (Hb1.out.trans (hb2.mono Hb1.out.size)) _ (Nat.le_trans Hb1.out.size hb2.size)
  have c0 := (hB3.cell 0).trans x0
  have c1 := (hB3.cell 1).trans x1
  have c31 := (hB3.cell 31).trans x31
  have HT3 := Lib.hid (HT.out.kept hb3)
  clear hw3 hst hzn hb2 HS x0 x1 x31 hB3 HBn
  go_wp2_with (go_at_call 39; refine (HTb.out _ HT3.out).mono ?_; rintro e w4 ⟨rfl, hb4⟩)
  all_goals (go_ret; exact ⟨rfl, hb3.trans (hb4.mono hb3.size)⟩)
end Go.Proofs.YtjcklmhkdpbbdaaDoor
