/- Chapter 3: the document's block, walked. -/
import Derived.Test.YtjcklmhkdpbbdaaDoorShaD
namespace Go.Proofs.YtjcklmhkdpbbdaaDoor
set_option linter.unusedVariables false
set_option linter.unusedSimpArgs false
open Go.RowKit Go.Sort

theorem iw_not (x : BitVec 32) : bits .xor .u32 (if IntKind.u32.signed = true then -1 else IntKind.u32.max) (iw x) = iw (~~~x) := by
  have e : (if IntKind.u32.signed = true then (-1 : Int) else IntKind.u32.max) = iw (BitVec.allOnes 32) := by decide +kernel
  rw [e, iw_xor, BitVec.allOnes_xor]

theorem wpList_store_v8 {ops : Array Oper} {rest : List Oper} {op : Oper} {a : Act} {w : World} {Q : Exit → Act → World → Prop} (hgd : op.guard = none) (x y : Operand) (ho : op.op = .store 35 x y)
    (g : Nat) (X : V8) (hx : a.eval x = .pointer (some ⟨g, 0, none⟩)) (hy : a.eval y = .agg X.cs.toArray) {cs : Array Value} (hB : Blk w g 35 cs) (hs : cs.size = 8)
    (h : ∀ w', Blk w' g 35 X.cs.toArray → (∀ B, B ≤ g → Below B w w') → w'.heap.size = w.heap.size → (∀ i, i ≠ g → w'.heap[i]? = w.heap[i]?) → wpList Tryd.prog ops Q rest (a.put op.dst undef) w') : wpList Tryd.prog ops Q (op :: rest) a w :=
  wpList_store_blk hgd 35 x y ho g 0 X.cs.toArray hx hy hB (by rw [hs]; exact Nat.le_refl _) (by kernel_rfl) (all_oneCell_toArray X.one) (setAt_whole (by rw [hs]; rfl)) h

/-- While the schedule is laid: the words' box, the result's, the table's, the schedule's. -/
structure RB (w : World) (g5 : Nat) (C0 : List Value) (P0 : Array Value) (l : List (BitVec 32)) (W : World) : Prop where
  b2 : Blk W w.heap.size 35 C0.toArray
  b4 : Blk W (w.heap.size + 1) 35 (Array.replicate 8 (.int .u32 0))
  b5 : Blk W g5 71 P0
  b6 : Blk W (g5 + 1) 71 (padW l)
  bl : Below w.heap.size w W
  le : w.heap.size + 2 ≤ g5
theorem RB.below {w W W' : World} {g5 : Nat} {C0 : List Value} {P0 : Array Value} {l : List (BitVec 32)} (h : RB w g5 C0 P0 l W) (hb : Below W.heap.size W W') : RB w g5 C0 P0 l W' :=
  ⟨h.b2.kept hb, h.b4.kept hb, h.b5.kept hb, h.b6.kept hb, h.bl.trans (hb.mono h.bl.size), h.le⟩
theorem RB.set {w W : World} {g5 : Nat} {C0 : List Value} {P0 : Array Value} {l : List (BitVec 32)} (h : RB w g5 C0 P0 l W) (v : BitVec 32) {k : Nat} (hk : l.length = k) (h64 : k < 64) : RB w g5 C0 P0 (l ++ [v]) (W.setCell ⟨g5 + 1, k, none⟩ (.int .u32 (iw v))) := by
  have hle := h.le
  refine ⟨h.b2.far (by simp; omega) _, h.b4.far (by simp; omega) _, h.b5.far (by simp) _, ?_, h.bl.setCell (by simp; omega) _, hle⟩
  have := h.b6.set_ k (.int .u32 (iw v))
  rwa [padW_set v (by omega) hk] at this

theorem RB.off {w W W' : World} {g5 g : Nat} {C0 : List Value} {P0 : Array Value} {l : List (BitVec 32)} (h : RB w g5 C0 P0 l W) (hg : g5 + 2 ≤ g) (hb : ∀ B, B ≤ g → Below B W W') (hh : ∀ i, i ≠ g → W'.heap[i]? = W.heap[i]?) : RB w g5 C0 P0 l W' := by
  have hle := h.le
  exact ⟨h.b2.same (hh _ (by omega)), h.b4.same (hh _ (by omega)), h.b5.same (hh _ (by omega)), h.b6.same (hh _ (by omega)), h.bl.trans (hb _ (by omega)), hle⟩

set_option maxRecDepth 100000 in
set_option maxHeartbeats 8000000 in
theorem refBlock_any (h : V8) (A : Option Addr) (c : Nat) (bs : List Int) (w : World) (hl : bs.length = 64) (hok : BytesOk bs) (hr : Rd w w.heap.size 1 A 64 (bs.flatMap encB)) :
    Calls Tryd.prog 22 #[.agg h.cs.toArray, .slice A 64 c] w fun e w' => e = .returned (.agg (blkV h bs).cs.toArray) ∧ Below w.heap.size w w' := by
  obtain ⟨b, o, rfl, hbb, hc⟩ := hr.cells (by decide)
  have HC : Hid (∀ i, i < 64 → w.cell? ⟨b, o + i, none⟩ = some (.int .u8 (bs.getD i 0))) := Lib.hid fun i hi => by
    rw [hc i (by omega)]
    have := flatMap_get (enc := encB) (s := 1) (fun _ => rfl) bs i 0 (by omega) (by omega)
    rw [Nat.mul_one, Nat.add_zero] at this
    rw [this]
    simp [encB, List.getD, show i < bs.length by omega]
  have HBd : Hid (∀ i, i < 64 → 0 ≤ bs.getD i 0 ∧ bs.getD i 0 < 256) := Lib.hid fun i hi => by
    have hi' : i < bs.length := by omega
    simp only [List.getD, List.getElem?_eq_getElem hi', Option.getD_some]
    exact hok _ (List.getElem_mem hi')
  clear hl hok hc hr
  have hz8 := (zero_of_info info_w8).1
  have hz64 := (zero_of_info info_w64).1
  have hst8 := fun W => store_w8 h W
  have hst64 := fun W => store_w64 tabW W
  have hsz8 : h.cs.toArray.size = 8 := rfl
  have HB0 := Lib.hid (Blk.new w 35 h.cs.toArray)
  have Hb0 := Lib.hid (bal (Below.refl w.heap.size w) (.cells h.cs.toArray 35))
  have HTb := Lib.hid (fun W => refTable_any W)
  have HhC := Lib.hid (show ∀ v : V8, v.cs.toArray = v.cs.toArray from fun _ => rfl)
  obtain ⟨C0, hC0⟩ : ∃ x, h.cs = x := ⟨_, rfl⟩
  obtain ⟨P0, hP0⟩ : ∃ x, padW tabW = x := ⟨_, rfl⟩
  rw [hC0] at hst8 hsz8 HB0 Hb0 ⊢
  rw [hP0] at hst64 HTb
  have hsP : P0.size = 64 := by rw [← hP0]; exact padW_size _
  have HC0 := Lib.hid hC0
  have HP0 := Lib.hid hP0
  clear hC0 hP0
  go_enter Tryd.func22, Tryd.ntmps22
  go_upto_region 1 with (fail)
  go_upto_region 3 with (go_at_call 57; refine (HTb.out _).mono ?_; rintro e w1 ⟨rfl, hb1⟩)
  have HI0 : Hid (RB w w1.heap.size C0 P0 [] ((w1.alloc (.cells P0 71)).alloc (.cells (Array.replicate 64 (.int .u32 0)) 71))) := Lib.hid (by
    have hs1 := hb1.size
    simp only [World.size_alloc] at hs1
    have a1 : Blk (((w.alloc (.cells C0.toArray 35)).alloc (.cells (Array.replicate 8 (.int .u32 0)) 35))) (w.heap.size + 1) 35 (Array.replicate 8 (.int .u32 0)) := Blk.fresh _ _ _
    have hbA := bal' Hb0.out (.cells (Array.replicate 8 (.int .u32 0)) 35) Hb0.out.size
    have hb11 := bal (Below.refl w1.heap.size w1) (.cells P0 71)
    have hb12 := bal' hb11 (.cells (Array.replicate 64 (.int .u32 0)) 71) hb11.size
    refine ⟨((HB0.out.alloc _).kept hb1).kept hb12, (a1.kept hb1).kept hb12, (Blk.new w1 _ _).alloc _, ?_, (hbA.trans (hb1.mono hbA.size)).trans (hb12.mono ?_), by omega⟩
    · rw [padW_nil]; exact Blk.fresh _ _ _
    · omega)
  refine wp_name ?_
  intro w2 hw2
  rw [← hw2] at HI0
  obtain ⟨g5, hg5⟩ : ∃ x, w1.heap.size = x := ⟨_, rfl⟩
  rw [hg5] at HI0 ⊢
  clear hw2 hb1 HB0 Hb0 hst8 hst64 hz64 hg5 HTb
  go_wp2
  go_loopw [7] (fun i wr => ∃ k : Nat, k ≤ 16 ∧ i = .int .i64 k ∧ Hid (RB w g5 C0 P0 ((w16 bs).take k) wr)) (fun i _ => 16 - (intOf i).toNat)
  case atStart => exact ⟨0, by omega, rfl, HI0⟩
  case round =>
    obtain ⟨k, hk, rfl, HI⟩ := hrel
    clear HI0
    by_cases hlt : k < 16
    · obtain ⟨j0, hj0⟩ : ∃ j, 4 * k = j := ⟨_, rfl⟩
      obtain ⟨j1, hj1⟩ : ∃ j, 4 * k + 1 = j := ⟨_, rfl⟩
      obtain ⟨j2, hj2⟩ : ∃ j, 4 * k + 2 = j := ⟨_, rfl⟩
      obtain ⟨j3, hj3⟩ : ∃ j, 4 * k + 3 = j := ⟨_, rfl⟩
      have HS := Lib.hid (w16_step bs hlt)
      have HLk := Lib.hid (show ((w16 bs).take k).length = k by simp [w16]; omega)
      rw [hj1, hj2, hj3, hj0] at HS
      have q0 : IntKind.i64.wrap (4 * (k : Int)) = (j0 : Int) := by rw [IntWalk.i64_in _ (by omega)]; omega
      have q1 : IntKind.i64.wrap ((j0 : Int) + 1) = (j1 : Int) := by rw [IntWalk.i64_in _ (by omega)]; omega
      have q2 : IntKind.i64.wrap ((j0 : Int) + 2) = (j2 : Int) := by rw [IntWalk.i64_in _ (by omega)]; omega
      have q3 : IntKind.i64.wrap ((j0 : Int) + 3) = (j3 : Int) := by rw [IntWalk.i64_in _ (by omega)]; omega
      have m0 : j0 < 64 := by omega
      have n0 : (j0 : Int) < 64 := by omega
      have m1 : j1 < 64 := by omega
      have n1 : (j1 : Int) < 64 := by omega
      have m2 : j2 < 64 := by omega
      have n2 : (j2 : Int) < 64 := by omega
      have m3 : j3 < 64 := by omega
      have n3 : (j3 : Int) < 64 := by omega
      have b0 := HBd.out j0 m0
      have b1 := HBd.out j1 m1
      have b2 := HBd.out j2 m2
      have b3 := HBd.out j3 m3
      have c0 := HC.out j0 m0
      have c1 := HC.out j1 m1
      have c2 := HC.out j2 m2
      have c3 := HC.out j3 m3
      generalize bs.getD j0 0 = x0 at *
      generalize bs.getD j1 0 = x1 at *
      generalize bs.getD j2 0 = x2 at *
      generalize bs.getD j3 0 = x3 at *
      have HE := Lib.hid (be4_raw b0 b1 b2 b3)
      have v0 : IntKind.u32.wrap x0 = x0 := by rw [IntKind.wrap_u32']; omega
      have v1 : IntKind.u32.wrap x1 = x1 := by rw [IntKind.wrap_u32']; omega
      have v2 : IntKind.u32.wrap x2 = x2 := by rw [IntKind.wrap_u32']; omega
      have v3 : IntKind.u32.wrap x3 = x3 := by rw [IntKind.wrap_u32']; omega
      clear hj0 hj1 hj2 hj3 b0 b1 b2 b3
      go_upto_region 6 with (fail)
      have e0 := fun d os => ((below_regrown wr d os).cell (p := ⟨b, o + j0, none⟩) (Nat.lt_of_lt_of_le hbb HI.out.bl.size)).trans ((HI.out.bl.cell (p := ⟨b, o + j0, none⟩) hbb).trans c0)
      have e1 := fun d os => ((below_regrown wr d os).cell (p := ⟨b, o + j1, none⟩) (Nat.lt_of_lt_of_le hbb HI.out.bl.size)).trans ((HI.out.bl.cell (p := ⟨b, o + j1, none⟩) hbb).trans c1)
      have e2 := fun d os => ((below_regrown wr d os).cell (p := ⟨b, o + j2, none⟩) (Nat.lt_of_lt_of_le hbb HI.out.bl.size)).trans ((HI.out.bl.cell (p := ⟨b, o + j2, none⟩) hbb).trans c2)
      have e3 := fun d os => ((below_regrown wr d os).cell (p := ⟨b, o + j3, none⟩) (Nat.lt_of_lt_of_le hbb HI.out.bl.size)).trans ((HI.out.bl.cell (p := ⟨b, o + j3, none⟩) hbb).trans c3)
      clear c0 c1 c2 c3
      refine wp_region_tail_below 35 (by kernel_rfl) (by kernel_rfl) ?_
      simp only [List.take_succ_cons, List.take_zero, List.drop_succ_cons, List.drop_zero]
      have he := HE.out
      have nk : (k : Int) < 64 := by omega
      repeat (quiet_step ((fail)))
      refine wpQuiet_nil ?_
      rintro w3 ⟨p, rfl⟩
      have HI3 := Lib.hid (HI.out.below (below_regrown wr p.d p.os))
      clear e0 e1 e2 e3 HI
      generalize grow (redrawn wr p.d) p.os = w3 at *
      have hf3 := HI3.out.b6.frozen
      have hc3 := HI3.out.b6.cell k
      rw [padW_at _ (by omega)] at hc3
      have HN := Lib.hid (HI3.out.set (be4 x0 x1 x2 x3) HLk.out (by omega))
      rw [← HS.out] at HN
      clear HI3
      go_wp2
      go_roundw
      case rel => exact ⟨k + 1, by omega, by go_num, HN⟩
      case measure => simp [intOf]; omega
    · have hk16 : (k : Int) = 16 := by omega
      have HI16 : Hid (RB w g5 C0 P0 (schedN bs 0) wr) := Lib.hid (by
        have := HI.out
        obtain rfl : k = 16 := by omega
        rw [List.take_of_length_le (by simp [w16])] at this
        exact this)
      clear HI hlt hk
      rw [hk16]
      clear hk16
      go_wp2
      go_loopw [8] (fun i wr => ∃ k j : Nat, k ≤ 48 ∧ j = 16 + k ∧ i = .int .i64 j ∧ Hid (RB w g5 C0 P0 (schedN bs k) wr)) (fun i _ => 64 - (intOf i).toNat)
      case atStart => exact ⟨0, 16, by omega, rfl, rfl, HI16⟩
      case round =>
        obtain ⟨k, j, hk, hj, rfl, HI⟩ := hrel
        clear HI16
        by_cases hlt : k < 48
        · have HLk := Lib.hid (schedN_len bs k)
          have HS := Lib.hid (show schedN bs (k + 1) = schedN bs k ++ [nextW (schedN bs k)] from rfl)
          rw [nextW_at (schedN_len bs k)] at HS
          generalize schedN bs k = l at *
          obtain ⟨k1, hk1⟩ : ∃ j, k + 1 = j := ⟨_, rfl⟩
          obtain ⟨k9, hk9⟩ : ∃ j, k + 9 = j := ⟨_, rfl⟩
          obtain ⟨k14, hk14⟩ : ∃ j, k + 14 = j := ⟨_, rfl⟩
          rw [hk1, hk9, hk14] at HS
          have q0 : IntKind.i64.wrap ((j : Int) - 16) = (k : Int) := by rw [IntWalk.i64_in _ (by omega)]; omega
          have q1 : IntKind.i64.wrap ((j : Int) - 15) = (k1 : Int) := by rw [IntWalk.i64_in _ (by omega)]; omega
          have q2 : IntKind.i64.wrap ((j : Int) - 7) = (k9 : Int) := by rw [IntWalk.i64_in _ (by omega)]; omega
          have q3 : IntKind.i64.wrap ((j : Int) - 2) = (k14 : Int) := by rw [IntWalk.i64_in _ (by omega)]; omega
          have n0 : (k : Int) < 64 := by omega
          have n1 : (k1 : Int) < 64 := by omega
          have n2 : (k9 : Int) < 64 := by omega
          have n3 : (k14 : Int) < 64 := by omega
          have n4 : (j : Int) < 64 := by omega
          have g0 := (HI.out.b6.cell k).trans (padW_at l (i := k) (by omega))
          have g1 := (HI.out.b6.cell k1).trans (padW_at l (i := k1) (by omega))
          have g2 := (HI.out.b6.cell k9).trans (padW_at l (i := k9) (by omega))
          have g3 := (HI.out.b6.cell k14).trans (padW_at l (i := k14) (by omega))
          generalize l.getD k 0 = y0 at *
          generalize l.getD k1 0 = y1 at *
          generalize l.getD k9 0 = y2 at *
          generalize l.getD k14 0 = y3 at *
          have HJ := Lib.hid (show j = 16 + k ∧ k1 = k + 1 from ⟨hj, hk1.symm⟩)
          clear hj hk1 hk9 hk14
          go_upto_region 10 with (fail)
          have e1 := fun d os => ((below_regrown wr d os).cell (p := ⟨g5 + 1, k1, none⟩) HI.out.b6.lt).trans g1
          have e3 := fun d os => ((below_regrown wr d os).cell (p := ⟨g5 + 1, k14, none⟩) HI.out.b6.lt).trans g3
          refine wp_region_quiet_below (by kernel_rfl) (by kernel_rfl) ?_
          repeat (quiet_step ((fail)))
          refine wpQuiet_nil ?_
          rintro w3 ⟨p, rfl⟩
          have hb3 := below_regrown wr p.d p.os
          have f0 := (hb3.cell (p := ⟨g5 + 1, k, none⟩) HI.out.b6.lt).trans g0
          have f2 := (hb3.cell (p := ⟨g5 + 1, k9, none⟩) HI.out.b6.lt).trans g2
          have HI3 := Lib.hid (HI.out.below hb3)
          clear e1 e3 HI hb3 g0 g1 g2 g3
          generalize grow (redrawn wr p.d) p.os = w3 at *
          go_upto_region 11 with (fail)
          have e0 := fun d os => ((below_regrown w3 d os).cell (p := ⟨g5 + 1, k, none⟩) HI3.out.b6.lt).trans f0
          have e2 := fun d os => ((below_regrown w3 d os).cell (p := ⟨g5 + 1, k9, none⟩) HI3.out.b6.lt).trans f2
          clear f0 f2
          have x1 : bits .xor .u32 (iw (y1.rotateRight 7)) (iw (y1.rotateRight 18)) = iw (y1.rotateRight 7 ^^^ y1.rotateRight 18) := iw_xor _ _
          have x2 : bits .xor .u32 (iw (y1.rotateRight 7 ^^^ y1.rotateRight 18)) (iw (y1 >>> 3)) = iw (sg 7 18 3 y1) := iw_xor _ _
          have x3 : bits .xor .u32 (iw (y3.rotateRight 17)) (iw (y3.rotateRight 19)) = iw (y3.rotateRight 17 ^^^ y3.rotateRight 19) := iw_xor _ _
          have x4 : bits .xor .u32 (iw (y3.rotateRight 17 ^^^ y3.rotateRight 19)) (iw (y3 >>> 10)) = iw (sg 17 19 10 y3) := iw_xor _ _
          have s1 := iw_shr y1 3
          have s2 := iw_shr y3 10
          simp only [Int.reducePow] at s1 s2
          have a1 := iw_wadd y0 (sg 7 18 3 y1)
          have a2 := iw_wadd (y0 + sg 7 18 3 y1) y2
          have a3 := iw_wadd (y0 + sg 7 18 3 y1 + y2) (sg 17 19 10 y3)
          have F7 := Lib.hid (fun (d : Nat) (os : Array Obj) => turn7_any y1 (grow (redrawn w3 d) os))
          have F18 := Lib.hid (fun (d : Nat) (os : Array Obj) => turn18_any y1 (grow (redrawn w3 d) os))
          have F17 := Lib.hid (fun (d : Nat) (os : Array Obj) => turn17_any y3 (grow (redrawn w3 d) os))
          have F19 := Lib.hid (fun (d : Nat) (os : Array Obj) => turn19_any y3 (grow (redrawn w3 d) os))
          generalize y1.rotateRight 7 = r7 at *
          generalize y1.rotateRight 18 = r18 at *
          generalize y3.rotateRight 17 = r17 at *
          generalize y3.rotateRight 19 = r19 at *
          generalize sg 7 18 3 y1 = z1 at *
          generalize sg 17 19 10 y3 = z3 at *
          refine wp_region_tail_below 29 (by kernel_rfl) (by kernel_rfl) ?_
          simp only [List.take_succ_cons, List.take_zero, List.drop_succ_cons, List.drop_zero]
          repeat (quiet_step ((first
            | (go_at_call 58; with_reducible exact regrown (F7.out _ _))
            | (go_at_call 58; with_reducible exact regrown (F18.out _ _))
            | (go_at_call 58; with_reducible exact regrown (F17.out _ _))
            | (go_at_call 58; with_reducible exact regrown (F19.out _ _)))))
          refine wpQuiet_nil ?_
          rintro w5 ⟨p5, rfl⟩
          have HI5 := Lib.hid (HI3.out.below (below_regrown w3 p5.d p5.os))
          clear e0 e2 x1 x2 x3 x4 s1 s2 a1 a2 a3 F7 F18 F17 F19 HI3
          generalize grow (redrawn w3 p5.d) p5.os = w5 at *
          have hf5 := HI5.out.b6.frozen
          have hc5 := HI5.out.b6.cell j
          rw [padW_at _ (by omega)] at hc5
          have HN := Lib.hid (HI5.out.set (y0 + z1 + y2 + z3) (k := j) (by rw [HLk.out]; exact HJ.out.1.symm) (by omega))
          rw [← HS.out] at HN
          clear HI5
          go_wp2
          go_roundw
          case rel => exact ⟨k1, j + 1, by have := HJ.out.2; omega, by have := HJ.out; omega, by go_num, HN⟩
          case measure => simp [intOf]; omega
        · have hj64 : (j : Int) = 64 := by omega
          have HI2 : Hid (RB w g5 C0 P0 (schedN bs 48) wr) := Lib.hid (by
            have := HI.out
            obtain rfl : k = 48 := by omega
            exact this)
          clear HI hlt hk hj
          rw [hj64]
          clear hj64
          obtain ⟨W, hW⟩ : ∃ W, schedN bs 48 = W := ⟨_, rfl⟩
          have HWl := Lib.hid (show blkV h bs = addV h (rndN h W 64) by unfold blkV; rw [hW])
          rw [hW] at HI2
          clear hW
          have hst8 := fun W => store_w8 h W
          rw [HC0.out] at hst8
          go_upto_region 13 with (refine wpList_load_mid rfl 35 (.tmp 2) rfl w.heap.size 0 (by rfl) C0 _ HI2.out.b2.range Tryd.underlying35 rfl (by rw [← HC0.out]; kernel_rfl) ?_)
          refine wp_name ?_
          intro w3 hw3
          have HI3 : Hid (RB w g5 C0 P0 W w3 ∧ Blk w3 wr.heap.size 35 (rndN h W 0).cs.toArray) := Lib.hid (by
            rw [hw3]
            refine ⟨HI2.out.below (bal (Below.refl _ _) _), ?_⟩
            rw [← HC0.out]
            exact Blk.new _ _ _)
          obtain ⟨g, hg⟩ : ∃ g, wr.heap.size = g := ⟨_, rfl⟩
          have Hg := Lib.hid (show g5 + 2 ≤ g by have := HI2.out.b6.lt; omega)
          rw [hg] at HI3 ⊢
          clear hw3 HI2 hst8 hg
          go_wp2
          go_loopw [12] (fun i wr => ∃ k : Nat, k ≤ 64 ∧ i = .int .i64 k ∧ ∃ va vb vc vd ve vf vg vh : BitVec 32, Hid (rndN h W k = ⟨va, vb, vc, vd, ve, vf, vg, vh⟩) ∧ Hid (RB w g5 C0 P0 W wr ∧ Blk wr g 35 (V8.cs ⟨va, vb, vc, vd, ve, vf, vg, vh⟩).toArray)) (fun i _ => 64 - (intOf i).toNat)
          case atStart => exact ⟨0, by omega, rfl, _, _, _, _, _, _, _, _, Lib.hid rfl, HI3⟩
          case round =>
            obtain ⟨k, hk, rfl, va, vb, vc, vd, ve, vf, vg, vh, HV, HI⟩ := hrel
            clear HI3
            by_cases hlt : k < 64
            · have HS := Lib.hid (show rndN h W (k + 1) = rnd (rndN h W k) (roundB k) (W.getD k 0) from rfl)
              rw [HV.out] at HS
              clear HV
              have n0 : (k : Int) < 64 := by omega
              have gw := (HI.out.1.b6.cell k).trans (padW_at W (i := k) (by omega))
              have gr : wr.cell? ⟨g5, k, none⟩ = some (.int .u32 (iw (roundB k))) := by
                rw [HI.out.1.b5.cell k, ← HP0.out, padW_at _ (by omega), tabW_at hlt]
              generalize W.getD k 0 = y0 at *
              generalize roundB k = rb at *
              go_upto_region 16 with (fail)
              have e0 := fun d os => (blk_regrown HI.out.2 d os 0).trans (show (V8.cs ⟨va, vb, vc, vd, ve, vf, vg, vh⟩).toArray[0]? = some (.int .u32 (iw va)) from rfl)
              have e4 := fun d os => (blk_regrown HI.out.2 d os 4).trans (show (V8.cs ⟨va, vb, vc, vd, ve, vf, vg, vh⟩).toArray[4]? = some (.int .u32 (iw ve)) from rfl)
              refine wp_region_quiet_below (by kernel_rfl) (by kernel_rfl) ?_
              repeat (quiet_step ((fail)))
              refine wpQuiet_nil ?_
              rintro w3 ⟨p, rfl⟩
              have hb3 := below_regrown wr p.d p.os
              have HI3 := Lib.hid (show RB w g5 C0 P0 W (grow (redrawn wr p.d) p.os) ∧ Blk (grow (redrawn wr p.d) p.os) g 35 (V8.cs ⟨va, vb, vc, vd, ve, vf, vg, vh⟩).toArray from ⟨HI.out.1.below hb3, HI.out.2.kept hb3⟩)
              have gw3 := (hb3.cell (p := ⟨g5 + 1, k, none⟩) HI.out.1.b6.lt).trans gw
              have gr3 := (hb3.cell (p := ⟨g5, k, none⟩) HI.out.1.b5.lt).trans gr
              clear e0 e4 HI hb3 gw gr
              generalize grow (redrawn wr p.d) p.os = w3 at *
              go_upto_region 17 with (fail)
              have e5 := fun d os => (blk_regrown HI3.out.2 d os 5).trans (show (V8.cs ⟨va, vb, vc, vd, ve, vf, vg, vh⟩).toArray[5]? = some (.int .u32 (iw vf)) from rfl)
              have e6 := fun d os => (blk_regrown HI3.out.2 d os 6).trans (show (V8.cs ⟨va, vb, vc, vd, ve, vf, vg, vh⟩).toArray[6]? = some (.int .u32 (iw vg)) from rfl)
              have e7 := fun d os => (blk_regrown HI3.out.2 d os 7).trans (show (V8.cs ⟨va, vb, vc, vd, ve, vf, vg, vh⟩).toArray[7]? = some (.int .u32 (iw vh)) from rfl)
              have ew := fun d os => ((below_regrown w3 d os).cell (p := ⟨g5 + 1, k, none⟩) HI3.out.1.b6.lt).trans gw3
              have er := fun d os => ((below_regrown w3 d os).cell (p := ⟨g5, k, none⟩) HI3.out.1.b5.lt).trans gr3
              clear gw3 gr3
              have x1 : bits .xor .u32 (iw (ve.rotateRight 6)) (iw (ve.rotateRight 11)) = iw (ve.rotateRight 6 ^^^ ve.rotateRight 11) := iw_xor _ _
              have x2 : bits .xor .u32 (iw (ve.rotateRight 6 ^^^ ve.rotateRight 11)) (iw (ve.rotateRight 25)) = iw (sG 6 11 25 ve) := iw_xor _ _
              have x3 := iw_and ve vf
              have x4 := iw_not ve
              have x5 := iw_and (~~~ve) vg
              have x6 := iw_xor (ve &&& vf) (~~~ve &&& vg)
              rw [ch_eq] at x6
              obtain ⟨ch, hch⟩ : ∃ x, vg ^^^ (ve &&& (vf ^^^ vg)) = x := ⟨_, rfl⟩
              have F6 := Lib.hid (fun (d : Nat) (os : Array Obj) => turn6_any ve (grow (redrawn w3 d) os))
              have F11 := Lib.hid (fun (d : Nat) (os : Array Obj) => turn11_any ve (grow (redrawn w3 d) os))
              have F25 := Lib.hid (fun (d : Nat) (os : Array Obj) => turn25_any ve (grow (redrawn w3 d) os))
              obtain ⟨s1, hs1⟩ : ∃ x, sG 6 11 25 ve = x := ⟨_, rfl⟩
              rw [hs1] at x2
              rw [hch] at x6
              have a1 := iw_wadd vh s1
              have a2 := iw_wadd (vh + s1) ch
              have a3 := iw_wadd (vh + s1 + ch) rb
              have a4 := iw_wadd (vh + s1 + ch + rb) y0
              obtain ⟨tt, htt⟩ : ∃ x, vh + s1 + ch + rb + y0 = x := ⟨_, rfl⟩
              rw [htt] at a4
              have HS1 := Lib.hid hs1
              have HCh := Lib.hid hch
              have HTt := Lib.hid htt
              clear hs1 hch htt
              generalize ve.rotateRight 6 = r6 at *
              generalize ve.rotateRight 11 = r11 at *
              generalize ve.rotateRight 25 = r25 at *
              refine wp_region_quiet_below (by kernel_rfl) (by kernel_rfl) ?_
              repeat (quiet_step ((first
                | (go_at_call 58; with_reducible exact regrown (F6.out _ _))
                | (go_at_call 58; with_reducible exact regrown (F11.out _ _))
                | (go_at_call 58; with_reducible exact regrown (F25.out _ _)))))
              refine wpQuiet_nil ?_
              rintro w4 ⟨p4, rfl⟩
              have hb4 := below_regrown w3 p4.d p4.os
              have HI4 := Lib.hid (show RB w g5 C0 P0 W (grow (redrawn w3 p4.d) p4.os) ∧ Blk (grow (redrawn w3 p4.d) p4.os) g 35 (V8.cs ⟨va, vb, vc, vd, ve, vf, vg, vh⟩).toArray from ⟨HI3.out.1.below hb4, HI3.out.2.kept hb4⟩)
              clear e5 e6 e7 ew er x1 x2 x3 x4 x5 x6 F6 F11 F25 a1 a2 a3 a4 HI3 hb4
              generalize grow (redrawn w3 p4.d) p4.os = w4 at *
              go_upto_region 18 with (fail)
              have e1 := fun d os => (blk_regrown HI4.out.2 d os 1).trans (show (V8.cs ⟨va, vb, vc, vd, ve, vf, vg, vh⟩).toArray[1]? = some (.int .u32 (iw vb)) from rfl)
              have e2 := fun d os => (blk_regrown HI4.out.2 d os 2).trans (show (V8.cs ⟨va, vb, vc, vd, ve, vf, vg, vh⟩).toArray[2]? = some (.int .u32 (iw vc)) from rfl)
              have x1 : bits .xor .u32 (iw (va.rotateRight 2)) (iw (va.rotateRight 13)) = iw (va.rotateRight 2 ^^^ va.rotateRight 13) := iw_xor _ _
              have x2 : bits .xor .u32 (iw (va.rotateRight 2 ^^^ va.rotateRight 13)) (iw (va.rotateRight 22)) = iw (sG 2 13 22 va) := iw_xor _ _
              have x3 := iw_and va vb
              have x4 := iw_and va vc
              have x5 := iw_xor (va &&& vb) (va &&& vc)
              have x6 := iw_and vb vc
              have x7 := iw_xor ((va &&& vb) ^^^ (va &&& vc)) (vb &&& vc)
              rw [maj_eq] at x7
              obtain ⟨mj, hmj⟩ : ∃ x, (va &&& vb) ||| (vc &&& (va ||| vb)) = x := ⟨_, rfl⟩
              have F6 := Lib.hid (fun (d : Nat) (os : Array Obj) => turn2_any va (grow (redrawn w4 d) os))
              have F11 := Lib.hid (fun (d : Nat) (os : Array Obj) => turn13_any va (grow (redrawn w4 d) os))
              have F25 := Lib.hid (fun (d : Nat) (os : Array Obj) => turn22_any va (grow (redrawn w4 d) os))
              obtain ⟨s2, hs2⟩ : ∃ x, sG 2 13 22 va = x := ⟨_, rfl⟩
              rw [hs2] at x2
              rw [hmj] at x7
              have a1 := iw_wadd s2 mj
              obtain ⟨tu, htu⟩ : ∃ x, s2 + mj = x := ⟨_, rfl⟩
              rw [htu] at a1
              have HS2 := Lib.hid hs2
              have HMj := Lib.hid hmj
              have HTu := Lib.hid htu
              clear hs2 hmj htu
              generalize va.rotateRight 2 = r2 at *
              generalize va.rotateRight 13 = r13 at *
              generalize va.rotateRight 22 = r22 at *
              refine wp_region_quiet_below (by kernel_rfl) (by kernel_rfl) ?_
              repeat (quiet_step ((first
                | (go_at_call 58; with_reducible exact regrown (F6.out _ _))
                | (go_at_call 58; with_reducible exact regrown (F11.out _ _))
                | (go_at_call 58; with_reducible exact regrown (F25.out _ _)))))
              refine wpQuiet_nil ?_
              rintro w5 ⟨p5, rfl⟩
              have hb5 := below_regrown w4 p5.d p5.os
              have HI5 := Lib.hid (show RB w g5 C0 P0 W (grow (redrawn w4 p5.d) p5.os) ∧ Blk (grow (redrawn w4 p5.d) p5.os) g 35 (V8.cs ⟨va, vb, vc, vd, ve, vf, vg, vh⟩).toArray from ⟨HI4.out.1.below hb5, HI4.out.2.kept hb5⟩)
              clear e1 e2 x1 x2 x3 x4 x5 x6 x7 F6 F11 F25 a1 HI4 hb5
              generalize grow (redrawn w4 p5.d) p5.os = w5 at *
              have HNw := Lib.hid (show rndN h W (k + 1) = ⟨tt + tu, va, vb, vc, vd + tt, ve, vf, vg⟩ by
                rw [HS.out]
                unfold rnd
                simp only [HS1.out, HS2.out, HTt.out, HCh.out, HMj.out, HTu.out])
              have d1 := iw_add tt tu
              have d2 := iw_add vd tt
              have d1' := iw_wadd tt tu
              have d2' := iw_wadd vd tt
              have e0 : w5.cell? ⟨g, 0, none⟩ = some (.int .u32 (iw va)) := HI5.out.2.cell 0
              have e1 : w5.cell? ⟨g, 1, none⟩ = some (.int .u32 (iw vb)) := HI5.out.2.cell 1
              have e2 : w5.cell? ⟨g, 2, none⟩ = some (.int .u32 (iw vc)) := HI5.out.2.cell 2
              have e3 : w5.cell? ⟨g, 3, none⟩ = some (.int .u32 (iw vd)) := HI5.out.2.cell 3
              have e4 : w5.cell? ⟨g, 4, none⟩ = some (.int .u32 (iw ve)) := HI5.out.2.cell 4
              have e5 : w5.cell? ⟨g, 5, none⟩ = some (.int .u32 (iw vf)) := HI5.out.2.cell 5
              have e6 : w5.cell? ⟨g, 6, none⟩ = some (.int .u32 (iw vg)) := HI5.out.2.cell 6
              go_wp2_with (refine wpList_store_v8 rfl (.tmp 11) (.tmp 181) rfl g ⟨tt + tu, va, vb, vc, vd + tt, ve, vf, vg⟩ (by rfl) (by rfl) HI5.out.2 rfl ?_; intro w6 hB6 hbl6 hz6 hh6)
              have HN6 : Hid (RB w g5 C0 P0 W w6 ∧ Blk w6 g 35 (V8.cs ⟨tt + tu, va, vb, vc, vd + tt, ve, vf, vg⟩).toArray) := Lib.hid ⟨HI5.out.1.off Hg.out hbl6 hh6, hB6⟩
              go_roundw
              case rel => exact ⟨k + 1, by omega, by go_num, _, _, _, _, _, _, _, _, HNw, HN6⟩
              case measure => simp [intOf]; omega
            · have hk64 : (k : Int) = 64 := by omega
              have HZ : Hid (rndN h W 64 = ⟨va, vb, vc, vd, ve, vf, vg, vh⟩) := Lib.hid (by
                have := HV.out
                obtain rfl : k = 64 := by omega
                exact this)
              clear hlt hk HV
              rw [hk64]
              clear hk64
              have HN0 : Hid (Blk wr w.heap.size 35 (addN h ⟨va, vb, vc, vd, ve, vf, vg, vh⟩ 0).cs.toArray ∧ Blk wr (w.heap.size + 1) 35 (Array.replicate 8 (.int .u32 0)) ∧ Blk wr g 35 (V8.cs ⟨va, vb, vc, vd, ve, vf, vg, vh⟩).toArray ∧ RowKit.Below w.heap.size w wr) := Lib.hid ⟨by
                have := HI.out.1.b2
                rw [← HC0.out] at this
                exact this, HI.out.1.b4, HI.out.2, HI.out.1.bl⟩
              have HG : Hid (w.heap.size + 2 ≤ g) := Lib.hid (by have := HI.out.1.le; have := Hg.out; omega)
              clear HI Hg
              go_wp2
              go_loopw [17] (fun i wr => ∃ k : Nat, k ≤ 8 ∧ i = .int .i64 k ∧ Hid (Blk wr w.heap.size 35 (addN h ⟨va, vb, vc, vd, ve, vf, vg, vh⟩ k).cs.toArray ∧ Blk wr (w.heap.size + 1) 35 (Array.replicate 8 (.int .u32 0)) ∧ Blk wr g 35 (V8.cs ⟨va, vb, vc, vd, ve, vf, vg, vh⟩).toArray ∧ RowKit.Below w.heap.size w wr)) (fun i _ => 8 - (intOf i).toNat)
              case atStart => exact ⟨0, by omega, rfl, HN0⟩
              case round =>
                obtain ⟨k, hk, rfl, HI⟩ := hrel
                clear HN0
                by_cases hlt : k < 8
                · have n0 : (k : Int) < 8 := by omega
                  have HSt := Lib.hid (addN_set h ⟨va, vb, vc, vd, ve, vf, vg, vh⟩ hlt [])
                  simp only [List.append_nil] at HSt
                  have hgt : (addN h ⟨va, vb, vc, vd, ve, vf, vg, vh⟩ k).cs.toArray[k]? = some (.int .u32 (iw (h.get k))) := by
                    rw [List.getElem?_toArray, V8.cs_at _ hlt, addN_get h _ hlt]
                  have hgz : (V8.cs ⟨va, vb, vc, vd, ve, vf, vg, vh⟩).toArray[k]? = some (.int .u32 (iw ((⟨va, vb, vc, vd, ve, vf, vg, vh⟩ : V8).get k))) := by
                    rw [List.getElem?_toArray, V8.cs_at _ hlt]
                  have a1 := iw_wadd (h.get k) ((⟨va, vb, vc, vd, ve, vf, vg, vh⟩ : V8).get k)
                  generalize (⟨va, vb, vc, vd, ve, vf, vg, vh⟩ : V8).get k = y1 at *
                  generalize h.get k = y0 at *
                  go_upto_region 23 with (fail)
                  have e0 := fun d os => (blk_regrown HI.out.1 d os k).trans hgt
                  have e1 := fun d os => (blk_regrown HI.out.2.2.1 d os k).trans hgz
                  refine wp_region_tail_below 8 (by kernel_rfl) (by kernel_rfl) ?_
                  simp only [List.take_succ_cons, List.take_zero, List.drop_succ_cons, List.drop_zero]
                  repeat (quiet_step ((fail)))
                  refine wpQuiet_nil ?_
                  rintro w3 ⟨p, rfl⟩
                  have hb3 := below_regrown wr p.d p.os
                  clear e0 e1 a1
                  generalize grow (redrawn wr p.d) p.os = w3 at *
                  have hB3 := HI.out.1.kept hb3
                  have hB4 := HI.out.2.1.kept hb3
                  have hB5 := HI.out.2.2.1.kept hb3
                  have hbw := HI.out.2.2.2.trans (hb3.mono HI.out.2.2.2.size)
                  have hc3 := (hB3.cell k).trans hgt
                  have hf3 := hB3.frozen
                  have HN : Hid (Blk (w3.setCell ⟨w.heap.size, k, none⟩ (.int .u32 (iw (y0 + y1)))) w.heap.size 35 (addN h ⟨va, vb, vc, vd, ve, vf, vg, vh⟩ (k + 1)).cs.toArray ∧ Blk (w3.setCell ⟨w.heap.size, k, none⟩ (.int .u32 (iw (y0 + y1)))) (w.heap.size + 1) 35 (Array.replicate 8 (.int .u32 0)) ∧ Blk (w3.setCell ⟨w.heap.size, k, none⟩ (.int .u32 (iw (y0 + y1)))) g 35 (V8.cs ⟨va, vb, vc, vd, ve, vf, vg, vh⟩).toArray ∧ RowKit.Below w.heap.size w (w3.setCell ⟨w.heap.size, k, none⟩ (.int .u32 (iw (y0 + y1))))) := Lib.hid ⟨by
                    have := hB3.set_ k (.int .u32 (iw (y0 + y1)))
                    rw [List.setIfInBounds_toArray, HSt.out] at this
                    exact this, hB4.far (by simp) _, hB5.far (by have := HG.out; simp; omega) _, hbw.setCell (by simp) _⟩
                  clear hB3 hb3 hgt hgz HI hB4 hB5 hbw
                  go_wp2
                  go_roundw
                  case rel => exact ⟨k + 1, by omega, by go_num, HN⟩
                  case measure => simp [intOf]; omega
                · have HE : Hid (Blk wr w.heap.size 35 (blkV h bs).cs.toArray ∧ Blk wr (w.heap.size + 1) 35 (Array.replicate 8 (.int .u32 0)) ∧ RowKit.Below w.heap.size w wr) := Lib.hid (by
                    have := HI.out
                    obtain rfl : k = 8 := by omega
                    rw [addN_all, ← HZ.out, ← HWl.out] at this
                    exact ⟨this.1, this.2.1, this.2.2.2⟩)
                  clear HI
                  obtain ⟨R, hR⟩ : ∃ R, blkV h bs = R := ⟨_, rfl⟩
                  rw [hR] at HE
                  have HRe := Lib.hid hR
                  clear hR
                  go_wp2_with (first
                    | (refine wpList_load_mid rfl 35 (.tmp 2) rfl w.heap.size 0 (by rfl) R.cs _ HE.out.1.range Tryd.underlying35 rfl (by kernel_rfl) ?_)
                    | (refine wpList_store_v8 rfl (.tmp 4) (.tmp 194) rfl (w.heap.size + 1) R (by rfl) (by rfl) HE.out.2.1 (by simp) ?_; intro w6 hB6 hbl6 hz6 hh6))
                  exact bodyPost_ret (res_cell1 rfl (b := w.heap.size + 1) (o := 0) (cs := R.cs) rfl hB6.range Tryd.underlying35 rfl (by kernel_rfl)) rfl ⟨by rw [HRe.out], HE.out.2.2.trans (hbl6 _ (by omega))⟩
end Go.Proofs.YtjcklmhkdpbbdaaDoor
