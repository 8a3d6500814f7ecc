/- Chapter 3, the law ShaBlocks: any block taken into any words. -/
import Derived.Test.YtjcklmhkdpbbdaaDoorShaL
import Derived.Test.YtjcklmhkdpbbdaaDoorEqFlat
import Derived.Test.YtjcklmhkdpbbdaaDoorQuietL
namespace Go.Proofs.YtjcklmhkdpbbdaaDoor
set_option linter.unusedVariables false
set_option linter.unusedSimpArgs false
open Go.RowKit Go.Sort Go.ChangeShapes

theorem flat_w8 : flatOf Tryd.prog 5 35 = some (List.replicate 8 (.int .u32)) := by kernel_rfl
theorem flatk_w8 (v : V8) : FlatK (List.replicate 8 (.int .u32)) v.cs := ⟨rfl, rfl, rfl, rfl, rfl, rfl, rfl, rfl, trivial⟩
theorem eq_w8 (v : V8) (w : World) : (binOp .eql 35 (.agg v.cs.toArray) (.agg v.cs.toArray)).run Tryd.prog w = .ok (.bool true) w := by
  have := eql_flat w flat_w8 (by kernel_rfl) (by decide) (by kernel_rfl) (flatk_w8 v) (flatk_w8 v)
  rw [eqLeaves_self (flatk_w8 v)] at this
  exact this
theorem build_sth (h : V8) (w : World) : (Instr.build 47 #[(0, .agg h.cs.toArray)]).run Tryd.prog w = .ok (.agg (stCs h (List.replicate 64 0) 0).toArray) w := by
  obtain ⟨a, b, c, d, e, f, g, h⟩ := h
  exact run_build w _ _ _ (by kernel_rfl)
theorem sth_len (h : V8) : (stCs h (List.replicate 64 0) 0).length = 73 := by
  have := stCs_len (h := h) (sm := List.replicate 64 0) (n := 0) (tl := []) (by simp)
  simpa using this
theorem sth_one (h : V8) : ∀ u ∈ stCs h (List.replicate 64 0) 0, u.oneCell' = true := by
  intro u hu
  unfold stCs at hu
  rcases List.mem_append.1 hu with hu | hu
  · exact h.one u hu
  · rcases List.mem_append.1 hu with hu | hu
    · exact one_b _ u hu
    · obtain rfl := List.mem_singleton.1 hu; rfl

set_option maxRecDepth 100000 in
set_option maxHeartbeats 4000000 in
theorem shaBlock_any (h : V8) (bs : List Int) (w : World) (hl : bs.length = 64) (hok : BytesOk bs) (hT : Tabs w) :
    Calls Tryd.prog 21 #[.agg h.cs.toArray, .agg (bs.flatMap encB).toArray] w fun e w' => e = .returned (.agg (blkV h bs).cs.toArray) ∧ Below w.heap.size w w' := by
  have hz8 := (zero_of_info info_w8).1
  obtain ⟨Z0, hZs, hz0⟩ : ∃ Z0 : Array Value, Z0.size = 73 ∧ ∀ w, (zeroValue 47).run Tryd.prog w = .ok (.agg Z0) w := ⟨_, by simp, (zero_of_info info_st0).1⟩
  have hb1 := bal (Below.refl w.heap.size w) (.cells h.cs.toArray 35)
  have hb2 := bal' hb1 (.cells (bs.flatMap encB).toArray 36) hb1.size
  have hb3 := bal' hb2 (.cells (Array.replicate 8 (.int .u32 0)) 35) hb2.size
  have HB1 : Hid (Blk (((w.alloc (.cells h.cs.toArray 35)).alloc (.cells (bs.flatMap encB).toArray 36)).alloc (.cells (Array.replicate 8 (.int .u32 0)) 35)) w.heap.size 35 h.cs.toArray) := Lib.hid (((Blk.new w _ _).alloc _).alloc _)
  have HB2 : Hid (Blk (((w.alloc (.cells h.cs.toArray 35)).alloc (.cells (bs.flatMap encB).toArray 36)).alloc (.cells (Array.replicate 8 (.int .u32 0)) 35)) (w.heap.size + 1) 36 (bs.flatMap encB).toArray) := Lib.hid ((Blk.fresh _ _ _).alloc _)
  have HB3 : Hid (Blk (((w.alloc (.cells h.cs.toArray 35)).alloc (.cells (bs.flatMap encB).toArray 36)).alloc (.cells (Array.replicate 8 (.int .u32 0)) 35)) (w.heap.size + 2) 35 (Array.replicate 8 (.int .u32 0))) := Lib.hid (Blk.fresh _ _ _)
  have HBu := Lib.hid (fun W => build_sth h W)
  have hlen : (bs.flatMap encB).length = 64 := by rw [flatB_len, hl]
  have hsz8 : h.cs.toArray.size = 8 := rfl
  have hsz64 : (bs.flatMap encB).toArray.size = 64 := by rw [List.size_toArray, hlen]
  have Hb3 := Lib.hid hb3
  have HCl := Lib.hid h.len
  have HSl := Lib.hid (sth_len h)
  have hszS : (stCs h (List.replicate 64 0) 0).toArray.size = 73 := by rw [List.size_toArray, sth_len]
  have hst := store_new (P := Tryd.prog) (T := 47) (s := 73) (Z := Z0) hZs (by kernel_rfl) (sth_len h) (sth_one h) (((w.alloc (.cells h.cs.toArray 35)).alloc (.cells (bs.flatMap encB).toArray 36)).alloc (.cells (Array.replicate 8 (.int .u32 0)) 35))
  simp only [World.size_alloc] at hst
  have hT0 := hT.size
  have HBk := Lib.hid (fun W (hT : Tabs W) hB hr => block_any (w.heap.size + 3) 47 [] h (List.replicate 64 0) 0 (some ⟨w.heap.size + 1, 0, none⟩) 64 bs W (by simp) (by decide) hT (by omega) hB hl hok hr)
  have HT := Lib.hid hT
  obtain ⟨S0, hS0⟩ : ∃ x, stCs h (List.replicate 64 0) 0 = x := ⟨_, rfl⟩
  obtain ⟨C0, hC0⟩ : ∃ x, h.cs = x := ⟨_, rfl⟩
  obtain ⟨X0, hX0⟩ : ∃ x, bs.flatMap encB = x := ⟨_, rfl⟩
  obtain ⟨R0, hR0⟩ : ∃ x, blkV h bs = x := ⟨_, rfl⟩
  rw [hS0, hC0, hX0] at hst
  rw [hC0, hX0] at HB1 HB2 HB3 Hb3
  rw [hS0, hC0] at HBu
  rw [hC0] at hsz8 HCl ⊢
  rw [hX0] at hlen hsz64 HBk ⊢
  rw [hS0] at hszS HBk
  rw [hR0] at HBk
  have HR0 := Lib.hid hR0
  have HXl := Lib.hid hlen
  have HS0 := Lib.hid hS0
  clear hl hok hT hb1 hb2 hb3 hS0 hC0 hX0 hR0 hlen HSl
  go_enter Tryd.func21, Tryd.ntmps21
  go_upto_region 1 with (fail)
  refine wp_region_lit ?_
  refine wpList_load_mid rfl 35 (.tmp 2) rfl w.heap.size 0 (by rfl) C0 _ HB1.out.range Tryd.underlying35 rfl (by rw [HCl.out]; kernel_rfl) ?_
  refine wpList_built rfl 47 #[(0, .tmp 6)] rfl (vals := #[(0, .agg C0.toArray)]) (by go_simp) (HBu.out _) ?_
  go_upto_region 2 with (fail)
  refine wp_name ?_
  intro w4 hw4
  have hb34 : RowKit.Below ((((w.alloc (.cells C0.toArray 35)).alloc (.cells X0.toArray 36)).alloc (.cells (Array.replicate 8 (.int .u32 0)) 35))).heap.size (((w.alloc (.cells C0.toArray 35)).alloc (.cells X0.toArray 36)).alloc (.cells (Array.replicate 8 (.int .u32 0)) 35)) w4 := by rw [hw4]; exact bal (Below.refl _ _) _
  have hbw4 : RowKit.Below w.heap.size w w4 := Hb3.out.trans (hb34.mono Hb3.out.size)
  have hB4 : Blk w4 (w.heap.size + 3) 47 (S0 ++ []).toArray := by rw [hw4, List.append_nil]; exact Blk.fresh _ _ _
  have hX4 := HB2.out.kept hb34
  have hR4 := HB3.out.kept hb34
  have HBk4 := Lib.hid (HBk.out w4 (HT.out.kept hbw4) hB4 (hX4.rd (by rw [HXl.out])))
  have hg4 := hB4.lt
  clear hw4 hb34 hB4 HBk HB1 HB2 HB3 Hb3 HBu
  go_upto_region 3 with (go_at_call 56; refine HBk4.out.mono ?_; rintro e w5 ⟨rfl, hB5, hn5⟩)
  have hR5 : Blk w5 (w.heap.size + 2) 35 (Array.replicate 8 (.int .u32 0)) := hR4.same (hn5.block _ hR4.lt (by omega))
  have hbw5 : RowKit.Below w.heap.size w w5 := (Near.of_below (fun i => i = w.heap.size + 3) hbw4).trans hn5 |>.below (fun i hi => by omega) (Nat.le_refl _)
  have hF5 := stCs_range hB5
  clear HBk4 hn5 hB5 hX4 hR4
  go_wp2_with (first
    | (refine wpList_load_mid rfl 35 (.tmp 10) rfl (w.heap.size + 3) 0 (by rfl) R0.cs _ hF5 Tryd.underlying35 rfl (by kernel_rfl) ?_)
    | (refine wpList_store_v8 rfl (.tmp 4) (.tmp 11) rfl (w.heap.size + 2) R0 (by rfl) (by rfl) hR5 (by simp) ?_; intro w6 hB6 hbl6 hz6 hh6))
  exact bodyPost_ret (res_cell1 rfl (b := w.heap.size + 2) (o := 0) (cs := R0.cs) rfl hB6.range Tryd.underlying35 rfl (by kernel_rfl)) rfl ⟨by rw [HR0.out], hbw5.trans (hbl6 _ (by omega))⟩

set_option maxRecDepth 100000 in
set_option maxHeartbeats 4000000 in
theorem shaBlocks_any (h : V8) (bs : List Int) (w : World) (hl : bs.length = 64) (hok : BytesOk bs) (hT : Tabs w) :
    Calls Tryd.prog 5 #[.agg h.cs.toArray, .agg (bs.flatMap encB).toArray] w fun e w' => e = .returned (.bool true) ∧ Below w.heap.size w w' := by
  have hb1 := bal (Below.refl w.heap.size w) (.cells h.cs.toArray 35)
  have hb2 := bal' hb1 (.cells (bs.flatMap encB).toArray 36) hb1.size
  have HB1 : Hid (Blk ((w.alloc (.cells h.cs.toArray 35)).alloc (.cells (bs.flatMap encB).toArray 36)) w.heap.size 35 h.cs.toArray) := Lib.hid ((Blk.new w _ _).alloc _)
  have HB2 : Hid (Blk ((w.alloc (.cells h.cs.toArray 35)).alloc (.cells (bs.flatMap encB).toArray 36)) (w.heap.size + 1) 36 (bs.flatMap encB).toArray) := Lib.hid (Blk.fresh _ _ _)
  have HA := Lib.hid (awake03_any _ (hT.kept hb2))
  have HXl := Lib.hid (show (bs.flatMap encB).length = 64 by rw [flatB_len, hl])
  have hsz8 : h.cs.toArray.size = 8 := rfl
  have hsz64 : (bs.flatMap encB).toArray.size = 64 := by rw [List.size_toArray, HXl.out]
  have Hb2 := Lib.hid hb2
  have HT := Lib.hid hT
  have H1 := Lib.hid (fun W (hW : Tabs W) => shaBlock_any h bs W hl hok hW)
  have H2 := Lib.hid (fun W hr => refBlock_any h (some ⟨w.heap.size + 1, 0, none⟩) 64 bs W hl hok hr)
  have heq := fun W => eq_w8 (blkV h bs) W
  have HCl := Lib.hid h.len
  generalize (blkV h bs).cs = R0 at *
  generalize bs.flatMap encB = X0 at *
  generalize h.cs = C0 at *
  clear hl hok hT hb1 hb2
  go_enter Tryd.func5, Tryd.ntmps5
  go_upto_region 3 with (go_at_call 14; refine HA.out.mono ?_; rintro e w1 ⟨rfl, hb1⟩)
  have hB1 := HB1.out.kept hb1
  have hB2 := HB2.out.kept hb1
  have hbw1 := Hb2.out.trans (hb1.mono Hb2.out.size)
  have hT1 := Lib.hid (HT.out.kept hbw1)
  have r1 := range_regrown hB1
  have r2 := range_regrown hB2
  have F1 := Lib.hid (fun (d : Nat) (os : Array Obj) => H1.out (grow (redrawn w1 d) os) (hT1.out.kept (below_regrown w1 d os)))
  have F2 := Lib.hid (fun (d : Nat) (os : Array Obj) => H2.out (grow (redrawn w1 d) os) ((hB2.kept (below_regrown w1 d os)).rd (by rw [HXl.out])))
  clear HB1 HB2 HA H1 H2 hb1
  refine wp_region_quiet_below (by kernel_rfl) (by kernel_rfl) ?_
  refine wpQuiet_load 35 (.tmp 2) rfl w.heap.size 0 (by rfl) C0 _ r1 Tryd.underlying35 rfl (by rw [HCl.out]; kernel_rfl) (by kernel_rfl) ?_
  refine wpQuiet_load 36 (.tmp 3) rfl (w.heap.size + 1) 0 (by rfl) X0 _ r2 Tryd.underlying36 rfl (by rw [HXl.out]; kernel_rfl) (by kernel_rfl) ?_
  quiet_step ((go_at_call 21; with_reducible exact regrown (F1.out _ _)))
  refine wpQuiet_load 35 (.tmp 2) rfl w.heap.size 0 (by rfl) C0 _ r1 Tryd.underlying35 rfl (by rw [HCl.out]; kernel_rfl) (by kernel_rfl) ?_
  quiet_step ((fail))
  quiet_step ((go_at_call 22; with_reducible exact regrown (F2.out _ _)))
  refine wpQuiet_eql 35 _ (.tmp 9) (.tmp 12) rfl (by rfl) (by rfl) heq (by kernel_rfl) (by kernel_rfl) ?_
  quiet_step ((fail))
  refine wpQuiet_nil ?_
  rintro w3 ⟨p, rfl⟩
  have hb3 := below_regrown w1 p.d p.os
  go_wp2
  go_ret
  exact ⟨rfl, hbw1.trans (hb3.mono hbw1.size)⟩

theorem flat_b64 : flatOf Tryd.prog 5 36 = some (List.replicate 64 (.int .u8)) := by kernel_rfl
theorem flats_b : ∀ (n : Nat) (cs : List Value), FlatOk (List.replicate n (.int .u8)) cs → ∃ l : List Int, cs = l.flatMap encB ∧ l.length = n ∧ BytesOk l
  | 0, [], _ => ⟨[], rfl, rfl, fun x hx => by cases hx⟩
  | n + 1, .int _ a :: cs, h => by
    obtain ⟨rfl, wa, h⟩ := h
    obtain ⟨l, rfl, hl, ho⟩ := flats_b n cs h
    exact ⟨a :: l, rfl, by simp [hl], fun x hx => (List.mem_cons.1 hx).elim (fun e => by subst e; exact wf_u8 wa) (ho x)⟩
theorem flats_w (cs : List Value) (h : FlatOk (List.replicate 8 (.int .u32)) cs) : ∃ v : V8, cs = v.cs := by
  match cs, h with
  | [.int _ a, .int _ b, .int _ c, .int _ d, .int _ e, .int _ f, .int _ g, .int _ i], ⟨rfl, wa, rfl, wb, rfl, wc, rfl, wd, rfl, we, rfl, wf, rfl, wg, rfl, wi, _⟩ =>
    obtain ⟨a, rfl⟩ := iw_of (wf_u32 wa).1 (wf_u32 wa).2
    obtain ⟨b, rfl⟩ := iw_of (wf_u32 wb).1 (wf_u32 wb).2
    obtain ⟨c, rfl⟩ := iw_of (wf_u32 wc).1 (wf_u32 wc).2
    obtain ⟨d, rfl⟩ := iw_of (wf_u32 wd).1 (wf_u32 wd).2
    obtain ⟨e, rfl⟩ := iw_of (wf_u32 we).1 (wf_u32 we).2
    obtain ⟨f, rfl⟩ := iw_of (wf_u32 wf).1 (wf_u32 wf).2
    obtain ⟨g, rfl⟩ := iw_of (wf_u32 wg).1 (wf_u32 wg).2
    obtain ⟨i, rfl⟩ := iw_of (wf_u32 wi).1 (wf_u32 wi).2
    exact ⟨⟨a, b, c, d, e, f, g, i⟩, rfl⟩
set_option maxRecDepth 100000 in
theorem shaBlocks_law : LawWalkL Tryd.prog 5 Tryd.f5 := by
  intro H enc W base args ds p hval hA hlt hfz hsz hT
  rw [Tryd.params5] at hA hval
  obtain ⟨v0, v1, d0, d1, p0, p1, rfl, rfl, rfl, h0, h1⟩ := trodAll_two hA
  obtain ⟨cs0, rfl, ho0⟩ := open_flat flat_w8 (by kernel_rfl) (hval 0 35 v0 rfl rfl) h0
  obtain ⟨cs1, rfl, ho1⟩ := open_flat flat_b64 (by kernel_rfl) (hval 1 36 v1 rfl rfl) h1
  obtain ⟨v, rfl⟩ := flats_w cs0 ho0
  obtain ⟨l, rfl, hl, hok⟩ := flats_b 64 cs1 ho1
  exact shaBlocks_any v l W hl hok hT
theorem shaBlocks_said : Rows.ShaBlocksSaid :=
  OpenClaim.holds_of_wide 5 Tryd.f5 rfl rfl rfl rfl rfl rfl rfl ⟨rfl, rfl, rfl, rfl, rfl⟩ rfl rfl rfl rfl rfl (by kernel_rfl) Tryd.func5 (by kernel_rfl)
    (of_decide_eq_true (by kernel_rfl)) (by unfold Func.isWrapper; first | (rw [if_pos (by decide +kernel)]; kernel_rfl) | (rw [if_neg (by decide +kernel)]; exact ⟨rfl, rfl⟩))
    (fun os started H enc _ => law_liftedL (s := Rows.shaBlocksSpec) started own laidOut (by kernel_rfl) Tryd.func5 rfl (n := 2) (by kernel_rfl) (fun ds h => by match ds, h with | [_, _], _ => rfl) (tb := 4) (by kernel_rfl) Tryd.underlying4 (by kernel_rfl)
      (laid_witness #[.agg #[.int .u32 0, .int .u32 0, .int .u32 0, .int .u32 0, .int .u32 0, .int .u32 0, .int .u32 0, .int .u32 0], .agg #[.int .u8 0, .int .u8 0, .int .u8 0, .int .u8 0, .int .u8 0, .int .u8 0, .int .u8 0, .int .u8 0, .int .u8 0, .int .u8 0, .int .u8 0, .int .u8 0, .int .u8 0, .int .u8 0, .int .u8 0, .int .u8 0, .int .u8 0, .int .u8 0, .int .u8 0, .int .u8 0, .int .u8 0, .int .u8 0, .int .u8 0, .int .u8 0, .int .u8 0, .int .u8 0, .int .u8 0, .int .u8 0, .int .u8 0, .int .u8 0, .int .u8 0, .int .u8 0, .int .u8 0, .int .u8 0, .int .u8 0, .int .u8 0, .int .u8 0, .int .u8 0, .int .u8 0, .int .u8 0, .int .u8 0, .int .u8 0, .int .u8 0, .int .u8 0, .int .u8 0, .int .u8 0, .int .u8 0, .int .u8 0, .int .u8 0, .int .u8 0, .int .u8 0, .int .u8 0, .int .u8 0, .int .u8 0, .int .u8 0, .int .u8 0, .int .u8 0, .int .u8 0, .int .u8 0, .int .u8 0, .int .u8 0, .int .u8 0, .int .u8 0, .int .u8 0]] (by kernel_rfl) (by kernel_rfl) (by kernel_rfl) (laidMetH_of_parts3 (fuel := 8) (laidMet_of_run' 8 (by kernel_rfl) (by kernel_rfl)) (by kernel_rfl) (by kernel_rfl)) (World.shaped_of_RefB (by kernel_rfl) (by kernel_rfl))) shaBlocks_law)
theorem shaBlocks_proved : Rows.ShaBlocksCardSaid :=
  Claim7.holds_tied_plain_at .later [] _ _ _ _ shaBlocks_said (fun _ h => by cases h) (by kernel_rfl) (fun _ h => by cases h) shaBlocks_row_tie rfl ⟨rfl, rfl⟩ (by kernel_rfl) rfl
    (fun f fn hf hfn => by
      obtain rfl : f = 5 := Option.some.inj ((show Tryd.prog.funcNamed "portreeve/portreevelaw03.ShaBlocks" = some 5 by kernel_rfl).symm.trans hf) |>.symm
      obtain rfl : fn = Tryd.f5 := (Option.some.inj (Tryd.func5.symm.trans hfn)).symm
      refine ⟨by kernel_rfl, fun j t ht => ?_⟩
      have hall : (Tryd.f5.params.toList.all fun u => !Tryd.prog.wantsStandIn u) = true := by kernel_rfl
      have hm : t ∈ Tryd.f5.params.toList := by simpa using Array.mem_of_getElem? ht
      exact (show Tryd.prog.wantsStandIn t = false by simpa using List.all_eq_true.1 hall t hm))
    (by kernel_rfl)
end Go.Proofs.YtjcklmhkdpbbdaaDoor
