/- A whole node put ((*fdt.writer).node), walked. -/
import Derived.Test.YtnkpaockginooaaPutA
import Derived.Test.YtnkpaockginooaaTreeH
namespace Go.Proofs.Ytnkpaockginooaa
set_option linter.unusedVariables false
set_option linter.unusedSimpArgs false
open Go.RowKit Go.Sort Go.Maps Go.WideShapes Go.ChangeShapes
theorem foldl_take {α β : Type} (f : β → α → β) (l : List α) (a : β) (j : Nat) (x : α) (h : l[j]? = some x) : (l.take (j + 1)).foldl f a = f ((l.take j).foldl f a) x := by
  obtain ⟨hj, rfl⟩ := List.getElem?_eq_some_iff.1 h
  rw [List.take_succ_eq_append_getElem hj, List.foldl_append]
  rfl
set_option maxRecDepth 100000 in
set_option maxHeartbeats 2000000 in
theorem node_any : ∀ (f k : Nat) (t : Tr) (cs : List Value) (n p n' p' : Int) (o g mb B : Nat) (S : Nat → Prop) (st : WS) (w : World), TrOk w B k t cs → mayF f t (n, p) = some (n', p') → 0 ≤ n → 0 ≤ p → BdO st n p o → WSt w S g mb st → (∀ i, S i → B ≤ i) → B ≤ w.heap.size →
    Calls Try.prog 35 #[.pointer (some ⟨g, 0, none⟩), .agg cs.toArray] w fun e w' => e = .returned (.tuple #[]) ∧ WOut S g mb (nodeS f t st) w w' := by
  intro f
  induction f with
  | zero =>
    intro k t cs n p n' p' o g mb B S st w hT hm
    simp [mayF] at hm
  | succ f ih =>
    intro k t cs n p n' p' o g mb B S st w hT hm hn0 hp0 hbd hw hSB hBw
    cases k with
    | zero => exact hT.elim
    | succ k =>
      have IH := Lib.hid (ih k)
      have HInv := Lib.hid (mayF_inv hm)
      have hle := mayF_le _ _ _ _ hm hn0 hp0
      have HT := Lib.hid hT
      obtain ⟨h0, A1, c1, A2, c2, rowF, rowG, rfl, h2, h3, h4, h5, h6, h7, h8, h9⟩ := hT
      have HF := Lib.hid h6
      have HG := Lib.hid h7
      have HP := Lib.hid h8
      have HK := Lib.hid h9
      obtain ⟨np, hnp⟩ : ∃ np, t.ps.length = np := ⟨_, rfl⟩
      obtain ⟨nk, hnk⟩ : ∃ nk, t.ks.length = nk := ⟨_, rfl⟩
      obtain ⟨nm, hnm⟩ : ∃ nm, t.nm = nm := ⟨_, rfl⟩
      rw [hnp] at h2 HF ⊢
      rw [hnk] at h4 HG ⊢
      rw [hnm] at h0 ⊢
      have HNp := Lib.hid hnp
      have HNk := Lib.hid hnk
      have HNm := Lib.hid hnm
      have hnm1 : nm.size ≤ 31 := by have := nmOk_len HInv.out.1.2.2.1; rwa [hnm] at this
      have hnm2 : nm.size ≤ 50000000 := by omega
      have HB0 := Lib.hid hbd
      have hh1 := HInv.out.1.1
      have hh2 := HInv.out.1.2.1
      simp only at hh1 hh2
      rw [hnp] at hh2
      have HBd := Lib.hid (show (st.b ++ be4 [1]).length + (nm.size + 1) ≤ 90000000 by
        rw [List.length_append, be4_len]
        have := hbd.1
        simp only [List.length_cons, List.length_nil]
        omega)
      have HBs := Lib.hid (show st.b.length ≤ 100000000 by
        have := hbd.1
        omega)
      have HSg := Lib.hid (show S g by obtain ⟨_, _, _, _, _, _, _, _, _, h, _⟩ := hw; exact h)
      have HSb := Lib.hid (show ∀ i, S i → i < w.heap.size by obtain ⟨_, _, _, _, _, _, _, _, _, _, _, h⟩ := hw; exact h)
      unfold maxLen at h3 h5
      have hTt := Blk.new w 25 #[.string nm, .slice A1 np c1, .slice A2 nk c2]
      have hbt := bal (Below.refl w.heap.size w) (.cells #[.string nm, .slice A1 np c1, .slice A2 nk c2] 25)
      have hzt : (w.alloc (.cells #[.string nm, .slice A1 np c1, .slice A2 nk c2] 25)).heap.size = w.heap.size + 1 := by simp
      have hwt := hw.kept hbt
      clear hm h6 h7 h8 h9 hnp hnk hnm hbd ih
      go_enter Try.func35, Try.ntmps35
      go_upto_region 1 with (fail)
      have HBt := Lib.hid hbt
      clear hbt
      generalize hb0 : w.heap.size = b0 at *
      have HBz := Lib.hid hb0
      clear hb0
      generalize w.alloc (.cells #[.string nm, .slice A1 np c1, .slice A2 nk c2] 25) = wt at *
      have HZt := Lib.hid hzt
      clear hzt
      have HTk := Lib.hid (fun W (h : Near S wt W) => hTt.same (h.block b0 hTt.lt (fun h => absurd (HSb.out _ h) (Nat.lt_irrefl _))))
      have HBl := Lib.hid (fun W (h : Near S wt W) => (HBt.out.mono hBw).trans (h.below hSB (by have := HZt.out; omega)))
      have hba := bal (Below.refl wt.heap.size wt) (.cells #[.int .u32 1] 44)
      have HF1 := Lib.hid (wfour_any g mb st S (some ⟨wt.heap.size, 0, none⟩) 1 1 [1] (wt.alloc (.cells #[.int .u32 1] 44)) (hwt.kept hba) rfl HBs.out (by decide) (by decide) (Rd.fresh wt #[.int .u32 1] 44 1 1 _ rfl))
      go_upto_region 2 with (go_at_call 36; with_reducible refine HF1.out.mono ?_; rintro e w1 ⟨rfl, hw1, hn1⟩)
      rw [World.size_alloc, HZt.out] at hw1
      have hz1 := hn1.size
      rw [World.size_alloc, HZt.out] at hz1
      have hzt := HZt.out
      have HW2 := Lib.hid hw1
      have hTa := hTt.alloc (.cells #[.int .u32 1] 44)
      have hT2 := hTa.same (hn1.block _ hTa.lt (fun h => absurd (HSb.out _ h) (by omega)))
      have hn2 : Near S wt w1 := ((Near.refl S wt).alloc _).trans hn1
      have hz2 : b0 + 2 ≤ w1.heap.size := by omega
      have hgb : g < b0 := HSb.out _ HSg.out
      clear hw1 hn1 HF1 hTa hba
      generalize w1 = w2 at *
      have hS1 : (fun W' : World => ∀ i, W'.cell? ⟨b0, i, none⟩ = (#[.string nm, .slice A1 np c1, .slice A2 nk c2] : Array Value)[i]?) w2.drew := hT2.drew.cell
      refine wp_region_held_drew (S := fun W' : World => ∀ i, W'.cell? ⟨b0, i, none⟩ = (#[.string nm, .slice A1 np c1, .slice A2 nk c2] : Array Value)[i]?) (by kernel_rfl) hS1 (fun hHeld => ?_)
      clear hHeld
      refine wpAnyH_take (i := 0) (v := ?va0) rfl (by kernel_rfl) (by kernel_rfl) (by kernel_rfl) (fun _ _ _ h => h) (Or.inl ⟨by kernel_rfl, ?hya0⟩) hS1 ?resta0
      case hya0 =>
        intro w hSw
        clear hSw
        go_simp
        first | done | with_reducible rfl
      (try simp only [List.getElem_toArray, List.getElem_cons_succ, List.getElem_cons_zero, Act.put, List.setIfInBounds_toArray, List.set_cons_zero, List.set_cons_succ])
      refine wpAnyH_take (i := 1) (v := ?va1) rfl (by kernel_rfl) (by kernel_rfl) (by kernel_rfl) (fun _ _ _ h => h) (Or.inl ⟨by kernel_rfl, ?hya1⟩) hS1 ?resta1
      case hya1 =>
        intro w hSw
        clear hSw
        go_simp
        first | done | with_reducible rfl
      (try simp only [List.getElem_toArray, List.getElem_cons_succ, List.getElem_cons_zero, Act.put, List.setIfInBounds_toArray, List.set_cons_zero, List.set_cons_succ])
      refine wpAnyH_take (i := 2) (v := ?va2) rfl (by kernel_rfl) (by kernel_rfl) (by kernel_rfl) (fun _ _ _ h => h) (Or.inl ⟨by kernel_rfl, ?hya2⟩) hS1 ?resta2
      case hya2 =>
        intro w hSw
        clear hSw
        go_simp
        first | done | with_reducible rfl
      (try simp only [List.getElem_toArray, List.getElem_cons_succ, List.getElem_cons_zero, Act.put, List.setIfInBounds_toArray, List.set_cons_zero, List.set_cons_succ])
      refine wpAnyH_take (i := 3) (v := ?va3) rfl (by kernel_rfl) (by kernel_rfl) (by kernel_rfl) (fun _ _ _ h => h) (Or.inl ⟨by kernel_rfl, ?hya3⟩) hS1 ?resta3
      case hya3 =>
        intro w hSw
        clear hSw
        go_simp
        first | done | with_reducible rfl
      (try simp only [List.getElem_toArray, List.getElem_cons_succ, List.getElem_cons_zero, Act.put, List.setIfInBounds_toArray, List.set_cons_zero, List.set_cons_succ])
      refine wpAnyH_take (i := 4) (v := ?va4) rfl (by kernel_rfl) (by kernel_rfl) (by kernel_rfl) (fun _ _ _ h => h) (Or.inl ⟨by kernel_rfl, ?hya4⟩) hS1 ?resta4
      case hya4 =>
        intro w hSw
        (try dsimp only at hSw)
        go_simp
        first | done | with_reducible rfl
      (try simp only [List.getElem_toArray, List.getElem_cons_succ, List.getElem_cons_zero, Act.put, List.setIfInBounds_toArray, List.set_cons_zero, List.set_cons_succ])
      have hcv := fun W => (conv_row W nm (by unfold maxLen; omega)).1
      refine wpAnyH_all (rs := [5, 6]) (by kernel_rfl) (by simp) fun j hj => ?_
      have hj2 : j = 5 ∨ j = 6 := by simpa using hj
      clear hj
      rcases hj2 with rfl | rfl
      · refine wpOp_do rfl (by kernel_rfl) fun K hK => ?_
        simp only [List.getElem_toArray, List.getElem_cons_succ, List.getElem_cons_zero]
        go_simp
        obtain ⟨_, hrow5, hb5⟩ := conv_row w2.drew nm (by unfold maxLen; omega)
        have hb5' : Below w2.heap.size w2 (Lib.bytesWorld w2.drew 5 nm) := (Below.refl _ w2).drew.trans hb5
        have hS5 : (fun W' : World => ∀ i, W'.cell? ⟨b0, i, none⟩ = (#[.string nm, .slice A1 np c1, .slice A2 nk c2] : Array Value)[i]?) (Lib.bytesWorld w2.drew 5 nm) := (hT2.kept hb5').cell
        refine hK.out _ _ hS5 ?_
        clear hK K
        (try simp only [List.getElem_toArray, List.getElem_cons_succ, List.getElem_cons_zero, Act.put, List.setIfInBounds_toArray, List.set_cons_zero, List.set_cons_succ])
        generalize hgc : grownCap w2.drew nm.size 0 5 = gc at *
        have hz5 := hb5'.size
        have hsz5 : (Lib.bytesWorld w2.drew 5 nm).heap.size = w2.heap.size + 1 := Lib.bytesWorld_size w2.drew 5 nm
        generalize Lib.bytesWorld w2.drew 5 nm = w5 at *
        refine wpAnyH_call (i := 6) (by kernel_rfl) rfl (by kernel_rfl) fun K hK => ?_
        simp only [List.getElem_toArray, List.getElem_cons_succ, List.getElem_cons_zero]
        go_simp
        have hx6 := bal (Below.refl w5.heap.size w5) (.cells #[.int .u8 0] 5)
        have hb6 := bal hb5' (.cells #[.int .u8 0] 5)
        have hsrc6 : (w5.alloc (.cells #[.int .u8 0] 5)).cell? ⟨w2.heap.size + 1, 0, none⟩ = some (.int .u8 0) := by
          rw [← hsz5]
          exact (Blk.new w5 5 #[.int .u8 0]).cell 0
        have hrow6 := hrow5.kept (w' := w5.alloc (.cells #[.int .u8 0] 5)) (hx6.block _ (by show w2.heap.size < _; omega))
        have hS6 : (fun W' : World => ∀ i, W'.cell? ⟨b0, i, none⟩ = (#[.string nm, .slice A1 np c1, .slice A2 nk c2] : Array Value)[i]?) (w5.alloc (.cells #[.int .u8 0] 5)) := (hT2.kept hb6).cell
        refine hK.out _ _ hS6 ?_
        clear hK K
        (try simp only [List.getElem_toArray, List.getElem_cons_succ, List.getElem_cons_zero, Act.put, List.setIfInBounds_toArray, List.set_cons_zero, List.set_cons_succ])
        refine wpAnyH_call (i := 7) (by kernel_rfl) rfl (by kernel_rfl) fun K hK => ?_
        obtain ⟨A7, c7, w7, hr7, hc7a, hc7b, hrd7, hb7, _⟩ := run_app0 (w5.alloc (.cells #[.int .u8 0] 5)) 28 w2.heap.size w2.heap.size gc nm.size 1 ⟨w2.heap.size + 1, 0, none⟩ (strB nm) 0 hrow6 hsrc6 hnm2 hb6.size
        refine Lib.wp_append_run _ (.tmp 18) (.tmp 19) _ _ rfl (.slice (some ⟨w2.heap.size, 0, none⟩) nm.size gc) (.slice (some ⟨w2.heap.size + 1, 0, none⟩) 1 1) rfl rfl _ _ hr7 ?_
        have hb8 := hb6.trans hb7
        have hT7 := hT2.kept hb8
        have hS7 : (fun W' : World => ∀ i, W'.cell? ⟨b0, i, none⟩ = (#[.string nm, .slice A1 np c1, .slice A2 nk c2] : Array Value)[i]?) w7 := hT7.cell
        refine hK.out _ _ hS7 ?_
        clear hK K
        (try simp only [List.getElem_toArray, List.getElem_cons_succ, List.getElem_cons_zero, Act.put, List.setIfInBounds_toArray, List.set_cons_zero, List.set_cons_succ])
        refine wpAnyH_call (i := 8) (by kernel_rfl) rfl (by kernel_rfl) fun K hK => ?_
        simp only [List.getElem_toArray, List.getElem_cons_succ, List.getElem_cons_zero]
        go_simp
        go_at_call 80
        refine (wfill_any g mb (b0 + 2) ⟨st.b ++ be4 [1], st.x, st.n⟩ S A7 (nm.size + 1) c7 (strB nm ++ [0]) _ (HW2.out.kept hb8) (by simp [strB_len]) HBd.out (by simpa [strB_len] using hrd7)).mono ?_
        rintro e w9 ⟨rfl, hw9, hn9⟩
        have hT9 := hT7.same (hn9.block _ hT7.lt (by omega))
        have hS9 : (fun W' : World => ∀ i, W'.cell? ⟨b0, i, none⟩ = (#[.string nm, .slice A1 np c1, .slice A2 nk c2] : Array Value)[i]?) w9 := hT9.cell
        refine hK.out _ _ hS9 ?_
        clear hK K
        (try simp only [List.getElem_toArray, List.getElem_cons_succ, List.getElem_cons_zero, Act.put, List.setIfInBounds_toArray, List.set_cons_zero, List.set_cons_succ])
        refine wpAnyH_done (by kernel_rfl) ?_ _
        have hnT : Near S wt w9 := (hn2.trans (Near.of_below S hb8)).step hn9 (fun i hi => by
          rcases hi with h | h
          · exact .inl (by rw [h]; exact HSg.out)
          · exact .inr (by omega))
        have HW9 := Lib.hid (show WOut S g mb (headS nm st) wt w9 from ⟨_, hw9.st, hnT, fun i hi => by
          rcases hi.1 with h | h
          · exact .inl h
          · exact .inr (by omega)⟩)
        have HN9 := Lib.hid hnT
        clear hw9 hn9 hS1 hS7 hS9 hT7 hT9 hb7 hb8 hr7 hrd7 hnT
        have cT := (HTk.out w9 HN9.out).cell
        clear hT2 hn2 HW2
        go_wp2_with fail
        go_loopw [25] (fun i wr => ∃ j : Nat, j ≤ np ∧ i = .int .i64 j ∧ WOut S g mb ((t.ps.take j).foldl propS (headS nm st)) wt wr) (fun i _ => np - (intOf i).toNat)
        case atStart => exact ⟨0, by omega, rfl, HW9.out⟩
        case round =>
          clear HW9 HN9 cT
          obtain ⟨j, hj, rfl, S1, hw1, hn1, hs1⟩ := hrel
          have hBr := HBl.out _ hn1
          by_cases hlj : j < np
          · obtain ⟨pr, hpr⟩ : ∃ q, t.ps[j]? = some q := ⟨_, List.getElem?_eq_getElem (by rw [HNp.out]; exact hlj)⟩
            obtain ⟨hps, hpb, Ap, cp, hfj, hcp1, hcp2, hprd⟩ := HP.out j pr hpr
            obtain ⟨b1, o1, rfl, hbk, hc1⟩ := HF.out (by omega)
            have x0 := (hBr.cell (p := ⟨b1, o1 + (j * 2 + 0), none⟩) hbk).trans (hc1 j hlj 0 (by omega))
            have x1 := (hBr.cell (p := ⟨b1, o1 + (j * 2 + 1), none⟩) hbk).trans (hc1 j hlj 1 (by omega))
            rw [hfj] at x0 x1
            simp only [Nat.add_zero, ← Nat.add_assoc, List.getElem?_cons_zero, List.getElem?_cons_succ] at x0 x1
            have hok := prOk_bd (List.all_eq_true.1 HInv.out.1.2.2.2.1 _ (List.mem_of_getElem? hpr))
            have HFt := Lib.hid (foldl_take propS t.ps (headS nm st) j pr hpr)
            have HB1 := Lib.hid (show BdO ((t.ps.take j).foldl propS (headS nm st)) (n + 1) (p + j) (o + 1) by
              have := propsS_bdo (t.ps.take j) (headS_bdo HB0.out hnm1) (fun q hq => List.all_eq_true.1 HInv.out.1.2.2.2.1 q (List.mem_of_mem_take hq))
              rw [List.length_take, HNp.out, Nat.min_eq_left hj] at this
              exact this)
            clear hc1 hfj hpr
            obtain ⟨pn, pb⟩ := pr
            simp only at x0 hps hok
            obtain ⟨pl, hpl⟩ : ∃ pl, pb.length = pl := ⟨_, rfl⟩
            simp only at x1 hcp1 hcp2 hpb hprd
            rw [hpl] at x1 hcp1 hok hprd
            have HPl := Lib.hid hpl
            have HPr := Lib.hid hprd
            obtain ⟨st1, hst1⟩ : ∃ st1, (t.ps.take j).foldl propS (headS nm st) = st1 := ⟨_, rfl⟩
            rw [hst1] at hw1 HFt HB1
            have hbd1 := HB1.out
            have S1b : ∀ i, S1 i → i < wr.heap.size := by obtain ⟨_, _, _, _, _, _, _, _, _, _, _, h⟩ := hw1; exact h
            have S1g : S1 g := by obtain ⟨_, _, _, _, _, _, _, _, _, h, _⟩ := hw1; exact h
            have HTt := Lib.hid (fun W hW => text_any g mb st1 pn S1 W (hw1.kept hW) (by omega) (by have := hbd1.2.1; omega) (by have := hbd1.2.2; omega))
            have HSb1 := Lib.hid S1b
            have HS1 := Lib.hid hs1
            have HN1 := Lib.hid hn1
            have u1 : IntKind.u32.wrap (pl : Int) = pl := by show (pl : Int) % 4294967296 = _; omega
            obtain ⟨pc, hpc⟩ : ∃ pc, (textS st1 pn).2 = pc := ⟨_, rfl⟩
            have HPc := Lib.hid hpc
            rw [hpc] at HTt
            have hzr := hn1.size
            clear hpl hpb hprd hst1 hw1 S1b hs1 hn1 hbd1 hpc
            unfold maxLen at hcp2
            go_upto_region 6 with (fail)
            have hX := Blk.new wr 88 #[.string pn, .slice Ap pl cp]
            have hbX := bal (Below.refl wr.heap.size wr) (.cells #[.string pn, .slice Ap pl cp] 88)
            generalize wr.alloc (.cells #[.string pn, .slice Ap pl cp] 88) = wx at *
            have hS1 : (fun W' : World => ∀ i, W'.cell? ⟨wr.heap.size, i, none⟩ = (#[.string pn, .slice Ap pl cp] : Array Value)[i]?) wx.drew := hX.drew.cell
            refine wp_region_held_drew (S := fun W' : World => ∀ i, W'.cell? ⟨wr.heap.size, i, none⟩ = (#[.string pn, .slice Ap pl cp] : Array Value)[i]?) (by kernel_rfl) hS1 (fun hHeld => ?_)
            clear hHeld
            refine wpAnyH_take (i := 0) (v := ?vxb0) rfl (by kernel_rfl) (by kernel_rfl) (by kernel_rfl) (fun _ _ _ h => h) (Or.inl ⟨by kernel_rfl, ?hyxb0⟩) hS1 ?restxb0
            case hyxb0 =>
              intro w hSw
              clear hSw
              go_simp
              first | done | with_reducible rfl
            (try simp only [List.getElem_toArray, List.getElem_cons_succ, List.getElem_cons_zero, Act.put, List.setIfInBounds_toArray, List.set_cons_zero, List.set_cons_succ])
            refine wpAnyH_take (i := 1) (v := ?vxb1) rfl (by kernel_rfl) (by kernel_rfl) (by kernel_rfl) (fun _ _ _ h => h) (Or.inl ⟨by kernel_rfl, ?hyxb1⟩) hS1 ?restxb1
            case hyxb1 =>
              intro w hSw
              clear hSw
              go_simp
              first | done | with_reducible rfl
            (try simp only [List.getElem_toArray, List.getElem_cons_succ, List.getElem_cons_zero, Act.put, List.setIfInBounds_toArray, List.set_cons_zero, List.set_cons_succ])
            refine wpAnyH_take (i := 2) (v := ?vxb2) rfl (by kernel_rfl) (by kernel_rfl) (by kernel_rfl) (fun _ _ _ h => h) (Or.inl ⟨by kernel_rfl, ?hyxb2⟩) hS1 ?restxb2
            case hyxb2 =>
              intro w hSw
              clear hSw
              go_simp
              first | done | with_reducible rfl
            (try simp only [List.getElem_toArray, List.getElem_cons_succ, List.getElem_cons_zero, Act.put, List.setIfInBounds_toArray, List.set_cons_zero, List.set_cons_succ])
            refine wpAnyH_take (i := 3) (v := ?vxb3) rfl (by kernel_rfl) (by kernel_rfl) (by kernel_rfl) (fun _ _ _ h => h) (Or.inl ⟨by kernel_rfl, ?hyxb3⟩) hS1 ?restxb3
            case hyxb3 =>
              intro w hSw
              clear hSw
              go_simp
              first | done | with_reducible rfl
            (try simp only [List.getElem_toArray, List.getElem_cons_succ, List.getElem_cons_zero, Act.put, List.setIfInBounds_toArray, List.set_cons_zero, List.set_cons_succ])
            refine wpAnyH_take (i := 4) (v := ?vxb4) rfl (by kernel_rfl) (by kernel_rfl) (by kernel_rfl) (fun _ _ _ h => h) (Or.inl ⟨by kernel_rfl, ?hyxb4⟩) hS1 ?restxb4
            case hyxb4 =>
              intro w hSw
              (try dsimp only at hSw)
              go_simp
              first | done | with_reducible rfl
            (try simp only [List.getElem_toArray, List.getElem_cons_succ, List.getElem_cons_zero, Act.put, List.setIfInBounds_toArray, List.set_cons_zero, List.set_cons_succ])
            refine wpAnyH_take (i := 5) (v := ?vxb5) rfl (by kernel_rfl) (by kernel_rfl) (by kernel_rfl) (fun _ _ _ h => h) (Or.inl ⟨by kernel_rfl, ?hyxb5⟩) hS1 ?restxb5
            case hyxb5 =>
              intro w hSw
              clear hSw
              go_simp
              first | done | with_reducible rfl
            (try simp only [List.getElem_toArray, List.getElem_cons_succ, List.getElem_cons_zero, Act.put, List.setIfInBounds_toArray, List.set_cons_zero, List.set_cons_succ])
            refine wpAnyH_take (i := 6) (v := ?vxb6) rfl (by kernel_rfl) (by kernel_rfl) (by kernel_rfl) (fun _ _ _ h => h) (Or.inl ⟨by kernel_rfl, ?hyxb6⟩) hS1 ?restxb6
            case hyxb6 =>
              intro w hSw
              clear hSw
              go_simp
              first | done | with_reducible rfl
            (try simp only [List.getElem_toArray, List.getElem_cons_succ, List.getElem_cons_zero, Act.put, List.setIfInBounds_toArray, List.set_cons_zero, List.set_cons_succ])
            refine wpAnyH_take (i := 7) (v := ?vxb7) rfl (by kernel_rfl) (by kernel_rfl) (by kernel_rfl) (fun _ _ _ h => h) (Or.inl ⟨by kernel_rfl, ?hyxb7⟩) hS1 ?restxb7
            case hyxb7 =>
              intro w hSw
              clear hSw
              go_simp
              first | done | with_reducible rfl
            (try simp only [List.getElem_toArray, List.getElem_cons_succ, List.getElem_cons_zero, Act.put, List.setIfInBounds_toArray, List.set_cons_zero, List.set_cons_succ])
            refine wpAnyH_take (i := 8) (v := ?vxb8) rfl (by kernel_rfl) (by kernel_rfl) (by kernel_rfl) (fun _ _ _ h => h) (Or.inl ⟨by kernel_rfl, ?hyxb8⟩) hS1 ?restxb8
            case hyxb8 =>
              intro w hSw
              clear hSw
              go_simp
              first | done | with_reducible rfl
            (try simp only [List.getElem_toArray, List.getElem_cons_succ, List.getElem_cons_zero, Act.put, List.setIfInBounds_toArray, List.set_cons_zero, List.set_cons_succ])
            refine wpAnyH_take (i := 9) (v := ?vxb9) rfl (by kernel_rfl) (by kernel_rfl) (by kernel_rfl) (fun _ _ _ h => h) (Or.inl ⟨by kernel_rfl, ?hyxb9⟩) hS1 ?restxb9
            case hyxb9 =>
              intro w hSw
              (try dsimp only at hSw)
              go_simp
              first | done | with_reducible rfl
            (try simp only [List.getElem_toArray, List.getElem_cons_succ, List.getElem_cons_zero, Act.put, List.setIfInBounds_toArray, List.set_cons_zero, List.set_cons_succ])
            refine wpAnyH_call (i := 10) (by kernel_rfl) rfl (by kernel_rfl) fun K hK => ?_
            simp only [List.getElem_toArray, List.getElem_cons_succ, List.getElem_cons_zero]
            go_simp
            go_at_call 81
            refine (HTt.out _ hbX.drew).mono ?_
            rintro e w2 ⟨rfl, hpcb, S2, hw2, hn2, hs2⟩
            have hzx : wr.heap.size < wx.heap.size := hX.lt
            have hX2 := hX.drew.same (hn2.block _ hX.lt (fun h => absurd (HSb1.out _ h) (Nat.lt_irrefl _)))
            have hS2 : (fun W' : World => ∀ i, W'.cell? ⟨wr.heap.size, i, none⟩ = (#[.string pn, .slice Ap pl cp] : Array Value)[i]?) w2 := hX2.cell
            refine hK.out _ _ hS2 ?_
            clear hK K
            (try simp only [List.getElem_toArray, List.getElem_cons_succ, List.getElem_cons_zero, Act.put, List.setIfInBounds_toArray, List.set_cons_zero, List.set_cons_succ])
            refine wpAnyH_call (i := 11) (by kernel_rfl) rfl (by kernel_rfl) fun K hK => ?_
            simp only [List.getElem_toArray, List.getElem_cons_succ, List.getElem_cons_zero]
            go_simp
            have hX3 := hX2.alloc (.cells #[.int .u32 3, .int .u32 pl, .int .u32 pc] 44)
            have hS3 : (fun W' : World => ∀ i, W'.cell? ⟨wr.heap.size, i, none⟩ = (#[.string pn, .slice Ap pl cp] : Array Value)[i]?) (w2.alloc (.cells #[.int .u32 3, .int .u32 pl, .int .u32 pc] 44)) := hX3.cell
            refine hK.out _ _ hS3 ?_
            clear hK K
            (try simp only [List.getElem_toArray, List.getElem_cons_succ, List.getElem_cons_zero, Act.put, List.setIfInBounds_toArray, List.set_cons_zero, List.set_cons_succ])
            refine wpAnyH_call (i := 12) (by kernel_rfl) rfl (by kernel_rfl) fun K hK => ?_
            simp only [List.getElem_toArray, List.getElem_cons_succ, List.getElem_cons_zero]
            go_simp
            have HR3 := Lib.hid (Rd.fresh w2 #[.int .u32 3, .int .u32 pl, .int .u32 pc] 44 3 1 w2.heap.size rfl rfl)
            have hz2 : wx.heap.size ≤ w2.heap.size := hn2.size
            have hzx1 : wr.heap.size + 1 ≤ wx.heap.size := by omega
            have hpl4 : pl ≤ 4096 := hok.2
            have hb2 := (textS_b st1 pn)
            go_at_call 36
            refine (wfour_any g mb (textS st1 pn).1 S2 (some ⟨w2.heap.size, 0, none⟩) 3 3 [3, (pl : Int), (pc : Int)] _ (hw2.kept (bal (Below.refl w2.heap.size w2) (.cells #[.int .u32 3, .int .u32 pl, .int .u32 pc] 44))) rfl (by rw [hb2]; have := HB1.out.1; omega) (by decide) (by
              intro x hx
              simp only [List.mem_cons, List.not_mem_nil, or_false] at hx
              rcases hx with rfl | rfl | rfl <;> omega) HR3.out).mono ?_
            rintro e w4 ⟨rfl, hw4, hn4⟩
            have hs2b : ¬ S2 wr.heap.size := fun h => by
              rcases hs2 _ h with h | h
              · exact absurd (HSb1.out _ h) (Nat.lt_irrefl _)
              · have h : wx.heap.size ≤ wr.heap.size := h
                omega
            have hX4 := hX3.same (hn4.block _ hX3.lt hs2b)
            have hS4 : (fun W' : World => ∀ i, W'.cell? ⟨wr.heap.size, i, none⟩ = (#[.string pn, .slice Ap pl cp] : Array Value)[i]?) w4 := hX4.cell
            refine hK.out _ _ hS4 ?_
            clear hK K
            (try simp only [List.getElem_toArray, List.getElem_cons_succ, List.getElem_cons_zero, Act.put, List.setIfInBounds_toArray, List.set_cons_zero, List.set_cons_succ])
            refine wpAnyH_done (by kernel_rfl) ?_ _
            have hz4 := hn4.size
            rw [World.size_alloc] at hw4 hz4
            have hn5 : Near S wt w4 := by
              refine Near.step (((HN1.out.trans (Near.of_below S hbX.drew)).step hn2 fun i hi => HS1.out i hi).alloc (.cells #[.int .u32 3, .int .u32 pl, .int .u32 pc] 44)) hn4 fun i hi => ?_
              rcases hs2 i hi with h | h
              · exact HS1.out i h
              · have h : wx.heap.size ≤ i := h
                exact .inr (by omega)
            have hbw : (textS st1 pn).1.b.length ≤ 5000000 := by rw [hb2]; have := HB1.out.1; omega
            have HF5 := Lib.hid (fun W (hW : Below w4.heap.size w4 W) => wfill_any g mb (w2.heap.size + 1) ⟨(textS st1 pn).1.b ++ be4 [3, (pl : Int), (pc : Int)], (textS st1 pn).1.x, (textS st1 pn).1.n⟩ S2 Ap pl cp pb W (hw4.kept hW) HPl.out (by
              rw [List.length_append, be4_len]
              simp only [List.length_cons, List.length_nil]
              omega) ((HPr.out.below ((HBl.out _ hn5).trans (hW.mono (by omega)))).more (by have := hW.size; omega)))
            clear hS1 hS2 hS3 hS4 hX hX2 hX3 hw2 hn2 hw4 hn4 HTt HR3
            go_upto_region 7 with (fail)
            have hS5 : (fun W' : World => ∀ i, W'.cell? ⟨wr.heap.size, i, none⟩ = (#[.string pn, .slice Ap pl cp] : Array Value)[i]?) w4.drew := hX4.drew.cell
            refine wp_region_held_drew (S := fun W' : World => ∀ i, W'.cell? ⟨wr.heap.size, i, none⟩ = (#[.string pn, .slice Ap pl cp] : Array Value)[i]?) (by kernel_rfl) hS5 (fun hHeld => ?_)
            clear hHeld
            refine wpAnyH_take (i := 0) (v := ?vxc0) rfl (by kernel_rfl) (by kernel_rfl) (by kernel_rfl) (fun _ _ _ h => h) (Or.inl ⟨by kernel_rfl, ?hyxc0⟩) hS5 ?restxc0
            case hyxc0 =>
              intro w hSw
              clear hSw
              go_simp
              first | done | with_reducible rfl
            (try simp only [List.getElem_toArray, List.getElem_cons_succ, List.getElem_cons_zero, Act.put, List.setIfInBounds_toArray, List.set_cons_zero, List.set_cons_succ])
            refine wpAnyH_take (i := 1) (v := ?vxc1) rfl (by kernel_rfl) (by kernel_rfl) (by kernel_rfl) (fun _ _ _ h => h) (Or.inl ⟨by kernel_rfl, ?hyxc1⟩) hS5 ?restxc1
            case hyxc1 =>
              intro w hSw
              clear hSw
              go_simp
              first | done | with_reducible rfl
            (try simp only [List.getElem_toArray, List.getElem_cons_succ, List.getElem_cons_zero, Act.put, List.setIfInBounds_toArray, List.set_cons_zero, List.set_cons_succ])
            refine wpAnyH_take (i := 2) (v := ?vxc2) rfl (by kernel_rfl) (by kernel_rfl) (by kernel_rfl) (fun _ _ _ h => h) (Or.inl ⟨by kernel_rfl, ?hyxc2⟩) hS5 ?restxc2
            case hyxc2 =>
              intro w hSw
              clear hSw
              go_simp
              first | done | with_reducible rfl
            (try simp only [List.getElem_toArray, List.getElem_cons_succ, List.getElem_cons_zero, Act.put, List.setIfInBounds_toArray, List.set_cons_zero, List.set_cons_succ])
            refine wpAnyH_take (i := 3) (v := ?vxc3) rfl (by kernel_rfl) (by kernel_rfl) (by kernel_rfl) (fun _ _ _ h => h) (Or.inl ⟨by kernel_rfl, ?hyxc3⟩) hS5 ?restxc3
            case hyxc3 =>
              intro w hSw
              clear hSw
              go_simp
              first | done | with_reducible rfl
            (try simp only [List.getElem_toArray, List.getElem_cons_succ, List.getElem_cons_zero, Act.put, List.setIfInBounds_toArray, List.set_cons_zero, List.set_cons_succ])
            refine wpAnyH_take (i := 4) (v := ?vxc4) rfl (by kernel_rfl) (by kernel_rfl) (by kernel_rfl) (fun _ _ _ h => h) (Or.inl ⟨by kernel_rfl, ?hyxc4⟩) hS5 ?restxc4
            case hyxc4 =>
              intro w hSw
              (try dsimp only at hSw)
              go_simp
              first | done | with_reducible rfl
            (try simp only [List.getElem_toArray, List.getElem_cons_succ, List.getElem_cons_zero, Act.put, List.setIfInBounds_toArray, List.set_cons_zero, List.set_cons_succ])
            refine wpAnyH_call (i := 5) (by kernel_rfl) rfl (by kernel_rfl) fun K hK => ?_
            simp only [List.getElem_toArray, List.getElem_cons_succ, List.getElem_cons_zero]
            go_simp
            go_at_call 80
            refine (HF5.out _ (Below.refl _ _).drew).mono ?_
            rintro e w5 ⟨rfl, hw5, hn6⟩
            have hX5 := hX4.drew.same (hn6.block _ hX4.lt (fun h => by
              rcases h with h | h <;> omega))
            have hS6 : (fun W' : World => ∀ i, W'.cell? ⟨wr.heap.size, i, none⟩ = (#[.string pn, .slice Ap pl cp] : Array Value)[i]?) w5 := hX5.cell
            refine hK.out _ _ hS6 ?_
            clear hK K
            (try simp only [List.getElem_toArray, List.getElem_cons_succ, List.getElem_cons_zero, Act.put, List.setIfInBounds_toArray, List.set_cons_zero, List.set_cons_succ])
            refine wpAnyH_done (by kernel_rfl) ?_ _
            have hn7 : Near S wt w5 := hn5.drew.step hn6 (fun i hi => by
              rcases hi with h | h
              · exact .inl (by rw [h]; exact HSg.out)
              · exact .inr (by omega))
            have hst : WSt w5 (fun i => (S2 i ∨ w2.heap.size + 1 ≤ i) ∧ i < w5.heap.size) g mb (propS st1 (pn, pb)) := by
              have := hw5.st
              unfold propS
              simp only [HPc.out, HPl.out]
              rw [← textS_b st1 pn]
              exact this
            have HOut := Lib.hid (show WOut S g mb ((t.ps.take (j + 1)).foldl propS (headS nm st)) wt w5 from by
              rw [HFt.out]
              refine ⟨_, hst, hn7, fun i hi => ?_⟩
              rcases hi.1 with h | h
              · rcases hs2 i h with h | h
                · exact HS1.out i h
                · have h : wx.heap.size ≤ i := h
                  exact .inr (by omega)
              · exact .inr (by omega))
            clear hS5 hS6 hX4 hX5 hw5 hn6 hn7 hst hn5 HF5
            go_wp2_with fail
            go_roundw
            case rel => exact ⟨j + 1, by omega, by go_num, HOut.out⟩
            case measure => simp [intOf]; omega
          · obtain rfl : j = np := by omega
            have etk : t.ps.take j = t.ps := by rw [← HNp.out, List.take_length]
            rw [etk] at hw1
            obtain ⟨stp, hstp⟩ : ∃ stp, t.ps.foldl propS (headS nm st) = stp := ⟨_, rfl⟩
            rw [hstp] at hw1
            have HBp : Hid (BdO stp (n + 1) (p + j) (o + 1)) := Lib.hid (by
              have := propsS_bdo t.ps (headS_bdo HB0.out hnm1) (fun q hq => List.all_eq_true.1 HInv.out.1.2.2.2.1 q hq)
              rw [HNp.out, hstp] at this
              exact this)
            have HSp := Lib.hid hstp
            have cT := (HTk.out _ hn1).cell
            have HWp := Lib.hid (show WOut S g mb stp wt wr from ⟨S1, hw1, hn1, hs1⟩)
            clear hw1 hn1 hs1 hstp etk hBr
            go_wp2_with fail
            go_loopw [52] (fun i wr => ∃ j2 : Nat, j2 ≤ nk ∧ i = .int .i64 j2 ∧ WOut S g mb ((t.ks.take j2).foldl (fun s k => nodeS f k s) stp) wt wr) (fun i _ => nk - (intOf i).toNat)
            case atStart => exact ⟨0, by omega, rfl, HWp.out⟩
            case round =>
              clear cT
              obtain ⟨j2, hj2, rfl, S2, hw2, hn2, hs2⟩ := hrel
              have hBr := HBl.out _ hn2
              by_cases hlk : j2 < nk
              · obtain ⟨kd, hkd⟩ : ∃ q, t.ks[j2]? = some q := ⟨_, List.getElem?_eq_getElem (by rw [HNk.out]; exact hlk)⟩
                have hK := HK.out j2 kd hkd
                obtain ⟨b2, o2, rfl, hbk, hc2⟩ := HG.out (by omega)
                have x0 := (hBr.cell (p := ⟨b2, o2 + (j2 * 3 + 0), none⟩) hbk).trans (hc2 j2 hlk 0 (by omega))
                have x1 := (hBr.cell (p := ⟨b2, o2 + (j2 * 3 + 1), none⟩) hbk).trans (hc2 j2 hlk 1 (by omega))
                have x2 := (hBr.cell (p := ⟨b2, o2 + (j2 * 3 + 2), none⟩) hbk).trans (hc2 j2 hlk 2 (by omega))
                have hK2 := hK.below hBr
                obtain ⟨sn, K1, n1, cc1, K2, n2, cc2, hv⟩ : ∃ (sn : ByteArray) (K1 : Option Addr) (n1 cc1 : Nat) (K2 : Option Addr) (n2 cc2 : Nat), rowG j2 = [.string sn, .slice K1 n1 cc1, .slice K2 n2 cc2] := by
                  cases k with
                  | zero => exact hK.elim
                  | succ k =>
                    obtain ⟨_, _, _, _, _, _, _, e, _⟩ := hK
                    exact ⟨_, _, _, _, _, _, _, e⟩
                rw [hv] at x0 x1 x2 hK2
                simp only [Nat.add_zero, ← Nat.add_assoc, List.getElem?_cons_zero, List.getElem?_cons_succ] at x0 x1 x2
                have HFt := Lib.hid (foldl_take (fun s k => nodeS f k s) t.ks stp j2 kd hkd)
                obtain ⟨⟨nq, pq⟩, hkf⟩ : ∃ c, kidsF (mayF f) (t.ks.take j2) (n + 1, p + t.ps.length) = some c := by
                  rcases h : kidsF (mayF f) (t.ks.take j2) (n + 1, p + t.ps.length) with _ | c
                  · have := HInv.out.2.1
                    rw [kidsF_none _ _ j2 _ h] at this
                    cases this
                  · exact ⟨c, rfl⟩
                obtain ⟨⟨nq2, pq2⟩, hkm⟩ : ∃ c, mayF f kd (nq, pq) = some c := by
                  rcases h : mayF f kd (nq, pq) with _ | c
                  · have h1 := kidsF_take (mayF f) t.ks j2 kd (n + 1, p + t.ps.length) hkd
                    rw [hkf, Option.bind_some, h] at h1
                    have := HInv.out.2.1
                    rw [kidsF_none _ _ (j2 + 1) _ h1] at this
                    cases this
                  · exact ⟨c, rfl⟩
                have hge := kidsF_le (fun t c c' => mayF_le f t c c') _ _ _ hkf (by simp only; omega) (by simp only; omega) (by simp only; omega) (by simp only; rw [HNp.out]; omega)
                simp only at hge
                have hbk2 := kidsS_bdo (o := o + 1) (fun t c c' st => nodeS_bdo f (o + 1) t c c' st) (t.ks.take j2) (n + 1, p + t.ps.length) (nq, pq) stp hkf (by rw [HNp.out]; exact HBp.out)
                obtain ⟨st2, hst2⟩ : ∃ st2, (t.ks.take j2).foldl (fun s k => nodeS f k s) stp = st2 := ⟨_, rfl⟩
                rw [hst2] at hw2 HFt hbk2
                have hbX := bal (Below.refl wr.heap.size wr) (.cells #[.string sn, .slice K1 n1 cc1, .slice K2 n2 cc2] 25)
                have hzr := hn2.size
                have S2B : ∀ i, S2 i → B ≤ i := fun i hi => by
                  rcases hs2 i hi with h | h
                  · exact hSB i h
                  · omega
                have HC := Lib.hid (IH.out kd _ nq pq nq2 pq2 (o + 1) g mb B S2 st2 _ (hK2.below (hbX.mono (by omega))) hkm (by omega) (by omega) hbk2 (hw2.kept hbX) S2B (by simp; omega))
                have HN2 := Lib.hid (hn2.alloc (.cells #[.string sn, .slice K1 n1 cc1, .slice K2 n2 cc2] 25))
                have HS2 := Lib.hid hs2
                clear hc2 hK hkd hv hK2 hkf hkm hbk2 hst2 hw2 hn2 hs2 hbX S2B
                go_wp2_with (go_at_call 35; refine HC.out.mono ?_; rintro e w6 ⟨rfl, hw6⟩)
                go_roundw
                case rel =>
                  refine ⟨j2 + 1, by omega, by go_num, ?_⟩
                  rw [HFt.out]
                  obtain ⟨S3, hw7, hn7, hs7⟩ := hw6
                  refine ⟨S3, hw7, HN2.out.step hn7 (fun i hi => HS2.out i hi), fun i hi => ?_⟩
                  rcases hs7 i hi with h | h
                  · exact HS2.out i h
                  · refine .inr ?_
                    simp at h
                    omega
                case measure => simp [intOf]; omega
              · obtain rfl : j2 = nk := by omega
                have etk : t.ks.take j2 = t.ks := by rw [← HNk.out, List.take_length]
                rw [etk] at hw2
                have hkf := HInv.out.2.1
                rw [HNp.out] at hkf
                have hbk2 := kidsS_bdo (o := o + 1) (fun t c c' st => nodeS_bdo f (o + 1) t c c' st) t.ks _ _ stp hkf HBp.out
                obtain ⟨st2, hst2⟩ : ∃ st2, t.ks.foldl (fun s k => nodeS f k s) stp = st2 := ⟨_, rfl⟩
                rw [hst2] at hw2 hbk2
                have HEnd := Lib.hid (show nodeS (f + 1) t st = ⟨st2.b ++ be4 [2], st2.x, st2.n⟩ by rw [nodeS_succ, HNm.out, HSp.out, hst2])
                have hb8 := hbk2.1
                simp only at hb8
                have HF8 := Lib.hid (wfour_any g mb st2 S2 (some ⟨wr.heap.size, 0, none⟩) 1 1 [2] (wr.alloc (.cells #[.int .u32 2] 44)) (hw2.kept (bal (Below.refl wr.heap.size wr) (.cells #[.int .u32 2] 44))) rfl (by omega) (by decide) (by decide) (Rd.fresh wr #[.int .u32 2] 44 1 1 wr.heap.size rfl rfl))
                have HN2 := Lib.hid (hn2.alloc (.cells #[.int .u32 2] 44))
                have hzr := hn2.size
                have HS2 := Lib.hid hs2
                clear hw2 hn2 hs2 hbk2 hst2 hb8 hkf etk hBr
                go_wp2_with (go_at_call 36; refine HF8.out.mono ?_; rintro e w6 ⟨rfl, hw6, hn6⟩)
                go_end0
                rw [HEnd.out]
                refine ⟨rfl, _, hw6.st, ?_, ?_⟩
                · have h1 : Near S wt w6 := HN2.out.step hn6 (fun i hi => HS2.out i hi)
                  have h2 : Near S w wt := Near.of_below S (by have := HBt.out; rw [HBz.out]; exact this)
                  exact h2.trans h1
                · intro i hi
                  rcases hi.1 with h | h
                  · rcases HS2.out i h with h | h
                    · exact .inl h
                    · exact .inr (by rw [HBz.out]; omega)
                  · refine .inr ?_
                    rw [HBz.out]
                    simp at h
                    omega
      · refine wpOp_do rfl (by kernel_rfl) fun K hK => ?_
        simp only [List.getElem_toArray, List.getElem_cons_succ, List.getElem_cons_zero]
        go_simp
        have hb4 := (bal (Below.refl w2.heap.size w2) (.cells #[.int .u8 0] 5)).drew
        have hsrc4 := (Blk.new w2 5 #[.int .u8 0]).drew
        have hsz4 : (w2.alloc (.cells #[.int .u8 0] 5)).drew.heap.size = w2.heap.size + 1 := by simp
        have hS4 : (fun W' : World => ∀ i, W'.cell? ⟨b0, i, none⟩ = (#[.string nm, .slice A1 np c1, .slice A2 nk c2] : Array Value)[i]?) (w2.alloc (.cells #[.int .u8 0] 5)).drew := (hT2.kept hb4).cell
        refine hK.out _ _ hS4 ?_
        clear hK K
        (try simp only [List.getElem_toArray, List.getElem_cons_succ, List.getElem_cons_zero, Act.put, List.setIfInBounds_toArray, List.set_cons_zero, List.set_cons_succ])
        generalize (w2.alloc (.cells #[.int .u8 0] 5)).drew = w4 at *
        refine wpAnyH_call (i := 5) (by kernel_rfl) rfl (by kernel_rfl) fun K hK => ?_
        simp only [List.getElem_toArray, List.getElem_cons_succ, List.getElem_cons_zero]
        go_simp
        obtain ⟨_, hrow5, hb5⟩ := conv_row w4 nm (by unfold maxLen; omega)
        have hb6 : Below w2.heap.size w2 (Lib.bytesWorld w4 5 nm) := hb4.trans (hb5.mono hb4.size)
        have hsrc6 : (Lib.bytesWorld w4 5 nm).cell? ⟨w2.heap.size, 0, none⟩ = some (.int .u8 0) := (hsrc4.kept hb5).cell 0
        have hrow6 := hrow5.low (show w2.heap.size ≤ w4.heap.size by omega)
        rw [hsz4] at hrow6
        have hS6 : (fun W' : World => ∀ i, W'.cell? ⟨b0, i, none⟩ = (#[.string nm, .slice A1 np c1, .slice A2 nk c2] : Array Value)[i]?) (Lib.bytesWorld w4 5 nm) := (hT2.kept hb6).cell
        refine hK.out _ _ hS6 ?_
        clear hK K
        (try simp only [List.getElem_toArray, List.getElem_cons_succ, List.getElem_cons_zero, Act.put, List.setIfInBounds_toArray, List.set_cons_zero, List.set_cons_succ])
        generalize grownCap w4 nm.size 0 5 = gc at *
        generalize Lib.bytesWorld w4 5 nm = w6 at *
        refine wpAnyH_call (i := 7) (by kernel_rfl) rfl (by kernel_rfl) fun K hK => ?_
        obtain ⟨A7, c7, w7, hr7, hc7a, hc7b, hrd7, hb7, _⟩ := run_app0 w6 28 w2.heap.size (w2.heap.size + 1) gc nm.size 1 ⟨w2.heap.size, 0, none⟩ (strB nm) 0 hrow6 hsrc6 hnm2 hb6.size
        refine Lib.wp_append_run _ (.tmp 18) (.tmp 19) _ _ rfl (.slice (some ⟨(w2.heap.size + 1), 0, none⟩) nm.size gc) (.slice (some ⟨w2.heap.size, 0, none⟩) 1 1) rfl rfl _ _ hr7 ?_
        have hb8 := hb6.trans hb7
        have hT7 := hT2.kept hb8
        have hS7 : (fun W' : World => ∀ i, W'.cell? ⟨b0, i, none⟩ = (#[.string nm, .slice A1 np c1, .slice A2 nk c2] : Array Value)[i]?) w7 := hT7.cell
        refine hK.out _ _ hS7 ?_
        clear hK K
        (try simp only [List.getElem_toArray, List.getElem_cons_succ, List.getElem_cons_zero, Act.put, List.setIfInBounds_toArray, List.set_cons_zero, List.set_cons_succ])
        refine wpAnyH_call (i := 8) (by kernel_rfl) rfl (by kernel_rfl) fun K hK => ?_
        simp only [List.getElem_toArray, List.getElem_cons_succ, List.getElem_cons_zero]
        go_simp
        go_at_call 80
        refine (wfill_any g mb (b0 + 2) ⟨st.b ++ be4 [1], st.x, st.n⟩ S A7 (nm.size + 1) c7 (strB nm ++ [0]) _ (HW2.out.kept hb8) (by simp [strB_len]) HBd.out (by simpa [strB_len] using hrd7)).mono ?_
        rintro e w9 ⟨rfl, hw9, hn9⟩
        have hT9 := hT7.same (hn9.block _ hT7.lt (by omega))
        have hS9 : (fun W' : World => ∀ i, W'.cell? ⟨b0, i, none⟩ = (#[.string nm, .slice A1 np c1, .slice A2 nk c2] : Array Value)[i]?) w9 := hT9.cell
        refine hK.out _ _ hS9 ?_
        clear hK K
        (try simp only [List.getElem_toArray, List.getElem_cons_succ, List.getElem_cons_zero, Act.put, List.setIfInBounds_toArray, List.set_cons_zero, List.set_cons_succ])
        refine wpAnyH_done (by kernel_rfl) ?_ _
        have hnT : Near S wt w9 := (hn2.trans (Near.of_below S hb8)).step hn9 (fun i hi => by
          rcases hi with h | h
          · exact .inl (by rw [h]; exact HSg.out)
          · exact .inr (by omega))
        have HW9 := Lib.hid (show WOut S g mb (headS nm st) wt w9 from ⟨_, hw9.st, hnT, fun i hi => by
          rcases hi.1 with h | h
          · exact .inl h
          · exact .inr (by omega)⟩)
        have HN9 := Lib.hid hnT
        clear hw9 hn9 hS1 hS7 hS9 hT7 hT9 hb7 hb8 hr7 hrd7 hnT
        have cT := (HTk.out w9 HN9.out).cell
        clear hT2 hn2 HW2
        go_wp2_with fail
        go_loopw [25] (fun i wr => ∃ j : Nat, j ≤ np ∧ i = .int .i64 j ∧ WOut S g mb ((t.ps.take j).foldl propS (headS nm st)) wt wr) (fun i _ => np - (intOf i).toNat)
        case atStart => exact ⟨0, by omega, rfl, HW9.out⟩
        case round =>
          clear HW9 HN9 cT
          obtain ⟨j, hj, rfl, S1, hw1, hn1, hs1⟩ := hrel
          have hBr := HBl.out _ hn1
          by_cases hlj : j < np
          · obtain ⟨pr, hpr⟩ : ∃ q, t.ps[j]? = some q := ⟨_, List.getElem?_eq_getElem (by rw [HNp.out]; exact hlj)⟩
            obtain ⟨hps, hpb, Ap, cp, hfj, hcp1, hcp2, hprd⟩ := HP.out j pr hpr
            obtain ⟨b1, o1, rfl, hbk, hc1⟩ := HF.out (by omega)
            have x0 := (hBr.cell (p := ⟨b1, o1 + (j * 2 + 0), none⟩) hbk).trans (hc1 j hlj 0 (by omega))
            have x1 := (hBr.cell (p := ⟨b1, o1 + (j * 2 + 1), none⟩) hbk).trans (hc1 j hlj 1 (by omega))
            rw [hfj] at x0 x1
            simp only [Nat.add_zero, ← Nat.add_assoc, List.getElem?_cons_zero, List.getElem?_cons_succ] at x0 x1
            have hok := prOk_bd (List.all_eq_true.1 HInv.out.1.2.2.2.1 _ (List.mem_of_getElem? hpr))
            have HFt := Lib.hid (foldl_take propS t.ps (headS nm st) j pr hpr)
            have HB1 := Lib.hid (show BdO ((t.ps.take j).foldl propS (headS nm st)) (n + 1) (p + j) (o + 1) by
              have := propsS_bdo (t.ps.take j) (headS_bdo HB0.out hnm1) (fun q hq => List.all_eq_true.1 HInv.out.1.2.2.2.1 q (List.mem_of_mem_take hq))
              rw [List.length_take, HNp.out, Nat.min_eq_left hj] at this
              exact this)
            clear hc1 hfj hpr
            obtain ⟨pn, pb⟩ := pr
            simp only at x0 hps hok
            obtain ⟨pl, hpl⟩ : ∃ pl, pb.length = pl := ⟨_, rfl⟩
            simp only at x1 hcp1 hcp2 hpb hprd
            rw [hpl] at x1 hcp1 hok hprd
            have HPl := Lib.hid hpl
            have HPr := Lib.hid hprd
            obtain ⟨st1, hst1⟩ : ∃ st1, (t.ps.take j).foldl propS (headS nm st) = st1 := ⟨_, rfl⟩
            rw [hst1] at hw1 HFt HB1
            have hbd1 := HB1.out
            have S1b : ∀ i, S1 i → i < wr.heap.size := by obtain ⟨_, _, _, _, _, _, _, _, _, _, _, h⟩ := hw1; exact h
            have S1g : S1 g := by obtain ⟨_, _, _, _, _, _, _, _, _, h, _⟩ := hw1; exact h
            have HTt := Lib.hid (fun W hW => text_any g mb st1 pn S1 W (hw1.kept hW) (by omega) (by have := hbd1.2.1; omega) (by have := hbd1.2.2; omega))
            have HSb1 := Lib.hid S1b
            have HS1 := Lib.hid hs1
            have HN1 := Lib.hid hn1
            have u1 : IntKind.u32.wrap (pl : Int) = pl := by show (pl : Int) % 4294967296 = _; omega
            obtain ⟨pc, hpc⟩ : ∃ pc, (textS st1 pn).2 = pc := ⟨_, rfl⟩
            have HPc := Lib.hid hpc
            rw [hpc] at HTt
            have hzr := hn1.size
            clear hpl hpb hprd hst1 hw1 S1b hs1 hn1 hbd1 hpc
            unfold maxLen at hcp2
            go_upto_region 6 with (fail)
            have hX := Blk.new wr 88 #[.string pn, .slice Ap pl cp]
            have hbX := bal (Below.refl wr.heap.size wr) (.cells #[.string pn, .slice Ap pl cp] 88)
            generalize wr.alloc (.cells #[.string pn, .slice Ap pl cp] 88) = wx at *
            have hS1 : (fun W' : World => ∀ i, W'.cell? ⟨wr.heap.size, i, none⟩ = (#[.string pn, .slice Ap pl cp] : Array Value)[i]?) wx.drew := hX.drew.cell
            refine wp_region_held_drew (S := fun W' : World => ∀ i, W'.cell? ⟨wr.heap.size, i, none⟩ = (#[.string pn, .slice Ap pl cp] : Array Value)[i]?) (by kernel_rfl) hS1 (fun hHeld => ?_)
            clear hHeld
            refine wpAnyH_take (i := 0) (v := ?vyb0) rfl (by kernel_rfl) (by kernel_rfl) (by kernel_rfl) (fun _ _ _ h => h) (Or.inl ⟨by kernel_rfl, ?hyyb0⟩) hS1 ?restyb0
            case hyyb0 =>
              intro w hSw
              clear hSw
              go_simp
              first | done | with_reducible rfl
            (try simp only [List.getElem_toArray, List.getElem_cons_succ, List.getElem_cons_zero, Act.put, List.setIfInBounds_toArray, List.set_cons_zero, List.set_cons_succ])
            refine wpAnyH_take (i := 1) (v := ?vyb1) rfl (by kernel_rfl) (by kernel_rfl) (by kernel_rfl) (fun _ _ _ h => h) (Or.inl ⟨by kernel_rfl, ?hyyb1⟩) hS1 ?restyb1
            case hyyb1 =>
              intro w hSw
              clear hSw
              go_simp
              first | done | with_reducible rfl
            (try simp only [List.getElem_toArray, List.getElem_cons_succ, List.getElem_cons_zero, Act.put, List.setIfInBounds_toArray, List.set_cons_zero, List.set_cons_succ])
            refine wpAnyH_take (i := 2) (v := ?vyb2) rfl (by kernel_rfl) (by kernel_rfl) (by kernel_rfl) (fun _ _ _ h => h) (Or.inl ⟨by kernel_rfl, ?hyyb2⟩) hS1 ?restyb2
            case hyyb2 =>
              intro w hSw
              clear hSw
              go_simp
              first | done | with_reducible rfl
            (try simp only [List.getElem_toArray, List.getElem_cons_succ, List.getElem_cons_zero, Act.put, List.setIfInBounds_toArray, List.set_cons_zero, List.set_cons_succ])
            refine wpAnyH_take (i := 3) (v := ?vyb3) rfl (by kernel_rfl) (by kernel_rfl) (by kernel_rfl) (fun _ _ _ h => h) (Or.inl ⟨by kernel_rfl, ?hyyb3⟩) hS1 ?restyb3
            case hyyb3 =>
              intro w hSw
              clear hSw
              go_simp
              first | done | with_reducible rfl
            (try simp only [List.getElem_toArray, List.getElem_cons_succ, List.getElem_cons_zero, Act.put, List.setIfInBounds_toArray, List.set_cons_zero, List.set_cons_succ])
            refine wpAnyH_take (i := 4) (v := ?vyb4) rfl (by kernel_rfl) (by kernel_rfl) (by kernel_rfl) (fun _ _ _ h => h) (Or.inl ⟨by kernel_rfl, ?hyyb4⟩) hS1 ?restyb4
            case hyyb4 =>
              intro w hSw
              (try dsimp only at hSw)
              go_simp
              first | done | with_reducible rfl
            (try simp only [List.getElem_toArray, List.getElem_cons_succ, List.getElem_cons_zero, Act.put, List.setIfInBounds_toArray, List.set_cons_zero, List.set_cons_succ])
            refine wpAnyH_take (i := 5) (v := ?vyb5) rfl (by kernel_rfl) (by kernel_rfl) (by kernel_rfl) (fun _ _ _ h => h) (Or.inl ⟨by kernel_rfl, ?hyyb5⟩) hS1 ?restyb5
            case hyyb5 =>
              intro w hSw
              clear hSw
              go_simp
              first | done | with_reducible rfl
            (try simp only [List.getElem_toArray, List.getElem_cons_succ, List.getElem_cons_zero, Act.put, List.setIfInBounds_toArray, List.set_cons_zero, List.set_cons_succ])
            refine wpAnyH_take (i := 6) (v := ?vyb6) rfl (by kernel_rfl) (by kernel_rfl) (by kernel_rfl) (fun _ _ _ h => h) (Or.inl ⟨by kernel_rfl, ?hyyb6⟩) hS1 ?restyb6
            case hyyb6 =>
              intro w hSw
              clear hSw
              go_simp
              first | done | with_reducible rfl
            (try simp only [List.getElem_toArray, List.getElem_cons_succ, List.getElem_cons_zero, Act.put, List.setIfInBounds_toArray, List.set_cons_zero, List.set_cons_succ])
            refine wpAnyH_take (i := 7) (v := ?vyb7) rfl (by kernel_rfl) (by kernel_rfl) (by kernel_rfl) (fun _ _ _ h => h) (Or.inl ⟨by kernel_rfl, ?hyyb7⟩) hS1 ?restyb7
            case hyyb7 =>
              intro w hSw
              clear hSw
              go_simp
              first | done | with_reducible rfl
            (try simp only [List.getElem_toArray, List.getElem_cons_succ, List.getElem_cons_zero, Act.put, List.setIfInBounds_toArray, List.set_cons_zero, List.set_cons_succ])
            refine wpAnyH_take (i := 8) (v := ?vyb8) rfl (by kernel_rfl) (by kernel_rfl) (by kernel_rfl) (fun _ _ _ h => h) (Or.inl ⟨by kernel_rfl, ?hyyb8⟩) hS1 ?restyb8
            case hyyb8 =>
              intro w hSw
              clear hSw
              go_simp
              first | done | with_reducible rfl
            (try simp only [List.getElem_toArray, List.getElem_cons_succ, List.getElem_cons_zero, Act.put, List.setIfInBounds_toArray, List.set_cons_zero, List.set_cons_succ])
            refine wpAnyH_take (i := 9) (v := ?vyb9) rfl (by kernel_rfl) (by kernel_rfl) (by kernel_rfl) (fun _ _ _ h => h) (Or.inl ⟨by kernel_rfl, ?hyyb9⟩) hS1 ?restyb9
            case hyyb9 =>
              intro w hSw
              (try dsimp only at hSw)
              go_simp
              first | done | with_reducible rfl
            (try simp only [List.getElem_toArray, List.getElem_cons_succ, List.getElem_cons_zero, Act.put, List.setIfInBounds_toArray, List.set_cons_zero, List.set_cons_succ])
            refine wpAnyH_call (i := 10) (by kernel_rfl) rfl (by kernel_rfl) fun K hK => ?_
            simp only [List.getElem_toArray, List.getElem_cons_succ, List.getElem_cons_zero]
            go_simp
            go_at_call 81
            refine (HTt.out _ hbX.drew).mono ?_
            rintro e w2 ⟨rfl, hpcb, S2, hw2, hn2, hs2⟩
            have hzx : wr.heap.size < wx.heap.size := hX.lt
            have hX2 := hX.drew.same (hn2.block _ hX.lt (fun h => absurd (HSb1.out _ h) (Nat.lt_irrefl _)))
            have hS2 : (fun W' : World => ∀ i, W'.cell? ⟨wr.heap.size, i, none⟩ = (#[.string pn, .slice Ap pl cp] : Array Value)[i]?) w2 := hX2.cell
            refine hK.out _ _ hS2 ?_
            clear hK K
            (try simp only [List.getElem_toArray, List.getElem_cons_succ, List.getElem_cons_zero, Act.put, List.setIfInBounds_toArray, List.set_cons_zero, List.set_cons_succ])
            refine wpAnyH_call (i := 11) (by kernel_rfl) rfl (by kernel_rfl) fun K hK => ?_
            simp only [List.getElem_toArray, List.getElem_cons_succ, List.getElem_cons_zero]
            go_simp
            have hX3 := hX2.alloc (.cells #[.int .u32 3, .int .u32 pl, .int .u32 pc] 44)
            have hS3 : (fun W' : World => ∀ i, W'.cell? ⟨wr.heap.size, i, none⟩ = (#[.string pn, .slice Ap pl cp] : Array Value)[i]?) (w2.alloc (.cells #[.int .u32 3, .int .u32 pl, .int .u32 pc] 44)) := hX3.cell
            refine hK.out _ _ hS3 ?_
            clear hK K
            (try simp only [List.getElem_toArray, List.getElem_cons_succ, List.getElem_cons_zero, Act.put, List.setIfInBounds_toArray, List.set_cons_zero, List.set_cons_succ])
            refine wpAnyH_call (i := 12) (by kernel_rfl) rfl (by kernel_rfl) fun K hK => ?_
            simp only [List.getElem_toArray, List.getElem_cons_succ, List.getElem_cons_zero]
            go_simp
            have HR3 := Lib.hid (Rd.fresh w2 #[.int .u32 3, .int .u32 pl, .int .u32 pc] 44 3 1 w2.heap.size rfl rfl)
            have hz2 : wx.heap.size ≤ w2.heap.size := hn2.size
            have hzx1 : wr.heap.size + 1 ≤ wx.heap.size := by omega
            have hpl4 : pl ≤ 4096 := hok.2
            have hb2 := (textS_b st1 pn)
            go_at_call 36
            refine (wfour_any g mb (textS st1 pn).1 S2 (some ⟨w2.heap.size, 0, none⟩) 3 3 [3, (pl : Int), (pc : Int)] _ (hw2.kept (bal (Below.refl w2.heap.size w2) (.cells #[.int .u32 3, .int .u32 pl, .int .u32 pc] 44))) rfl (by rw [hb2]; have := HB1.out.1; omega) (by decide) (by
              intro x hx
              simp only [List.mem_cons, List.not_mem_nil, or_false] at hx
              rcases hx with rfl | rfl | rfl <;> omega) HR3.out).mono ?_
            rintro e w4 ⟨rfl, hw4, hn4⟩
            have hs2b : ¬ S2 wr.heap.size := fun h => by
              rcases hs2 _ h with h | h
              · exact absurd (HSb1.out _ h) (Nat.lt_irrefl _)
              · have h : wx.heap.size ≤ wr.heap.size := h
                omega
            have hX4 := hX3.same (hn4.block _ hX3.lt hs2b)
            have hS4 : (fun W' : World => ∀ i, W'.cell? ⟨wr.heap.size, i, none⟩ = (#[.string pn, .slice Ap pl cp] : Array Value)[i]?) w4 := hX4.cell
            refine hK.out _ _ hS4 ?_
            clear hK K
            (try simp only [List.getElem_toArray, List.getElem_cons_succ, List.getElem_cons_zero, Act.put, List.setIfInBounds_toArray, List.set_cons_zero, List.set_cons_succ])
            refine wpAnyH_done (by kernel_rfl) ?_ _
            have hz4 := hn4.size
            rw [World.size_alloc] at hw4 hz4
            have hn5 : Near S wt w4 := by
              refine Near.step (((HN1.out.trans (Near.of_below S hbX.drew)).step hn2 fun i hi => HS1.out i hi).alloc (.cells #[.int .u32 3, .int .u32 pl, .int .u32 pc] 44)) hn4 fun i hi => ?_
              rcases hs2 i hi with h | h
              · exact HS1.out i h
              · have h : wx.heap.size ≤ i := h
                exact .inr (by omega)
            have hbw : (textS st1 pn).1.b.length ≤ 5000000 := by rw [hb2]; have := HB1.out.1; omega
            have HF5 := Lib.hid (fun W (hW : Below w4.heap.size w4 W) => wfill_any g mb (w2.heap.size + 1) ⟨(textS st1 pn).1.b ++ be4 [3, (pl : Int), (pc : Int)], (textS st1 pn).1.x, (textS st1 pn).1.n⟩ S2 Ap pl cp pb W (hw4.kept hW) HPl.out (by
              rw [List.length_append, be4_len]
              simp only [List.length_cons, List.length_nil]
              omega) ((HPr.out.below ((HBl.out _ hn5).trans (hW.mono (by omega)))).more (by have := hW.size; omega)))
            clear hS1 hS2 hS3 hS4 hX hX2 hX3 hw2 hn2 hw4 hn4 HTt HR3
            go_upto_region 7 with (fail)
            have hS5 : (fun W' : World => ∀ i, W'.cell? ⟨wr.heap.size, i, none⟩ = (#[.string pn, .slice Ap pl cp] : Array Value)[i]?) w4.drew := hX4.drew.cell
            refine wp_region_held_drew (S := fun W' : World => ∀ i, W'.cell? ⟨wr.heap.size, i, none⟩ = (#[.string pn, .slice Ap pl cp] : Array Value)[i]?) (by kernel_rfl) hS5 (fun hHeld => ?_)
            clear hHeld
            refine wpAnyH_take (i := 0) (v := ?vyc0) rfl (by kernel_rfl) (by kernel_rfl) (by kernel_rfl) (fun _ _ _ h => h) (Or.inl ⟨by kernel_rfl, ?hyyc0⟩) hS5 ?restyc0
            case hyyc0 =>
              intro w hSw
              clear hSw
              go_simp
              first | done | with_reducible rfl
            (try simp only [List.getElem_toArray, List.getElem_cons_succ, List.getElem_cons_zero, Act.put, List.setIfInBounds_toArray, List.set_cons_zero, List.set_cons_succ])
            refine wpAnyH_take (i := 1) (v := ?vyc1) rfl (by kernel_rfl) (by kernel_rfl) (by kernel_rfl) (fun _ _ _ h => h) (Or.inl ⟨by kernel_rfl, ?hyyc1⟩) hS5 ?restyc1
            case hyyc1 =>
              intro w hSw
              clear hSw
              go_simp
              first | done | with_reducible rfl
            (try simp only [List.getElem_toArray, List.getElem_cons_succ, List.getElem_cons_zero, Act.put, List.setIfInBounds_toArray, List.set_cons_zero, List.set_cons_succ])
            refine wpAnyH_take (i := 2) (v := ?vyc2) rfl (by kernel_rfl) (by kernel_rfl) (by kernel_rfl) (fun _ _ _ h => h) (Or.inl ⟨by kernel_rfl, ?hyyc2⟩) hS5 ?restyc2
            case hyyc2 =>
              intro w hSw
              clear hSw
              go_simp
              first | done | with_reducible rfl
            (try simp only [List.getElem_toArray, List.getElem_cons_succ, List.getElem_cons_zero, Act.put, List.setIfInBounds_toArray, List.set_cons_zero, List.set_cons_succ])
            refine wpAnyH_take (i := 3) (v := ?vyc3) rfl (by kernel_rfl) (by kernel_rfl) (by kernel_rfl) (fun _ _ _ h => h) (Or.inl ⟨by kernel_rfl, ?hyyc3⟩) hS5 ?restyc3
            case hyyc3 =>
              intro w hSw
              clear hSw
              go_simp
              first | done | with_reducible rfl
            (try simp only [List.getElem_toArray, List.getElem_cons_succ, List.getElem_cons_zero, Act.put, List.setIfInBounds_toArray, List.set_cons_zero, List.set_cons_succ])
            refine wpAnyH_take (i := 4) (v := ?vyc4) rfl (by kernel_rfl) (by kernel_rfl) (by kernel_rfl) (fun _ _ _ h => h) (Or.inl ⟨by kernel_rfl, ?hyyc4⟩) hS5 ?restyc4
            case hyyc4 =>
              intro w hSw
              (try dsimp only at hSw)
              go_simp
              first | done | with_reducible rfl
            (try simp only [List.getElem_toArray, List.getElem_cons_succ, List.getElem_cons_zero, Act.put, List.setIfInBounds_toArray, List.set_cons_zero, List.set_cons_succ])
            refine wpAnyH_call (i := 5) (by kernel_rfl) rfl (by kernel_rfl) fun K hK => ?_
            simp only [List.getElem_toArray, List.getElem_cons_succ, List.getElem_cons_zero]
            go_simp
            go_at_call 80
            refine (HF5.out _ (Below.refl _ _).drew).mono ?_
            rintro e w5 ⟨rfl, hw5, hn6⟩
            have hX5 := hX4.drew.same (hn6.block _ hX4.lt (fun h => by
              rcases h with h | h <;> omega))
            have hS6 : (fun W' : World => ∀ i, W'.cell? ⟨wr.heap.size, i, none⟩ = (#[.string pn, .slice Ap pl cp] : Array Value)[i]?) w5 := hX5.cell
            refine hK.out _ _ hS6 ?_
            clear hK K
            (try simp only [List.getElem_toArray, List.getElem_cons_succ, List.getElem_cons_zero, Act.put, List.setIfInBounds_toArray, List.set_cons_zero, List.set_cons_succ])
            refine wpAnyH_done (by kernel_rfl) ?_ _
            have hn7 : Near S wt w5 := hn5.drew.step hn6 (fun i hi => by
              rcases hi with h | h
              · exact .inl (by rw [h]; exact HSg.out)
              · exact .inr (by omega))
            have hst : WSt w5 (fun i => (S2 i ∨ w2.heap.size + 1 ≤ i) ∧ i < w5.heap.size) g mb (propS st1 (pn, pb)) := by
              have := hw5.st
              unfold propS
              simp only [HPc.out, HPl.out]
              rw [← textS_b st1 pn]
              exact this
            have HOut := Lib.hid (show WOut S g mb ((t.ps.take (j + 1)).foldl propS (headS nm st)) wt w5 from by
              rw [HFt.out]
              refine ⟨_, hst, hn7, fun i hi => ?_⟩
              rcases hi.1 with h | h
              · rcases hs2 i h with h | h
                · exact HS1.out i h
                · have h : wx.heap.size ≤ i := h
                  exact .inr (by omega)
              · exact .inr (by omega))
            clear hS5 hS6 hX4 hX5 hw5 hn6 hn7 hst hn5 HF5
            go_wp2_with fail
            go_roundw
            case rel => exact ⟨j + 1, by omega, by go_num, HOut.out⟩
            case measure => simp [intOf]; omega
          · obtain rfl : j = np := by omega
            have etk : t.ps.take j = t.ps := by rw [← HNp.out, List.take_length]
            rw [etk] at hw1
            obtain ⟨stp, hstp⟩ : ∃ stp, t.ps.foldl propS (headS nm st) = stp := ⟨_, rfl⟩
            rw [hstp] at hw1
            have HBp : Hid (BdO stp (n + 1) (p + j) (o + 1)) := Lib.hid (by
              have := propsS_bdo t.ps (headS_bdo HB0.out hnm1) (fun q hq => List.all_eq_true.1 HInv.out.1.2.2.2.1 q hq)
              rw [HNp.out, hstp] at this
              exact this)
            have HSp := Lib.hid hstp
            have cT := (HTk.out _ hn1).cell
            have HWp := Lib.hid (show WOut S g mb stp wt wr from ⟨S1, hw1, hn1, hs1⟩)
            clear hw1 hn1 hs1 hstp etk hBr
            go_wp2_with fail
            go_loopw [52] (fun i wr => ∃ j2 : Nat, j2 ≤ nk ∧ i = .int .i64 j2 ∧ WOut S g mb ((t.ks.take j2).foldl (fun s k => nodeS f k s) stp) wt wr) (fun i _ => nk - (intOf i).toNat)
            case atStart => exact ⟨0, by omega, rfl, HWp.out⟩
            case round =>
              clear cT
              obtain ⟨j2, hj2, rfl, S2, hw2, hn2, hs2⟩ := hrel
              have hBr := HBl.out _ hn2
              by_cases hlk : j2 < nk
              · obtain ⟨kd, hkd⟩ : ∃ q, t.ks[j2]? = some q := ⟨_, List.getElem?_eq_getElem (by rw [HNk.out]; exact hlk)⟩
                have hK := HK.out j2 kd hkd
                obtain ⟨b2, o2, rfl, hbk, hc2⟩ := HG.out (by omega)
                have x0 := (hBr.cell (p := ⟨b2, o2 + (j2 * 3 + 0), none⟩) hbk).trans (hc2 j2 hlk 0 (by omega))
                have x1 := (hBr.cell (p := ⟨b2, o2 + (j2 * 3 + 1), none⟩) hbk).trans (hc2 j2 hlk 1 (by omega))
                have x2 := (hBr.cell (p := ⟨b2, o2 + (j2 * 3 + 2), none⟩) hbk).trans (hc2 j2 hlk 2 (by omega))
                have hK2 := hK.below hBr
                obtain ⟨sn, K1, n1, cc1, K2, n2, cc2, hv⟩ : ∃ (sn : ByteArray) (K1 : Option Addr) (n1 cc1 : Nat) (K2 : Option Addr) (n2 cc2 : Nat), rowG j2 = [.string sn, .slice K1 n1 cc1, .slice K2 n2 cc2] := by
                  cases k with
                  | zero => exact hK.elim
                  | succ k =>
                    obtain ⟨_, _, _, _, _, _, _, e, _⟩ := hK
                    exact ⟨_, _, _, _, _, _, _, e⟩
                rw [hv] at x0 x1 x2 hK2
                simp only [Nat.add_zero, ← Nat.add_assoc, List.getElem?_cons_zero, List.getElem?_cons_succ] at x0 x1 x2
                have HFt := Lib.hid (foldl_take (fun s k => nodeS f k s) t.ks stp j2 kd hkd)
                obtain ⟨⟨nq, pq⟩, hkf⟩ : ∃ c, kidsF (mayF f) (t.ks.take j2) (n + 1, p + t.ps.length) = some c := by
                  rcases h : kidsF (mayF f) (t.ks.take j2) (n + 1, p + t.ps.length) with _ | c
                  · have := HInv.out.2.1
                    rw [kidsF_none _ _ j2 _ h] at this
                    cases this
                  · exact ⟨c, rfl⟩
                obtain ⟨⟨nq2, pq2⟩, hkm⟩ : ∃ c, mayF f kd (nq, pq) = some c := by
                  rcases h : mayF f kd (nq, pq) with _ | c
                  · have h1 := kidsF_take (mayF f) t.ks j2 kd (n + 1, p + t.ps.length) hkd
                    rw [hkf, Option.bind_some, h] at h1
                    have := HInv.out.2.1
                    rw [kidsF_none _ _ (j2 + 1) _ h1] at this
                    cases this
                  · exact ⟨c, rfl⟩
                have hge := kidsF_le (fun t c c' => mayF_le f t c c') _ _ _ hkf (by simp only; omega) (by simp only; omega) (by simp only; omega) (by simp only; rw [HNp.out]; omega)
                simp only at hge
                have hbk2 := kidsS_bdo (o := o + 1) (fun t c c' st => nodeS_bdo f (o + 1) t c c' st) (t.ks.take j2) (n + 1, p + t.ps.length) (nq, pq) stp hkf (by rw [HNp.out]; exact HBp.out)
                obtain ⟨st2, hst2⟩ : ∃ st2, (t.ks.take j2).foldl (fun s k => nodeS f k s) stp = st2 := ⟨_, rfl⟩
                rw [hst2] at hw2 HFt hbk2
                have hbX := bal (Below.refl wr.heap.size wr) (.cells #[.string sn, .slice K1 n1 cc1, .slice K2 n2 cc2] 25)
                have hzr := hn2.size
                have S2B : ∀ i, S2 i → B ≤ i := fun i hi => by
                  rcases hs2 i hi with h | h
                  · exact hSB i h
                  · omega
                have HC := Lib.hid (IH.out kd _ nq pq nq2 pq2 (o + 1) g mb B S2 st2 _ (hK2.below (hbX.mono (by omega))) hkm (by omega) (by omega) hbk2 (hw2.kept hbX) S2B (by simp; omega))
                have HN2 := Lib.hid (hn2.alloc (.cells #[.string sn, .slice K1 n1 cc1, .slice K2 n2 cc2] 25))
                have HS2 := Lib.hid hs2
                clear hc2 hK hkd hv hK2 hkf hkm hbk2 hst2 hw2 hn2 hs2 hbX S2B
                go_wp2_with (go_at_call 35; refine HC.out.mono ?_; rintro e w6 ⟨rfl, hw6⟩)
                go_roundw
                case rel =>
                  refine ⟨j2 + 1, by omega, by go_num, ?_⟩
                  rw [HFt.out]
                  obtain ⟨S3, hw7, hn7, hs7⟩ := hw6
                  refine ⟨S3, hw7, HN2.out.step hn7 (fun i hi => HS2.out i hi), fun i hi => ?_⟩
                  rcases hs7 i hi with h | h
                  · exact HS2.out i h
                  · refine .inr ?_
                    simp at h
                    omega
                case measure => simp [intOf]; omega
              · obtain rfl : j2 = nk := by omega
                have etk : t.ks.take j2 = t.ks := by rw [← HNk.out, List.take_length]
                rw [etk] at hw2
                have hkf := HInv.out.2.1
                rw [HNp.out] at hkf
                have hbk2 := kidsS_bdo (o := o + 1) (fun t c c' st => nodeS_bdo f (o + 1) t c c' st) t.ks _ _ stp hkf HBp.out
                obtain ⟨st2, hst2⟩ : ∃ st2, t.ks.foldl (fun s k => nodeS f k s) stp = st2 := ⟨_, rfl⟩
                rw [hst2] at hw2 hbk2
                have HEnd := Lib.hid (show nodeS (f + 1) t st = ⟨st2.b ++ be4 [2], st2.x, st2.n⟩ by rw [nodeS_succ, HNm.out, HSp.out, hst2])
                have hb8 := hbk2.1
                simp only at hb8
                have HF8 := Lib.hid (wfour_any g mb st2 S2 (some ⟨wr.heap.size, 0, none⟩) 1 1 [2] (wr.alloc (.cells #[.int .u32 2] 44)) (hw2.kept (bal (Below.refl wr.heap.size wr) (.cells #[.int .u32 2] 44))) rfl (by omega) (by decide) (by decide) (Rd.fresh wr #[.int .u32 2] 44 1 1 wr.heap.size rfl rfl))
                have HN2 := Lib.hid (hn2.alloc (.cells #[.int .u32 2] 44))
                have hzr := hn2.size
                have HS2 := Lib.hid hs2
                clear hw2 hn2 hs2 hbk2 hst2 hb8 hkf etk hBr
                go_wp2_with (go_at_call 36; refine HF8.out.mono ?_; rintro e w6 ⟨rfl, hw6, hn6⟩)
                go_end0
                rw [HEnd.out]
                refine ⟨rfl, _, hw6.st, ?_, ?_⟩
                · have h1 : Near S wt w6 := HN2.out.step hn6 (fun i hi => HS2.out i hi)
                  have h2 : Near S w wt := Near.of_below S (by have := HBt.out; rw [HBz.out]; exact this)
                  exact h2.trans h1
                · intro i hi
                  rcases hi.1 with h | h
                  · rcases HS2.out i h with h | h
                    · exact .inl h
                    · exact .inr (by rw [HBz.out]; omega)
                  · refine .inr ?_
                    rw [HBz.out]
                    simp at h
                    omega
end Go.Proofs.Ytnkpaockginooaa
