/- Chapter 14: the parser's guests; walked. -/
import Derived.Test.YtmhbpfclfffgkaaCfY
namespace Go.Proofs.Ytmhbpfclfffgkaa
set_option linter.unusedVariables false
set_option linter.unusedSimpArgs false
open Go.RowKit Go.Sort

theorem Fwd.word : Fwd wordP := .num _ _ _
theorem results_cell1 {P : Program} {fn : Func} {a : Tmp} {ty : TypeId} (h : fn.results = #[.cell a ty]) {tmps : Array Value} {w : World} {b o : Nat} {cs : List Value} {d : TypeDesc} (ha : tmps.getD a undef = .pointer (some ⟨b, o, none⟩))
    (hc : w.rangeAt b o cs) (hu : P.underlying ty = some d) (hd : d.isRow = true) (hi : (P.info? ty).map (·.size) = some cs.length) : (results fn tmps).run P w = .ok (.agg cs.toArray) w := by
  have h1 := run_loadVar_mid w b o ty cs d hc hu hd hi
  have ha' : tmps[a]?.getD undef = .pointer (some ⟨b, o, none⟩) := by rw [← ha]; simp
  simp [results, h, ha', asAddr, h1]
theorem blk_range {w : World} {g : Nat} {t : TypeId} {cs : List Value} (h : Blk w g t cs.toArray) : w.rangeAt g 0 cs := fun j v hv => by rw [Nat.zero_add, h.cell j]; simpa using hv
theorem arrayAt_68 (w : World) (b o c : Nat) : (Instr.arrayAt 64 (.slice (some ⟨b, o, none⟩) 68 c)).run Try.prog w = .ok (.pointer (some ⟨b, o, none⟩)) w := by
  unfold Instr.arrayAt
  simp [go_sem]
set_option maxRecDepth 100000 in
set_option maxHeartbeats 8000000 in
theorem guest_any : PCall 65 (fun p => #[.pointer (some ⟨p.g, 0, none⟩)]) guestP (OneR (fun r => .agg (gcells r).toArray) Prod.fst GOwn) := by
  intro p b B a w hR hB ha
  have hS := PSt.start hR hB ha
  clear hR hB ha
  have hk0 : (List.replicate 68 (0 : Int)).length = 68 := by decide
  go_enter Try.func65, Try.ntmps65
  go_upto_region 1 with (fail)
  have hZ := Blk.new w 70 Try.zeroCells70
  have hS := hS.alloc (.cells Try.zeroCells70 70)
  have hz1 : w.heap.size + 1 ≤ (w.alloc (.cells Try.zeroCells70 70)).heap.size := by simp
  have hzs : Try.zeroCells70.size = 79 := by kernel_rfl
  generalize w.alloc (.cells Try.zeroCells70 70) = w1 at *
  obtain ⟨rb, hrb⟩ : ∃ rb, w.heap.size = rb := ⟨_, rfl⟩
  have hrl : w.heap.size ≤ rb := by omega
  rw [hrb] at hZ hz1 ⊢
  have H := Lib.hid (nameP_any.at .name hS)
  have HZ := Lib.hid gzero
  go_upto_region 2 with (first
    | (go_at_call 96; refine H.out.mono ?_; rintro e1 w2 ⟨hn1, ⟨a1, y1, h1, rfl, hN⟩ | ⟨x1, a1, v, h1, rfl, ⟨rfl, hnm, hbx⟩, hS⟩⟩ <;> (have hT := Blk.new w2 70 Try.zeroCells70))
    | (refine wpList_store_blk rfl 70 (.tmp 3) (.tmp 11) rfl w2.heap.size 0 (Try.zeroCells70.setIfInBounds 0 (.string (strOfNums x1))) (by rfl) (by rfl) hT (by rw [Array.size_setIfInBounds]; omega) (by rw [Array.size_setIfInBounds, hzs]; kernel_rfl) (by rw [HZ.out]; exact gcells_one _) (setAt_all _ _ (by simp)) ?_; intro w3 hT3 hb3 hz3 hh3))
  case inl => exact ⟨rfl, hN, .inl ⟨_, _, by simp only [guestP, headP, PR.bnd, h1], rfl⟩⟩
  have hZ := (hZ.apart hn1 (hS.far hrl)).alloc (.cells Try.zeroCells70 70)
  have hS := hS.alloc (.cells Try.zeroCells70 70)
  have hz2 := hn1.size
  obtain ⟨tb, htb⟩ : ∃ tb, w2.heap.size = tb := ⟨_, rfl⟩
  have htl : w.heap.size ≤ tb := by omega
  have hrt : rb ≠ tb := by omega
  rw [htb] at hT3 hb3 hh3 ⊢
  have hn3 := near_only (hb3 _ (Nat.le_refl _)) hz3 hh3
  have hZ := hZ.apart hn3 hrt
  have hS := hS.turn hn3 htl
  have hT : Blk w3 tb 70 (gcells (⟨strOfNums x1, false, 0, 0, 0, 0, 0, List.replicate 68 0, [], [], [], []⟩, ⟨none, 0, none, 0, none, 0, none, 0⟩)).toArray := by
    rw [← HZ.out]; have := hT3; rwa [Array.toArray_toList] at this
  clear hrb htb hz1 hz2 hn1 H hT3 hb3 hz3 hh3 hn3
  have H := Lib.hid (bit_any.at .bit hS)
  have cT := (gst_cells hT hk0).c1
  have fT := hT.frozen
  go_upto_region 3 with (go_at_call 97; refine H.out.mono ?_; rintro e1 w1 ⟨hn1, ⟨a1, y1, h2, rfl, hN⟩ | ⟨x2, a2, v, h2, rfl, rfl, hS⟩⟩ <;> (have hT := hT.apart hn1 (hS.far htl); have cT := (gst_cells hT hk0).c1; have fT := hT.frozen))
  case inl => exact ⟨rfl, hN, .inl ⟨_, _, by simp only [guestP, headP, PR.bnd, h1, h2], rfl⟩⟩
  have hZ := (hZ.apart hn1 (hS.far hrl)).far (p := ⟨tb, 1, none⟩) hrt (.bool x2)
  have hS := hS.set (q := ⟨tb, 1, none⟩) htl (.bool x2)
  have hT := hT.set_ 1 (.bool x2)
  clear cT fT hn1 H
  generalize World.setCell w1 ⟨tb, 1, none⟩ (.bool x2) = w2 at *
  rw [gset1] at hT
  have H := Lib.hid (word_any.at (.num _ _ _) hS)
  have cT := (gst_cells hT hk0).c2
  have fT := hT.frozen
  go_upto_region 4 with (go_at_call 62; refine H.out.mono ?_; rintro e1 w1 ⟨hn1, ⟨a1, y1, h3, rfl, hN⟩ | ⟨x3, a3, v, h3, rfl, ⟨rfl, r3⟩, hS⟩⟩ <;> (have hT := hT.apart hn1 (hS.far htl); have cT := (gst_cells hT hk0).c2; have fT := hT.frozen))
  case inl => exact ⟨rfl, hN, .inl ⟨_, _, by simp only [guestP, headP, PR.bnd, h1, h2, h3], rfl⟩⟩
  have hZ := (hZ.apart hn1 (hS.far hrl)).far (p := ⟨tb, 2, none⟩) hrt (.int .u32 x3)
  have hS := hS.set (q := ⟨tb, 2, none⟩) htl (.int .u32 x3)
  have hT := hT.set_ 2 (.int .u32 x3)
  clear cT fT hn1 H
  generalize World.setCell w1 ⟨tb, 2, none⟩ (.int .u32 x3) = w2 at *
  rw [gset2] at hT
  have H := Lib.hid (word_any.at (.num _ _ _) hS)
  have cT := (gst_cells hT hk0).c3
  have fT := hT.frozen
  go_upto_region 5 with (go_at_call 62; refine H.out.mono ?_; rintro e1 w1 ⟨hn1, ⟨a1, y1, h4, rfl, hN⟩ | ⟨x4, a4, v, h4, rfl, ⟨rfl, r4⟩, hS⟩⟩ <;> (have hT := hT.apart hn1 (hS.far htl); have cT := (gst_cells hT hk0).c3; have fT := hT.frozen))
  case inl => exact ⟨rfl, hN, .inl ⟨_, _, by simp only [guestP, headP, PR.bnd, h1, h2, h3, h4], rfl⟩⟩
  have hZ := (hZ.apart hn1 (hS.far hrl)).far (p := ⟨tb, 3, none⟩) hrt (.int .u32 x4)
  have hS := hS.set (q := ⟨tb, 3, none⟩) htl (.int .u32 x4)
  have hT := hT.set_ 3 (.int .u32 x4)
  clear cT fT hn1 H
  generalize World.setCell w1 ⟨tb, 3, none⟩ (.int .u32 x4) = w2 at *
  rw [gset3] at hT
  have H := Lib.hid (word_any.at (.num _ _ _) hS)
  have cT := (gst_cells hT hk0).c4
  have fT := hT.frozen
  go_upto_region 6 with (go_at_call 62; refine H.out.mono ?_; rintro e1 w1 ⟨hn1, ⟨a1, y1, h5, rfl, hN⟩ | ⟨x5, a5, v, h5, rfl, ⟨rfl, r5⟩, hS⟩⟩ <;> (have hT := hT.apart hn1 (hS.far htl); have cT := (gst_cells hT hk0).c4; have fT := hT.frozen))
  case inl => exact ⟨rfl, hN, .inl ⟨_, _, by simp only [guestP, headP, PR.bnd, h1, h2, h3, h4, h5], rfl⟩⟩
  have hZ := (hZ.apart hn1 (hS.far hrl)).far (p := ⟨tb, 4, none⟩) hrt (.int .u32 x5)
  have hS := hS.set (q := ⟨tb, 4, none⟩) htl (.int .u32 x5)
  have hT := hT.set_ 4 (.int .u32 x5)
  clear cT fT hn1 H
  generalize World.setCell w1 ⟨tb, 4, none⟩ (.int .u32 x5) = w2 at *
  rw [gset4] at hT
  have H := Lib.hid (wide_any.at (.num _ _ _) hS)
  have cT := (gst_cells hT hk0).c5
  have fT := hT.frozen
  go_upto_region 7 with (go_at_call 98; refine H.out.mono ?_; rintro e1 w1 ⟨hn1, ⟨a1, y1, h6, rfl, hN⟩ | ⟨x6, a6, v, h6, rfl, ⟨rfl, r6⟩, hS⟩⟩ <;> (have hT := hT.apart hn1 (hS.far htl); have cT := (gst_cells hT hk0).c5; have fT := hT.frozen))
  case inl => exact ⟨rfl, hN, .inl ⟨_, _, by simp only [guestP, headP, PR.bnd, h1, h2, h3, h4, h5, h6], rfl⟩⟩
  have hZ := (hZ.apart hn1 (hS.far hrl)).far (p := ⟨tb, 5, none⟩) hrt (.int .u64 x6)
  have hS := hS.set (q := ⟨tb, 5, none⟩) htl (.int .u64 x6)
  have hT := hT.set_ 5 (.int .u64 x6)
  clear cT fT hn1 H
  generalize World.setCell w1 ⟨tb, 5, none⟩ (.int .u64 x6) = w2 at *
  rw [gset5] at hT
  have H := Lib.hid (wide_any.at (.num _ _ _) hS)
  have cT := (gst_cells hT hk0).c6
  have fT := hT.frozen
  go_upto_region 8 with (go_at_call 98; refine H.out.mono ?_; rintro e1 w1 ⟨hn1, ⟨a1, y1, h7, rfl, hN⟩ | ⟨x7, a7, v, h7, rfl, ⟨rfl, r7⟩, hS⟩⟩ <;> (have hT := hT.apart hn1 (hS.far htl); have cT := (gst_cells hT hk0).c6; have fT := hT.frozen))
  case inl => exact ⟨rfl, hN, .inl ⟨_, _, by simp only [guestP, headP, PR.bnd, h1, h2, h3, h4, h5, h6, h7], rfl⟩⟩
  have hZ := (hZ.apart hn1 (hS.far hrl)).far (p := ⟨tb, 6, none⟩) hrt (.int .u64 x7)
  have hS := hS.set (q := ⟨tb, 6, none⟩) htl (.int .u64 x7)
  have hT := hT.set_ 6 (.int .u64 x7)
  clear cT fT hn1 H
  generalize World.setCell w1 ⟨tb, 6, none⟩ (.int .u64 x7) = w2 at *
  rw [gset6] at hT
  have cP := hS.box.cell
  unfold Prs.cs at cP
  have H := Lib.hid ((take_any 68 (by decide) (by decide)).at (.take _) hS)
  have HAr := arrayAt_68
  go_upto_region 10 with (first
    | (go_at_call 99; refine H.out.mono ?_; rintro e1 w4 ⟨hn1, ⟨a1, y1, h8, rfl, hN⟩ | ⟨k, a8, v, h8, rfl, ⟨Ak, ck, rfl, hck, hcm, hkl, hkb, hrk⟩, hS⟩⟩ <;> (have hT := hT.apart hn1 (hS.far htl); try (obtain ⟨bk, ok, rfl, hbk, _⟩ := hrk.2 (by decide); have hRk := rd_range hrk (by decide); have hik : (Try.prog.info? 64).map (·.size) = some (k.flatMap encB).length := (by rw [flatB_len, hkl]; kernel_rfl))))
    | (refine wpList_load_mid rfl 64 (.tmp 39) rfl bk ok (by rfl) (k.flatMap encB) _ hRk Try.underlying64 rfl hik ?_)
    | (refine wpList_store_blk rfl 64 (.tmp 41) (.tmp 40) rfl tb 7 (k.flatMap encB).toArray (by rfl) (by rfl) hT (by rw [List.size_toArray, List.size_toArray, flatB_len, hkl, gcells_len hk0]; decide) (by rw [List.size_toArray]; exact hik) (by rw [List.all_toArray, List.all_eq_true]; exact one_b k) (gsetK _ _ _ _ _ _ _ _ _ _ _ _ _ _ (by rw [hkl]; exact hk0.symm)) ?_; intro w5 hT5 hb5 hz5 hh5))
  case inl => exact ⟨rfl, hN, .inl ⟨_, _, by simp only [guestP, headP, keyP, hereP, PR.bnd, PR.ret, h1, h2, h3, h4, h5, h6, h7, h8], rfl⟩⟩
  have hn5 := near_only (hb5 _ (Nat.le_refl _)) hz5 hh5
  have hZ := (hZ.apart hn1 (hS.far hrl)).apart hn5 hrt
  have hS := hS.turn hn5 htl
  have hT := hT5
  clear hT5 hb5 hz5 hh5 hn5 hn1 H HAr cP hRk hrk hck hcm HZ hzs
  have hTk := (gst_cells hT hkl).key
  have hik := hik
  have HK := Lib.hid (keyed_any k w5 hkl hkb)
  by_cases hky : keyB k = true
  case neg =>
    rw [Bool.not_eq_true] at hky
    rw [hky] at HK
    go_wp2_with (first
      | (refine wpList_load_mid rfl 64 (.tmp 42) rfl tb 7 (by rfl) (k.flatMap encB) _ hTk Try.underlying64 rfl hik ?_)
      | (go_at_call 81; refine HK.out.mono ?_; rintro e1 w6 ⟨rfl, hb6⟩)
      | (go_at_call 42; refine (must_no _ _ _).mono ?_; rintro e1 w7 ⟨rfl, rfl⟩))
    exact ⟨rfl, (hS.below hb6).near, .inl ⟨_, _, by simp only [guestP, headP, keyP, countsP, hereP, mustP, PR.bnd, PR.ret, h1, h2, h3, h4, h5, h6, h7, h8, hky, Bool.false_eq_true, if_false], rfl⟩⟩
  rw [hky] at HK
  go_upto_region 11 with (first
    | (refine wpList_load_mid rfl 64 (.tmp 42) rfl tb 7 (by rfl) (k.flatMap encB) _ hTk Try.underlying64 rfl hik ?_)
    | (go_at_call 81; refine HK.out.mono ?_; rintro e1 w6 ⟨rfl, hb6⟩)
    | (go_at_call 42; refine (must_yes _ _ _).mono ?_; rintro e1 w7 ⟨rfl, rfl⟩))
  have hS := hS.below hb6
  have hT := hT.kept hb6
  have hZ := hZ.kept hb6
  clear hTk hik HK hb6
  have cP := hS.box.cell
  unfold Prs.cs at cP
  have hkc : PR.bnd (mustP (keyB k) a7 144) (fun _ => PR.ret k) b a8 = .ok (k, a8) := by simp only [mustP, hky, if_true, PR.bnd, PR.ret]
  have H := Lib.hid ((half_any 16 142 (by decide) (by decide)).at (.num _ _ _) hS)
  go_upto_region 13 with (go_at_call 63; refine H.out.mono ?_; rintro e1 w1 ⟨hn1, ⟨a1, y1, h9, rfl, hN⟩ | ⟨x9, a9, v, h9, rfl, ⟨rfl, q9, r9⟩, hS⟩⟩)
  case inl => exact ⟨rfl, hN, .inl ⟨_, _, by simp only [guestP, headP, keyP, countsP, hereP, mustP, PR.bnd, PR.ret, h1, h2, h3, h4, h5, h6, h7, h8, hky, if_true, h9], rfl⟩⟩
  have hT := hT.apart hn1 (hS.far htl)
  have hZ := hZ.apart hn1 (hS.far hrl)
  clear hn1 H
  by_cases hw0 : 0 < x9
  case neg =>
    have hd : decide (0 < x9) = false := decide_eq_false hw0
    go_wp2_with (go_at_call 42; refine (must_no _ _ _).mono ?_; rintro e1 w7 ⟨rfl, rfl⟩)
    exact ⟨rfl, hS.near, .inl ⟨_, _, by simp only [guestP, headP, keyP, countsP, hereP, mustP, PR.bnd, PR.ret, h1, h2, h3, h4, h5, h6, h7, h8, hky, if_true, h9, hd, Bool.false_eq_true, if_false], rfl⟩⟩
  have hd : decide (0 < x9) = true := decide_eq_true hw0
  go_upto_region 14 with (go_at_call 42; refine (must_yes _ _ _).mono ?_; rintro e1 w7 ⟨rfl, rfl⟩)
  have H := Lib.hid ((half_any 16 142 (by decide) (by decide)).at (.num _ _ _) hS)
  go_upto_region 15 with (go_at_call 63; refine H.out.mono ?_; rintro e1 w1 ⟨hn1, ⟨a1, y1, h10, rfl, hN⟩ | ⟨x10, a10, v, h10, rfl, ⟨rfl, q10, r10⟩, hS⟩⟩)
  case inl => exact ⟨rfl, hN, .inl ⟨_, _, by simp only [guestP, headP, keyP, countsP, hereP, mustP, PR.bnd, PR.ret, h1, h2, h3, h4, h5, h6, h7, h8, hky, if_true, h9, hd, h10], rfl⟩⟩
  have hT := hT.apart hn1 (hS.far htl)
  have hZ := hZ.apart hn1 (hS.far hrl)
  clear hn1 H
  have H := Lib.hid ((half_any 64 142 (by decide) (by decide)).at (.num _ _ _) hS)
  go_upto_region 16 with (go_at_call 63; refine H.out.mono ?_; rintro e1 w1 ⟨hn1, ⟨a1, y1, h11, rfl, hN⟩ | ⟨x11, a11, v, h11, rfl, ⟨rfl, q11, r11⟩, hS⟩⟩)
  case inl => exact ⟨rfl, hN, .inl ⟨_, _, by simp only [guestP, headP, keyP, countsP, hereP, mustP, PR.bnd, PR.ret, h1, h2, h3, h4, h5, h6, h7, h8, hky, if_true, h9, hd, h10, h11], rfl⟩⟩
  have hT := hT.apart hn1 (hS.far htl)
  have hZ := hZ.apart hn1 (hS.far hrl)
  clear hn1 H
  have H := Lib.hid ((half_any 32 142 (by decide) (by decide)).at (.num _ _ _) hS)
  go_upto_region 17 with (go_at_call 63; refine H.out.mono ?_; rintro e1 w1 ⟨hn1, ⟨a1, y1, h12, rfl, hN⟩ | ⟨x12, a12, v, h12, rfl, ⟨rfl, q12, r12⟩, hS⟩⟩)
  case inl => exact ⟨rfl, hN, .inl ⟨_, _, by simp only [guestP, headP, keyP, countsP, hereP, mustP, PR.bnd, PR.ret, h1, h2, h3, h4, h5, h6, h7, h8, hky, if_true, h9, hd, h10, h11, h12], rfl⟩⟩
  have hT := hT.apart hn1 (hS.far htl)
  have hZ := hZ.apart hn1 (hS.far hrl)
  clear hn1 H
  obtain ⟨n9, rfl⟩ := Int.eq_ofNat_of_zero_le q9
  obtain ⟨n10, rfl⟩ := Int.eq_ofNat_of_zero_le q10
  obtain ⟨n11, rfl⟩ := Int.eq_ofNat_of_zero_le q11
  obtain ⟨n12, rfl⟩ := Int.eq_ofNat_of_zero_le q12
  have H := Lib.hid ((listW plainW elemW n9 (by omega) .window oneW).at (.list .window _) hS)
  have cT := (gst_cells hT hkl).cW
  have fT := hT.frozen
  go_upto_region 18 with (go_at_call 100; refine H.out.mono ?_; rintro e1 w1 ⟨hn1, ⟨a1, y1, hlW, rfl, hN⟩ | ⟨ws, b9, v, hlW, rfl, hvW, hS⟩⟩ <;> (have hT := hT.apart hn1 (hS.far htl); have cT := (gst_cells hT hkl).cW; have fT := hT.frozen; try (obtain ⟨AW, cW, rfl, oW, uW⟩ := hvW.plain)))
  case inl => exact ⟨rfl, hN, .inl ⟨_, _, by simp only [guestP, headP, keyP, countsP, hereP, mustP, PR.bnd, PR.ret, h1, h2, h3, h4, h5, h6, h7, h8, hky, if_true, h9, hd, h10, h11, h12, Int.toNat_natCast, hlW], rfl⟩⟩
  have uW := uW.apart hT (by decide) ((Near.refl (fun i => i = tb) w1).setCell (p := ⟨tb, 75, none⟩) rfl (.slice AW ws.length cW))
  have hZ := (hZ.apart hn1 (hS.far hrl)).far (p := ⟨tb, 75, none⟩) hrt (.slice AW ws.length cW)
  have hS := hS.set (q := ⟨tb, 75, none⟩) htl (.slice AW ws.length cW)
  have hT := hT.set_ 75 (.slice AW ws.length cW)
  clear cT fT hn1 H
  generalize World.setCell w1 ⟨tb, 75, none⟩ (.slice AW ws.length cW) = w2 at *
  rw [gset75 hkl _ _ _ _ rfl] at hT
  have H := Lib.hid ((listD plainD elemD n10 (by omega) .dev oneD).at (.list .dev _) hS)
  have cT := (gst_cells hT hkl).cD
  have fT := hT.frozen
  go_upto_region 19 with (go_at_call 102; refine H.out.mono ?_; rintro e1 w1 ⟨hn1, ⟨a1, y1, hlD, rfl, hN⟩ | ⟨ds, b10, v, hlD, rfl, hvD, hS⟩⟩ <;> (have hT := hT.apart hn1 (hS.far htl); have cT := (gst_cells hT hkl).cD; have fT := hT.frozen; try (obtain ⟨AD, cD, rfl, oD, uD⟩ := hvD.plain)))
  case inl => exact ⟨rfl, hN, .inl ⟨_, _, by simp only [guestP, headP, keyP, countsP, hereP, mustP, PR.bnd, PR.ret, h1, h2, h3, h4, h5, h6, h7, h8, hky, if_true, h9, hd, h10, h11, h12, Int.toNat_natCast, hlW, hlD], rfl⟩⟩
  have uW := (uW.near hn1).apart hT (by decide) ((Near.refl (fun i => i = tb) w1).setCell (p := ⟨tb, 76, none⟩) rfl (.slice AD ds.length cD))
  have uD := uD.apart hT (by decide) ((Near.refl (fun i => i = tb) w1).setCell (p := ⟨tb, 76, none⟩) rfl (.slice AD ds.length cD))
  have hZ := (hZ.apart hn1 (hS.far hrl)).far (p := ⟨tb, 76, none⟩) hrt (.slice AD ds.length cD)
  have hS := hS.set (q := ⟨tb, 76, none⟩) htl (.slice AD ds.length cD)
  have hT := hT.set_ 76 (.slice AD ds.length cD)
  clear cT fT hn1 H
  generalize World.setCell w1 ⟨tb, 76, none⟩ (.slice AD ds.length cD) = w2 at *
  rw [gset76 hkl _ _ _ _ rfl] at hT
  have H := Lib.hid ((listI plainI elemI n11 (by omega) .irq oneI).at (.list .irq _) hS)
  have cT := (gst_cells hT hkl).cI
  have fT := hT.frozen
  go_upto_region 20 with (go_at_call 104; refine H.out.mono ?_; rintro e1 w1 ⟨hn1, ⟨a1, y1, hlI, rfl, hN⟩ | ⟨qs, b11, v, hlI, rfl, hvI, hS⟩⟩ <;> (have hT := hT.apart hn1 (hS.far htl); have cT := (gst_cells hT hkl).cI; have fT := hT.frozen; try (obtain ⟨AI, cI, rfl, oI, uI⟩ := hvI.plain)))
  case inl => exact ⟨rfl, hN, .inl ⟨_, _, by simp only [guestP, headP, keyP, countsP, hereP, mustP, PR.bnd, PR.ret, h1, h2, h3, h4, h5, h6, h7, h8, hky, if_true, h9, hd, h10, h11, h12, Int.toNat_natCast, hlW, hlD, hlI], rfl⟩⟩
  have uW := (uW.near hn1).apart hT (by decide) ((Near.refl (fun i => i = tb) w1).setCell (p := ⟨tb, 77, none⟩) rfl (.slice AI qs.length cI))
  have uD := (uD.near hn1).apart hT (by decide) ((Near.refl (fun i => i = tb) w1).setCell (p := ⟨tb, 77, none⟩) rfl (.slice AI qs.length cI))
  have uI := uI.apart hT (by decide) ((Near.refl (fun i => i = tb) w1).setCell (p := ⟨tb, 77, none⟩) rfl (.slice AI qs.length cI))
  have hZ := (hZ.apart hn1 (hS.far hrl)).far (p := ⟨tb, 77, none⟩) hrt (.slice AI qs.length cI)
  have hS := hS.set (q := ⟨tb, 77, none⟩) htl (.slice AI qs.length cI)
  have hT := hT.set_ 77 (.slice AI qs.length cI)
  clear cT fT hn1 H
  generalize World.setCell w1 ⟨tb, 77, none⟩ (.slice AI qs.length cI) = w2 at *
  rw [gset77 hkl _ _ _ _ rfl] at hT
  have H := Lib.hid ((listS plainS elemS n12 (by omega) Fwd.word oneS).at (.list Fwd.word _) hS)
  have cT := (gst_cells hT hkl).cS
  have fT := hT.frozen
  go_upto_region 21 with (go_at_call 106; refine H.out.mono ?_; rintro e1 w1 ⟨hn1, ⟨a1, y1, hlS, rfl, hN⟩ | ⟨ss, b12, v, hlS, rfl, hvS, hS⟩⟩ <;> (have hT := hT.apart hn1 (hS.far htl); have cT := (gst_cells hT hkl).cS; have fT := hT.frozen; try (obtain ⟨AS, cS, rfl, oS, uS⟩ := hvS.plain)))
  case inl => exact ⟨rfl, hN, .inl ⟨_, _, by simp only [guestP, headP, keyP, countsP, hereP, mustP, PR.bnd, PR.ret, h1, h2, h3, h4, h5, h6, h7, h8, hky, if_true, h9, hd, h10, h11, h12, Int.toNat_natCast, hlW, hlD, hlI, hlS], rfl⟩⟩
  have uW := (uW.near hn1).apart hT (by decide) ((Near.refl (fun i => i = tb) w1).setCell (p := ⟨tb, 78, none⟩) rfl (.slice AS ss.length cS))
  have uD := (uD.near hn1).apart hT (by decide) ((Near.refl (fun i => i = tb) w1).setCell (p := ⟨tb, 78, none⟩) rfl (.slice AS ss.length cS))
  have uI := (uI.near hn1).apart hT (by decide) ((Near.refl (fun i => i = tb) w1).setCell (p := ⟨tb, 78, none⟩) rfl (.slice AS ss.length cS))
  have uS := uS.apart hT (by decide) ((Near.refl (fun i => i = tb) w1).setCell (p := ⟨tb, 78, none⟩) rfl (.slice AS ss.length cS))
  have hZ := (hZ.apart hn1 (hS.far hrl)).far (p := ⟨tb, 78, none⟩) hrt (.slice AS ss.length cS)
  have hS := hS.set (q := ⟨tb, 78, none⟩) htl (.slice AS ss.length cS)
  have hT := hT.set_ 78 (.slice AS ss.length cS)
  clear cT fT hn1 H
  generalize World.setCell w1 ⟨tb, 78, none⟩ (.slice AS ss.length cS) = w2 at *
  rw [gset78 hkl _ _ _ _ rfl] at hT
  have hlen : (gcells (⟨strOfNums x1, x2, x3, x4, x5, x6, x7, k, ws, ds, qs, ss⟩, ⟨AW, cW, AD, cD, AI, cI, AS, cS⟩)).length = 79 := gcells_len hkl
  obtain ⟨R, hR⟩ : ∃ R : Gs × Gp, R = (⟨strOfNums x1, x2, x3, x4, x5, x6, x7, k, ws, ds, qs, ss⟩, ⟨AW, cW, AD, cD, AI, cI, AS, cS⟩) := ⟨_, rfl⟩
  rw [← hR] at hT hlen
  have hTr := blk_range hT
  have hi79 : (Try.prog.info? 70).map (·.size) = some (gcells R).length := by rw [hlen]; kernel_rfl
  have hzs : Try.zeroCells70.size = 79 := by kernel_rfl
  have HR := Lib.hid hR
  clear hR
  go_wp2_with (first
    | (refine wpList_load_mid rfl 70 (.tmp 3) rfl tb 0 (by rfl) (gcells R) _ hTr Try.underlying70 rfl hi79 ?_)
    | (refine wpList_store_blk rfl 70 (.tmp 2) (.tmp 84) rfl rb 0 (gcells R).toArray (by rfl) (by rfl) hZ (by rw [List.size_toArray, hlen, hzs]; decide) (by rw [List.size_toArray]; exact hi79) (gcells_one _) (setAt_all _ _ (by rw [hzs]; simpa using hlen)) ?_; intro w5 hZ5 hb5 hz5 hh5))
  have hn5 := near_only (hb5 _ (Nat.le_refl _)) hz5 hh5
  have hS := hS.turn hn5 hrl
  have gW := uW.apart hZ (by decide) hn5
  have gD := uD.apart hZ (by decide) hn5
  have gI := uI.apart hZ (by decide) hn5
  have gS := uS.apart hZ (by decide) hn5
  have hnl : (strOfNums x1).size ≤ maxLen := by
    rw [strOfNums_size]
    have := hnm
    unfold nameN at this
    simp only [Bool.and_eq_true, decide_eq_true_eq] at this
    unfold maxLen
    omega
  refine bodyPost_ret (v := .agg (gcells R).toArray) (results_cell1 rfl (by rfl) (blk_range (by simpa using hZ5)) Try.underlying70 rfl hi79) rfl ⟨hS.near, .inr ⟨R.1, b12, _, ?_, rfl, ⟨R, rfl, rfl, ?_⟩, hS.box⟩⟩
  · rw [HR.out]
    simp only [guestP, headP, keyP, countsP, hereP, mustP, PR.bnd, PR.ret, h1, h2, h3, h4, h5, h6, h7, h8, hky, if_true, h9, hd, h10, h11, h12, Int.toNat_natCast, hlW, hlD, hlI, hlS]
  · rw [HR.out]
    exact ⟨hnl, r3, r4, r5, r6, r7, hkl, hkb, oW, oD, oI, oS, gW, gD, gI, gS⟩
end Go.Proofs.Ytmhbpfclfffgkaa
