/- Chapter 14: the parser's configuration; walked. -/
import Derived.Test.YtmhbpfclfffgkaaCfZ
namespace Go.Proofs.Ytmhbpfclfffgkaa
set_option linter.unusedVariables false
set_option linter.unusedSimpArgs false
open Go.RowKit Go.Sort

theorem GOwn.apart {p : Prs} {x : Gs × Gp} {w w' : World} {g : Nat} {cs : Array Value} (h : GOwn p x w) (hB : Blk w g 28 cs) (hn : Near (fun i => i = g) w w') : GOwn p x w' :=
  ⟨h.nm, h.off, h.len, h.cpus, h.entry, h.dtb, h.kl, h.kb, h.oW, h.oD, h.oI, h.oS, h.rW.apart hB (by decide) hn, h.rD.apart hB (by decide) hn, h.rI.apart hB (by decide) hn, h.rS.apart hB (by decide) hn⟩
/-- The guests of a configuration, read. -/
def GuL (p : Prs) (gs : List Gs) (v : Value) (w : World) : Prop := ∃ (L : List (Gs × Gp)) (A : Option Addr) (c : Nat), v = .slice A L.length c ∧ L.map Prod.fst = gs ∧ (∀ r ∈ L, GOwn p r w) ∧ OwnG p w 70 79 A c L.length (L.flatMap gcells)
theorem ListR.guests {p : Prs} {B : Nat} {gs : List Gs} {v : Value} {w : World} (h : ListR 70 79 gcells Prod.fst GOwn p B gs v w) : GuL p gs v w := by
  obtain ⟨L, base, hL, ho, hg, hown⟩ := h
  obtain ⟨A, c, rfl, _, _⟩ := own_slice hown
  exact ⟨L, A, c, rfl, hL, ho, base, hg, hown⟩
/-- A configuration of the call's own, in its cells. -/
structure ConfO (p : Prs) (x : CfD) (L : List (Gs × Gp)) (A : Option Addr) (c : Nat) (A2 : Option Addr) (c2 : Nat) (w : World) : Prop where
  gs : x.gs = L.map Prod.fst
  ver : inU32 x.ver
  go : ∀ r ∈ L, GOwn p r w
  gr : OwnG p w 70 79 A c L.length (L.flatMap gcells)
  co : ∀ y ∈ x.cs, ChOk y
  cr : OwnG p w 77 8 A2 c2 x.cs.length (x.cs.flatMap encCh)
theorem OwnG.low {p : Prs} {w w' : World} {e : TypeId} {k c n : Nat} {A : Option Addr} {xs : List Value} {S : Nat → Prop} (h : OwnG p w e k A c n xs) (hn : Near S w w') (hS : ∀ i, S i → i ≤ p.g) : OwnG p w' e k A c n xs := by
  obtain ⟨base, hg, ho⟩ := h
  exact ⟨base, hg, own_same ho fun j hj => hn.block j (own_lt ho hj).2 (fun hs => by have := hS j hs; have := (own_lt ho hj).1; omega)⟩
section
variable {p : Prs} {x : CfD} {L : List (Gs × Gp)} {A A2 : Option Addr} {c c2 : Nat} {w w' : World}
theorem ConfO.low {S : Nat → Prop} (h : ConfO p x L A c A2 c2 w) (hn : Near S w w') (hS : ∀ i, S i → i ≤ p.g) : ConfO p x L A c A2 c2 w' :=
  ⟨h.gs, h.ver, fun r hr => (h.go r hr).map fun _ ho => ho.low hn hS, h.gr.low hn hS, h.co, h.cr.low hn hS⟩
theorem ConfO.read (h : ConfO p x L A c A2 c2 w) : CfR w w.heap.size ⟨x.ver, L, x.cs⟩ A c A2 c2 :=
  ⟨h.ver, ⟨h.gr.rd.1, h.gr.rd.2.1⟩, ⟨h.cr.rd.1, h.cr.rd.2.1⟩, fun g hg => (h.go g hg).gsR, h.co, h.gr.rd.2.2, h.cr.rd.2.2⟩
end
/-- What is answered. -/
def ConfR (p : Prs) (x : CfD) (v : Value) (w : World) : Prop := ∃ (L : List (Gs × Gp)) (A : Option Addr) (c : Nat) (A2 : Option Addr) (c2 : Nat), v = .agg #[.int .u32 x.ver, .slice A L.length c, .slice A2 x.cs.length c2] ∧ ConfO p x L A c A2 c2 w
set_option maxRecDepth 100000 in
set_option maxHeartbeats 8000000 in
theorem config_any : PCall 28 (fun p => #[.pointer (some ⟨p.g, 0, none⟩)]) configP (fun p B x v w => ConfR p x v w) := by
  intro p b B a w hR hB ha
  have hS := PSt.start hR hB ha
  clear hR hB ha
  go_enter Try.func28, Try.ntmps28
  go_upto_region 1 with (fail)
  have hZ := Blk.new w 28 #[.int .u32 0, .slice none 0 0, .slice none 0 0]
  have hS := hS.alloc (.cells #[.int .u32 0, .slice none 0 0, .slice none 0 0] 28)
  have hz1 : w.heap.size + 1 ≤ (w.alloc (.cells #[.int .u32 0, .slice none 0 0, .slice none 0 0] 28)).heap.size := by simp
  generalize w.alloc (.cells #[.int .u32 0, .slice none 0 0, .slice none 0 0] 28) = w1 at *
  obtain ⟨rb, hrb⟩ : ∃ rb, w.heap.size = rb := ⟨_, rfl⟩
  have hrl : w.heap.size ≤ rb := by omega
  rw [hrb] at hZ hz1 ⊢
  have H := Lib.hid (word_any.at Fwd.word hS)
  obtain ⟨w1', hw1⟩ : ∃ W, W = w1 := ⟨_, rfl⟩
  rcases hm : wordP b a with ⟨e1, e2⟩ | ⟨x1, a1⟩
  · rw [hm] at H
    go_wp2_with (go_at_call 62; refine H.out.mono ?_; rintro e1 w1 ⟨hn1, ⟨a1, y1, ⟨⟩, rfl, hN⟩ | ⟨x1, a1, v, ⟨⟩, rfl, ⟨rfl, r1⟩, hS⟩⟩)
    exact ⟨rfl, hN, .inl ⟨_, _, by simp only [configP, top1P, hereP, mustP, endsP, PR.bnd, PR.ret, hm], rfl⟩⟩
  rw [hm] at H
  by_cases hmg : x1 = 1111705159
  case neg =>
    have hd : (x1 == 1111705159) = false := by simp [hmg]
    have hd2 : decide (x1 = 1111705159) = false := decide_eq_false hmg
    go_wp2_with (first
      | (go_at_call 62; refine H.out.mono ?_; rintro e1 w1 ⟨hn1, ⟨a1, y1, ⟨⟩, rfl, hN⟩ | ⟨x1, a1, v, ⟨⟩, rfl, ⟨rfl, r1⟩, hS⟩⟩)
      | (go_at_call 42; refine (must_no _ _ _).mono ?_; rintro e1 w7 ⟨rfl, rfl⟩))
    exact ⟨rfl, hS.near, .inl ⟨0, 140, by simp only [configP, top1P, hereP, mustP, endsP, PR.bnd, PR.ret, hm, hd2, Bool.false_eq_true, if_false], rfl⟩⟩
  have hd : (x1 == 1111705159) = true := by simp [hmg]
  have hd2 : decide (x1 = 1111705159) = true := decide_eq_true hmg
  go_upto_region 2 with (first
    | (go_at_call 62; refine H.out.mono ?_; rintro e1 w1 ⟨hn1, ⟨_, _, ⟨⟩, rfl, hN⟩ | ⟨_, _, v, ⟨⟩, rfl, ⟨rfl, r1⟩, hS⟩⟩)
    | (go_at_call 42; refine (must_yes _ _ _).mono ?_; rintro e1 w7 ⟨rfl, rfl⟩))
  have hZ := hZ.apart hn1 (hS.far hrl)
  clear hn1 H hd hmg
  -- the format
  have cP := hS.box.cell
  unfold Prs.cs at cP
  have H := Lib.hid ((half_any 65535 144 (by decide) (by decide)).at (.num _ _ _) hS)
  rcases h2 : halfP 65535 144 b a1 with ⟨e1, e2⟩ | ⟨x2, a2⟩
  · have h2' : numP 2 65535 144 b a1 = .error (e1, e2) := h2
    rw [show halfP 65535 144 = numP 2 65535 144 from rfl, h2'] at H
    go_wp2_with (go_at_call 63; refine H.out.mono ?_; rintro e1 w1 ⟨hn1, ⟨_, _, ⟨⟩, rfl, hN⟩ | ⟨_, _, v, ⟨⟩, rfl, ⟨rfl, q2, r2⟩, hS⟩⟩)
    exact ⟨rfl, hN, .inl ⟨_, _, by simp only [configP, top1P, hereP, mustP, endsP, PR.bnd, PR.ret, hm, hd2, if_true, h2], rfl⟩⟩
  rw [show halfP 65535 144 = numP 2 65535 144 from rfl] at h2
  rw [show halfP 65535 144 = numP 2 65535 144 from rfl, h2] at H
  have h2 : halfP 65535 144 b a1 = .ok (x2, a2) := h2
  by_cases hf : x2 = 1
  case neg =>
    have hd : (x2 == 1) = false := by simp [hf]
    have hd3 : decide (x2 = 1) = false := decide_eq_false hf
    go_wp2_with (first
      | (go_at_call 63; refine H.out.mono ?_; rintro e1 w1 ⟨hn1, ⟨_, _, ⟨⟩, rfl, hN⟩ | ⟨_, _, v, ⟨⟩, rfl, ⟨rfl, q2, r2⟩, hS⟩⟩)
      | (go_at_call 42; refine (must_no _ _ _).mono ?_; rintro e1 w7 ⟨rfl, rfl⟩))
    exact ⟨rfl, hS.near, .inl ⟨_, _, by simp only [configP, top1P, hereP, mustP, endsP, PR.bnd, PR.ret, hm, hd2, if_true, h2, hd3, Bool.false_eq_true, if_false], rfl⟩⟩
  have hd : (x2 == 1) = true := by simp [hf]
  have hd3 : decide (x2 = 1) = true := decide_eq_true hf
  go_upto_region 4 with (first
    | (go_at_call 63; refine H.out.mono ?_; rintro e1 w1 ⟨hn1, ⟨_, _, ⟨⟩, rfl, hN⟩ | ⟨_, _, v, ⟨⟩, rfl, ⟨rfl, q2, r2⟩, hS⟩⟩)
    | (go_at_call 42; refine (must_yes _ _ _).mono ?_; rintro e1 w7 ⟨rfl, rfl⟩))
  have hZ := hZ.apart hn1 (hS.far hrl)
  clear hn1 H hd hf cP
  have cP := hS.box.cell
  unfold Prs.cs at cP
  have H := Lib.hid ((half_any 16 142 (by decide) (by decide)).at (.num _ _ _) hS)
  go_upto_region 6 with (go_at_call 63; refine H.out.mono ?_; rintro e1 w1 ⟨hn1, ⟨a1, y1, h3, rfl, hN⟩ | ⟨x3, a3, v, h3, rfl, ⟨rfl, q3, r3⟩, hS⟩⟩)
  case inl => exact ⟨rfl, hN, .inl ⟨_, _, by simp only [configP, top1P, hereP, mustP, endsP, PR.bnd, PR.ret, hm, hd2, if_true, h2, hd3, h3], rfl⟩⟩
  have hZ := hZ.apart hn1 (hS.far hrl)
  clear hn1 H
  by_cases hg0 : 0 < x3
  case neg =>
    have hd : decide (0 < x3) = false := decide_eq_false hg0
    go_wp2_with (go_at_call 42; refine (must_no _ _ _).mono ?_; rintro e1 w7 ⟨rfl, rfl⟩)
    exact ⟨rfl, hS.near, .inl ⟨_, _, by simp only [configP, top1P, hereP, mustP, endsP, PR.bnd, PR.ret, hm, hd2, if_true, h2, hd3, h3, hd, Bool.false_eq_true, if_false], rfl⟩⟩
  have hd : decide (0 < x3) = true := decide_eq_true hg0
  go_upto_region 7 with (go_at_call 42; refine (must_yes _ _ _).mono ?_; rintro e1 w7 ⟨rfl, rfl⟩)
  have H := Lib.hid ((half_any 32 142 (by decide) (by decide)).at (.num _ _ _) hS)
  go_upto_region 8 with (go_at_call 63; refine H.out.mono ?_; rintro e1 w1 ⟨hn1, ⟨a1, y1, h4, rfl, hN⟩ | ⟨x4, a4, v, h4, rfl, ⟨rfl, q4, r4⟩, hS⟩⟩)
  case inl => exact ⟨rfl, hN, .inl ⟨_, _, by simp only [configP, top1P, hereP, mustP, endsP, PR.bnd, PR.ret, hm, hd2, if_true, h2, hd3, h3, hd, h4], rfl⟩⟩
  have hZ := hZ.apart hn1 (hS.far hrl)
  clear hn1 H
  have H := Lib.hid ((half_any 0 144 (by decide) (by decide)).at (.num _ _ _) hS)
  go_upto_region 9 with (go_at_call 63; refine H.out.mono ?_; rintro e1 w1 ⟨hn1, ⟨a1, y1, h5, rfl, hN⟩ | ⟨x5, a5, v, h5, rfl, ⟨rfl, q5, r5⟩, hS⟩⟩)
  case inl => exact ⟨rfl, hN, .inl ⟨_, _, by simp only [configP, top1P, hereP, mustP, endsP, PR.bnd, PR.ret, hm, hd2, if_true, h2, hd3, h3, hd, h4, h5], rfl⟩⟩
  have hZ := hZ.apart hn1 (hS.far hrl)
  clear hn1 H
  have H := Lib.hid (word_any.at Fwd.word hS)
  go_upto_region 10 with (go_at_call 62; refine H.out.mono ?_; rintro e1 w1 ⟨hn1, ⟨a1, y1, h6, rfl, hN⟩ | ⟨x6, a6, v, h6, rfl, ⟨rfl, r6⟩, hS⟩⟩)
  case inl => exact ⟨rfl, hN, .inl ⟨_, _, by simp only [configP, top1P, hereP, mustP, endsP, PR.bnd, PR.ret, hm, hd2, if_true, h2, hd3, h3, hd, h4, h5, h6], rfl⟩⟩
  have hZ1 := hZ.apart hn1 (hS.far hrl)
  have hzl := hZ1.lt
  have hZ := hZ1.alloc (.cells #[.int .u32 x6, .slice none 0 0, .slice none 0 0] 28)
  have hT := Blk.new w1 28 #[.int .u32 x6, .slice none 0 0, .slice none 0 0]
  have hS := hS.alloc (.cells #[.int .u32 x6, .slice none 0 0, .slice none 0 0] 28)
  obtain ⟨tb, htb⟩ : ∃ tb, w1.heap.size = tb := ⟨_, rfl⟩
  have htl : w.heap.size ≤ tb := by omega
  have hrt : rb ≠ tb := by omega
  rw [htb] at hT ⊢
  generalize w1.alloc (.cells #[.int .u32 x6, .slice none 0 0, .slice none 0 0] 28) = w2 at *
  clear htb hzl hZ1 hn1 H
  obtain ⟨n3, rfl⟩ := Int.eq_ofNat_of_zero_le q3
  obtain ⟨n4, rfl⟩ := Int.eq_ofNat_of_zero_le q4
  have H := Lib.hid ((listG plainG elemG n3 (by omega) .guest guest_any).at (.list .guest _) hS)
  go_upto_region 11 with (go_at_call 64; refine H.out.mono ?_; rintro e1 w1 ⟨hn1, ⟨a1, y1, h7, rfl, hN⟩ | ⟨gs, a7, v, h7, rfl, hvG, hS⟩⟩ <;> (have hT := hT.apart hn1 (hS.far htl); have cT := hT.cell; have fT := hT.frozen; try (obtain ⟨L, A, c, rfl, hL, hGo, hGr⟩ := hvG.guests)))
  case inl => exact ⟨rfl, hN, .inl ⟨_, _, by simp only [configP, top1P, hereP, mustP, endsP, PR.bnd, PR.ret, hm, hd2, if_true, h2, hd3, h3, hd, h4, h5, h6, Int.toNat_natCast, h7], rfl⟩⟩
  have hst := (Near.refl (fun i => i = tb) w1).setCell (p := ⟨tb, 1, none⟩) rfl (.slice A L.length c)
  have hGo := fun r hr => (hGo r hr).apart hT hst
  have hGr := hGr.apart hT (by decide) hst
  have hZ := (hZ.apart hn1 (hS.far hrl)).far (p := ⟨tb, 1, none⟩) hrt (.slice A L.length c)
  have hS := hS.set (q := ⟨tb, 1, none⟩) htl (.slice A L.length c)
  have hT := hT.set_ 1 (.slice A L.length c)
  clear cT fT hn1 H hst
  generalize World.setCell w1 ⟨tb, 1, none⟩ (.slice A L.length c) = w2 at *
  simp only [List.setIfInBounds_toArray, List.set_cons_succ, List.set_cons_zero] at hT
  have H := Lib.hid ((listC plainC elemC n4 (by omega) .channel oneC).at (.list .channel _) hS)
  go_upto_region 12 with (go_at_call 66; refine H.out.mono ?_; rintro e1 w1 ⟨hn1, ⟨a1, y1, h8, rfl, hN⟩ | ⟨cs, a8, v, h8, rfl, hvC, hS⟩⟩ <;> (have hT := hT.apart hn1 (hS.far htl); have cT := hT.cell; have fT := hT.frozen; try (obtain ⟨A2, c2, rfl, hCo, hCr⟩ := hvC.plain)))
  case inl => exact ⟨rfl, hN, .inl ⟨_, _, by simp only [configP, top1P, hereP, mustP, endsP, PR.bnd, PR.ret, hm, hd2, if_true, h2, hd3, h3, hd, h4, h5, h6, Int.toNat_natCast, h7, h8], rfl⟩⟩
  have hst := (Near.refl (fun i => i = tb) w1).setCell (p := ⟨tb, 2, none⟩) rfl (.slice A2 cs.length c2)
  have hGo := fun r hr => (plainG.near (hGo r hr) hn1 : GOwn p r w1).apart hT hst
  have hGr := (hGr.near hn1).apart hT (by decide) hst
  have hCr := hCr.apart hT (by decide) hst
  have hZ := (hZ.apart hn1 (hS.far hrl)).far (p := ⟨tb, 2, none⟩) hrt (.slice A2 cs.length c2)
  have hS := hS.set (q := ⟨tb, 2, none⟩) htl (.slice A2 cs.length c2)
  have hT := hT.set_ 2 (.slice A2 cs.length c2)
  clear cT fT hn1 H hst cP
  generalize World.setCell w1 ⟨tb, 2, none⟩ (.slice A2 cs.length c2) = w2 at *
  simp only [List.setIfInBounds_toArray, List.set_cons_succ, List.set_cons_zero] at hT
  -- the end
  have cP := hS.box.cell
  unfold Prs.cs at cP
  have hC := blk_regrown hS.box
  unfold Prs.cs at hC
  have hbl := hS.rows.hb
  have key : ∀ W, Below w2.heap.size w2 W → PSt p b B w a8 W ∧ Blk W tb 28 #[.int .u32 x6, .slice A L.length c, .slice A2 cs.length c2] ∧ Blk W rb 28 #[.int .u32 0, .slice none 0 0, .slice none 0 0] := fun W hW => ⟨hS.below hW, hT.kept hW, hZ.kept hW⟩
  by_cases hend : a8 = b.length
  case neg =>
    have hd5 : ((a8 : Int) == (p.n : Int)) = false := by
      rw [beq_eq_false_iff_ne, ← hbl]
      omega
    refine wp_name ?_
    intro w3 hw3
    subst hw3
    refine wp_region_tail_below 17 (by kernel_rfl) (by kernel_rfl) ?_
    simp only [List.take_succ_cons, List.take_zero, List.drop_succ_cons, List.drop_zero]
    repeat (quiet_step ((fail)))
    refine wpQuiet_nil ?_
    rintro w4 ⟨q, rfl⟩
    have hb4 := below_regrown w3 q.d q.os
    have hS := (key _ hb4).1
    generalize grow (redrawn w3 q.d) q.os = w4 at *
    go_wp2_with (go_at_call 42; refine (must_no _ _ _).mono ?_; rintro e1 w7 ⟨rfl, rfl⟩)
    exact ⟨rfl, hS.near, .inl ⟨_, _, by simp only [configP, top1P, hereP, mustP, endsP, PR.bnd, PR.ret, hm, hd2, if_true, h2, hd3, h3, hd, h4, h5, h6, Int.toNat_natCast, h7, h8, hend, if_false], rfl⟩⟩
  have hd5 : ((a8 : Int) == (p.n : Int)) = true := by
    rw [beq_iff_eq, ← hbl]
    omega
  refine wp_name ?_
  intro w3 hw3
  subst hw3
  refine wp_region_tail_below 17 (by kernel_rfl) (by kernel_rfl) ?_
  simp only [List.take_succ_cons, List.take_zero, List.drop_succ_cons, List.drop_zero]
  repeat (quiet_step ((fail)))
  refine wpQuiet_nil ?_
  rintro w4 ⟨q, rfl⟩
  have hb4 := below_regrown w3 q.d q.os
  obtain ⟨hS, hT, hZ⟩ := key _ hb4
  have hn4 := Near.of_below (fun i => i = p.g) hb4
  have hGo := fun r hr => (plainG.near (hGo r hr) hn4 : GOwn p r (grow (redrawn w3 q.d) q.os))
  have hGr := hGr.near hn4
  have hCr := hCr.near hn4
  clear key hb4 hn4 cP hC
  generalize grow (redrawn w3 q.d) q.os = w4 at *
  have cT := hT.cell
  have cZ := hZ.cell
  have fZ := hZ.frozen
  go_wp2_with (go_at_call 42; refine (must_yes _ _ _).mono ?_; rintro e1 w7 ⟨rfl, rfl⟩)
  have hS5 := ((hS.set (q := ⟨rb, 0, none⟩) hrl (.int .u32 x6)).set (q := ⟨rb, 1, none⟩) hrl (.slice A L.length c)).set (q := ⟨rb, 2, none⟩) hrl (.slice A2 cs.length c2)
  have hst : Near (fun i => i = rb) w4 (((w4.setCell ⟨rb, 0, none⟩ (.int .u32 x6)).setCell ⟨rb, 1, none⟩ (.slice A L.length c)).setCell ⟨rb, 2, none⟩ (.slice A2 cs.length c2)) :=
    (((Near.refl (fun i => i = rb) w4).setCell (p := ⟨rb, 0, none⟩) rfl (.int .u32 x6)).setCell (p := ⟨rb, 1, none⟩) rfl (.slice A L.length c)).setCell (p := ⟨rb, 2, none⟩) rfl (.slice A2 cs.length c2)
  have hGo := fun r hr => (hGo r hr).apart hZ hst
  have hGr := hGr.apart hZ (by decide) hst
  have hCr := hCr.apart hZ (by decide) hst
  refine bodyPost_ret (v := .agg #[.int .u32 x6, .slice A L.length c, .slice A2 cs.length c2]) (by simp [results, Try.results28, go_sem, cZ]) rfl ⟨hS5.near, .inr ⟨⟨x6, gs, cs⟩, _, _, by simp only [configP, top1P, hereP, mustP, endsP, PR.bnd, PR.ret, hm, hd2, if_true, h2, hd3, h3, hd, h4, h5, h6, Int.toNat_natCast, h7, h8, hend], rfl, ?_, hS5.box⟩⟩
  exact ⟨L, A, c, A2, c2, rfl, hL.symm, r6, hGo, hGr, hCo, hCr⟩
end Go.Proofs.Ytmhbpfclfffgkaa
