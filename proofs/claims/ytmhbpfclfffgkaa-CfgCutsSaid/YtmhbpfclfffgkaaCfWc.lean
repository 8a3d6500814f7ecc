/- Chapter 14: the writer's configuration; cfg.Put whole; walked. -/
import Derived.Test.YtmhbpfclfffgkaaCfWb
import Derived.Test.YtmhbpfclfffgkaaCfPc
namespace Go.Proofs.Ytmhbpfclfffgkaa
set_option linter.unusedVariables false
set_option linter.unusedSimpArgs false
open Go.RowKit Go.Sort


/-- The writer on its way in Put. -/
structure PWr (gc gp gw : Nat) (C : Array Value) (bs : List Int) (w0 w : World) : Prop where
  st : WSt gw gw bs w
  bc : Blk w gc 28 C
  bp : Blk w gp 88 #[.pointer (some ⟨gw, 0, none⟩)]
  wrt : Wrt gw gw w0 w
  lc : gc < gw
  lp : gw < gp
  le : gw < w.heap.size
section
variable {gc gp gw : Nat} {C : Array Value} {bs bs' : List Int} {w0 w w' : World}
theorem PWr.below (h : PWr gc gp gw C bs w0 w) (hb : Below w.heap.size w w') : PWr gc gp gw C bs w0 w' := ⟨h.st.below hb, h.bc.kept hb, h.bp.kept hb, h.wrt.trans (Wrt.of_below hb (by have := h.le; omega)), h.lc, h.lp, Nat.lt_of_lt_of_le h.le hb.size⟩
theorem PWr.step (h : PWr gc gp gw C bs w0 w) (hs : WSt gw gw bs' w') (hw : Wrt gw gw w w') : PWr gc gp gw C bs' w0 w' := ⟨hs, h.bc.wrt hw (by decide) (by have := h.lc; omega), h.bp.wrt hw (by decide) (by have := h.lp; omega), h.wrt.trans hw, h.lc, h.lp, Nat.lt_of_lt_of_le h.le hw.size⟩
end
theorem conf_rowB {w W : World} {B : Nat} {x : Cf} {A A2 : Option Addr} {c c2 : Nat} (h : CfR w B x A c A2 c2) (hW : Below B w W) {k : Nat} {g : Gs × Gp} (hk : x.gs[k]? = some g) : ∃ b o, A = some ⟨b, o, none⟩ ∧ b < B ∧ W.rangeAt b (o + k * 79) (gcells g) := by
  obtain ⟨hlt, hg⟩ := List.getElem?_eq_some_iff.1 hk
  obtain ⟨b, o, h1, h2, h3⟩ := (h.rg.below hW).range (fun y hy => gcells_len (h.og y hy).kl) hlt rfl
  rw [hg] at h3
  exact ⟨b, o, h1, h2, h3⟩
def cData (x : Cf) : CfD := ⟨x.ver, x.gs.map Prod.fst, x.cs⟩
theorem firstE_take : ∀ (l : List Gs) (k : Nat) (g : Gs), firstE (l.take k) = 0 → l[k]? = some g → gErr g ≠ 0 → firstE l = gErr g
  | [], k, g, _, h, _ => by simp at h
  | a :: l, 0, g, _, h, hg => by
    obtain rfl : a = g := by simpa using h
    unfold firstE
    rw [if_neg hg]
  | a :: l, k + 1, g, h, hk, hg => by
    simp only [List.take_succ_cons, firstE] at h ⊢
    by_cases ha : gErr a = 0
    · rw [if_pos ha] at h ⊢
      exact firstE_take l k g h (by simpa using hk) hg
    · rw [if_neg ha] at h
      exact absurd h ha
theorem firstE_snoc (l : List Gs) (g : Gs) (h : firstE l = 0) (hg : gErr g = 0) : firstE (l ++ [g]) = 0 := by
  induction l with
  | nil => simp [firstE, hg]
  | cons a l ih =>
    simp only [firstE, List.cons_append] at h ⊢
    by_cases ha : gErr a = 0
    · rw [if_pos ha] at h ⊢; exact ih h
    · rw [if_neg ha] at h; exact absurd h ha
theorem gerr_nm {g : Gs} (h : gErr g = 0) : g.nm.size ≤ 16 := by
  have hn : nameN (strB g.nm) = true := by
    rcases hb : nameN (strB g.nm) with _ | _
    · rw [gerr1 hb] at h; cases h
    · rfl
  unfold nameN at hn
  simp only [Bool.and_eq_true, decide_eq_true_eq, strB_len] at hn
  exact hn.2
def PutOk (x : Cf) : Prop := x.gs.length ≤ 20 ∧ x.cs.length ≤ 40 ∧ ∀ g ∈ x.gs, g.1.ws.length ≤ 20 ∧ g.1.ds.length ≤ 20 ∧ g.1.qs.length ≤ 70 ∧ g.1.ss.length ≤ 40 ∧ g.1.nm.size ≤ 100
set_option maxRecDepth 100000 in
set_option maxHeartbeats 8000000 in
theorem put1_any (gc gp gw : Nat) (x : Cf) (A : Option Addr) (c : Nat) (A2 : Option Addr) (c2 : Nat) (w : World) (hP : PWr gc gp gw #[.int .u32 x.ver, .slice A x.gs.length c, .slice A2 x.cs.length c2] [] w w) (hC : CfR w gc x A c A2 c2) (hf : PutOk x) :
    Calls Try.prog 41 #[.pointer (some ⟨gc, 0, none⟩), .pointer (some ⟨gp, 0, none⟩)] w fun e w' => Wrt gw gw w w' ∧ ((putE (cData x) ≠ 0 ∧ e = thrownC 0 (putE (cData x))) ∨ (putE (cData x) = 0 ∧ e = .returned (.tuple #[]) ∧ PWr gc gp gw #[.int .u32 x.ver, .slice A x.gs.length c, .slice A2 x.cs.length c2] (putB (cData x)) w w')) := by
  have HC := Lib.hid hC
  have HF := Lib.hid hf
  have cC := hP.bc.cell
  have hbd : x.gs.length ≤ 20 ∧ x.cs.length ≤ 40 := ⟨hf.1, hf.2.1⟩
  obtain ⟨nG, hnG⟩ : ∃ n, x.gs.length = n := ⟨_, rfl⟩
  obtain ⟨nC, hnC⟩ : ∃ n, x.cs.length = n := ⟨_, rfl⟩
  rw [hnG, hnC] at cC hbd
  have hP' := hP
  rw [hnG, hnC] at hP' ⊢
  have HnG := Lib.hid hnG
  have HnC := Lib.hid hnC
  have HE := Lib.hid (show ∀ h : ¬ (1 ≤ nG ∧ nG ≤ 16 ∧ nC ≤ 32), putE (cData x) = 142 from fun h => by unfold putE cData; simp only [List.length_map]; rw [hnG, hnC, if_pos h])
  clear hC hf hP hnG hnC
  by_cases z1 : 1 ≤ nG
  case neg =>
    have e1 : decide ((1 : Int) ≤ (nG : Int)) = false := decide_eq_false (by omega)
    have HE := Lib.hid (HE.out (fun h => z1 h.1))
    clear z1
    go_enter Try.func41, Try.ntmps41
    go_wp2_with (go_at_call 42; refine (must_no _ _ _).mono ?_; rintro e1 w14 ⟨rfl, rfl⟩)
    exact ⟨rfl, hP'.wrt, .inl ⟨by rw [HE.out]; decide, by rw [HE.out]⟩⟩
  have e1 : decide ((1 : Int) ≤ (nG : Int)) = true := decide_eq_true (by omega)
  by_cases z2 : nG ≤ 16
  case neg =>
    have e2 : decide ((nG : Int) ≤ 16) = false := decide_eq_false (by omega)
    have HE := Lib.hid (HE.out (fun h => z2 h.2.1))
    clear z2
    go_enter Try.func41, Try.ntmps41
    go_wp2_with (go_at_call 42; refine (must_no _ _ _).mono ?_; rintro e1 w14 ⟨rfl, rfl⟩)
    exact ⟨rfl, hP'.wrt, .inl ⟨by rw [HE.out]; decide, by rw [HE.out]⟩⟩
  have e2 : decide ((nG : Int) ≤ 16) = true := decide_eq_true (by omega)
  by_cases z3 : nC ≤ 32
  case neg =>
    have e3 : decide ((nC : Int) ≤ 32) = false := decide_eq_false (by omega)
    have HE := Lib.hid (HE.out (fun h => z3 h.2.2))
    clear z3
    go_enter Try.func41, Try.ntmps41
    go_wp2_with (go_at_call 42; refine (must_no _ _ _).mono ?_; rintro e1 w14 ⟨rfl, rfl⟩)
    exact ⟨rfl, hP'.wrt, .inl ⟨by rw [HE.out]; decide, by rw [HE.out]⟩⟩
  have e3 : decide ((nC : Int) ≤ 32) = true := decide_eq_true (by omega)
  go_enter Try.func41, Try.ntmps41
  go_upto_region 1 with (go_at_call 42; refine (must_yes _ _ _).mono ?_; rintro e1 w14 ⟨rfl, rfl⟩)
  clear e1 e2 e3
  -- magic
  have hb1 := bal (Below.refl w.heap.size w) (.cells #[.int .u32 1111705159] 24)
  have hP1 := hP'.below hb1
  have hR1 := Rd.fresh w #[.int .u32 1111705159] 24 1 1 _ rfl rfl
  have H1 := Lib.hid (wfour_any gw gw [] [1111705159] _ 1 1 _ hP1.st rfl (by decide) (by decide) (by decide) hR1)
  have cP := hP'.bp.cell
  go_upto_region 2 with (go_at_call 43; refine H1.out.mono ?_; rintro e1 w2 ⟨rfl, hst, hwr⟩)
  have hP2 := hP1.step hst hwr
  clear hb1 hP1 hR1 H1 hst hwr cP cC
  have hb3 := bal (Below.refl w2.heap.size w2) (.cells #[.int .i64 1, .int .i64 nG, .int .i64 nC, .int .i64 0] 3)
  have hP3 := hP2.below hb3
  have hR3 := Rd.fresh w2 #[.int .i64 1, .int .i64 nG, .int .i64 nC, .int .i64 0] 3 4 1 _ rfl rfl
  have H3 := Lib.hid (wtwo_any gw gw ([] ++ [1111705159].flatMap (bytesN 4 false)) [1, (nG : Int), nC, 0] _ 4 4 _ hP3.st rfl (by decide) (by decide) (by
    intro x hx
    simp only [List.mem_cons, List.not_mem_nil, or_false] at hx
    rcases hx with rfl | rfl | rfl | rfl <;> omega) (.inr ⟨w2.heap.size, 0, _, 3, (0, 0), rfl, heap_alloc_new w2 _, by decide, by have := hP2.le; omega⟩) hR3)
  have cP := hP2.bp.cell
  have cC := hP2.bc.cell
  go_upto_region 3 with (go_at_call 44; refine H3.out.mono ?_; rintro e1 w4 ⟨rfl, hst, hwr⟩)
  have hP4 := hP3.step hst hwr
  clear hb3 hP3 hR3 H3 hst hwr cP cC
  have hb5 := bal (Below.refl w4.heap.size w4) (.cells #[.int .u32 x.ver] 24)
  have hP5 := hP4.below hb5
  have hR5 := Rd.fresh w4 #[.int .u32 x.ver] 24 1 1 _ rfl rfl
  have H5 := Lib.hid (wfour_any gw gw (([] ++ [1111705159].flatMap (bytesN 4 false)) ++ [1, (nG : Int), nC, 0].flatMap (bytesN 2 false)) [x.ver] _ 1 1 _ hP5.st rfl (by simp only [List.length_append, bytesNl_len, List.length_cons, List.length_nil]; omega) (by decide) (by
    intro y hx
    simp only [List.mem_cons, List.not_mem_nil, or_false] at hx
    subst hx
    exact HC.out.ver) hR5)
  have cP := hP4.bp.cell
  have cC := hP4.bc.cell
  go_upto_region 4 with (go_at_call 43; refine H5.out.mono ?_; rintro e1 w6 ⟨rfl, hst, hwr⟩)
  have hP6 := hP5.step hst hwr
  clear hb5 hP5 hR5 H5 hst hwr cP cC hP' hP2 hP4
  obtain ⟨b1, hb1⟩ : ∃ b, ((([] : List Int) ++ [1111705159].flatMap (bytesN 4 false)) ++ [1, (nG : Int), nC, 0].flatMap (bytesN 2 false)) ++ [x.ver].flatMap (bytesN 4 false) = b := ⟨_, rfl⟩
  rw [hb1] at hP6
  have HB1 := Lib.hid (show topB x.ver nG nC = b1 from hb1)
  have HL1 := Lib.hid (show b1.length = 16 by rw [← hb1]; simp only [List.length_append, bytesNl_len]; rfl)
  clear hb1
  have cC := hP6.bc.cell
  have HP6 := Lib.hid hP6
  clear hP6
  have hzs : Try.zeroCells70.size = 79 := by kernel_rfl
  go_wp2_with fail
  clear cC
  go_loopw [3, 45] (fun _ iv wr => ∃ k : Nat, k ≤ nG ∧ iv = .int .i64 k ∧ Hid (firstE ((x.gs.map Prod.fst).take k) = 0 ∧ PWr gc gp gw #[.int .u32 x.ver, .slice A nG c, .slice A2 nC c2] (b1 ++ ((x.gs.map Prod.fst).take k).flatMap gB) w wr ∧ (((x.gs.map Prod.fst).take k).flatMap gB).length ≤ 2000 * k)) (fun _ iv _ => nG - (intOf iv).toNat)
  case atStart => exact ⟨0, by omega, rfl, Lib.hid ⟨rfl, by simpa using HP6.out, by simp⟩⟩
  case round =>
    obtain ⟨k, hk, rfl, hh⟩ := hrel
    by_cases hlt : k < nG
    · have hq : decide ((k : Int) < (nG : Int)) = true := decide_eq_true (by omega)
      obtain ⟨hfe, hPr, hlk⟩ := hh.out
      obtain ⟨g, hg⟩ : ∃ g, x.gs[k]? = some g := ⟨_, List.getElem?_eq_getElem (by rw [HnG.out]; exact hlt)⟩
      have hgm : (x.gs.map Prod.fst)[k]? = some g.1 := by rw [List.getElem?_map, hg]; rfl
      have hmem := List.mem_of_getElem? hg
      have hbw : Below gc w wr := hPr.wrt.below.mono (by have := hPr.lc; omega)
      obtain ⟨b0, o0, rfl, hb0, hrow⟩ := conf_rowB HC.out hbw hg
      have hog := HC.out.og g hmem
      have hl79 := gcells_len hog.kl
      have hi79 : (Try.prog.info? 70).map (·.size) = some (gcells g).length := by rw [hl79]; kernel_rfl
      have hZ := Blk.new wr 70 Try.zeroCells70
      have hbZ := bal (Below.refl wr.heap.size wr) (.cells Try.zeroCells70 70)
      have hPZ := hPr.below hbZ
      have HPr := Lib.hid hPr
      have HGm := Lib.hid hgm
      have HFe := Lib.hid hfe
      have HLk := Lib.hid hlk
      have HOg := Lib.hid hog
      have HMem := Lib.hid (HF.out.2.2 g hmem)
      have hlew := hPr.le
      clear hh hfe hPr hlk hg hgm hmem hbw hog
      go_upto_region 7 with (first
        | (refine wpList_load_mid rfl 70 (.tmp 47) rfl b0 (o0 + k * 79) (by rfl) (gcells g) _ hrow Try.underlying70 rfl hi79 ?_)
        | (refine wpList_store_blk rfl 70 (.tmp 3) (.tmp 48) rfl wr.heap.size 0 (gcells g).toArray (by rfl) (by rfl) hZ (by rw [List.size_toArray, hl79, hzs]; decide) (by rw [List.size_toArray]; exact hi79) (gcells_one _) (setAt_all _ _ (by rw [hzs]; simpa using hl79)) ?_; intro w7 hX7 hb7 hz7 hh7))
      have hP7 := HPr.out.below (hbZ.trans (hb7 _ (Nat.le_refl _)))
      have hX7 : Blk w7 wr.heap.size 70 (gcells g).toArray := by simpa using hX7
      have hXr := blk_range hX7
      have cP := hP7.bp.cell
      have hlen : (b1 ++ ((x.gs.map Prod.fst).take k).flatMap gB).length ≤ 50000 := by
        have := HLk.out
        rw [List.length_append, HL1.out]
        omega
      have HGu := wguest_any gw gw _ g w7 hP7.st (by have := hP7.le; omega) ((HOg.out.below (hP7.wrt.below.mono (by have := hP7.lc; omega))).more (by have := hP7.lc; omega)) hlen HMem.out
      have HP7 := Lib.hid hP7
      clear hPZ hZ hbZ hb7 hz7 hh7 hrow hX7 hP7
      obtain ⟨E, hEe⟩ : ∃ E, gErr g.1 = E := ⟨_, rfl⟩
      rw [hEe] at HGu
      have HEe := Lib.hid hEe
      clear hEe
      by_cases hE0 : E = 0
      case neg =>
        have HGu := Lib.hid (HGu.mono (R' := fun e w' => e = thrownC 0 E ∧ Wrt gw gw w7 w') fun e w' ⟨h1, h2⟩ => by
          rcases h2 with ⟨_, h⟩ | ⟨h, _⟩
          · exact ⟨h, h1⟩
          · exact absurd h hE0)
        have hput : putE (cData x) = E := by
          have hfe := firstE_take _ k g.1 HFe.out HGm.out (by rw [HEe.out]; exact hE0)
          rw [HEe.out] at hfe
          unfold putE cData
          simp only [List.length_map]
          rw [HnG.out, HnC.out, if_neg (fun h => h ⟨z1, z2, z3⟩), hfe, if_pos hE0]
        have HPut := Lib.hid hput
        clear hput
        go_wp2_with (first
          | (refine wpList_load_mid rfl 70 (.tmp 3) rfl wr.heap.size 0 (by rfl) (gcells g) _ hXr Try.underlying70 rfl hi79 ?_)
          | (go_at_call 45; refine HGu.out.mono ?_; rintro e1 w8 ⟨rfl, hwr⟩))
        exact ⟨rfl, HP7.out.wrt.trans hwr, .inl ⟨by rw [HPut.out]; exact hE0, by rw [HPut.out]⟩⟩
      subst hE0
      have HGu := Lib.hid (HGu.mono (R' := fun e w' => e = .returned (.tuple #[]) ∧ Wrt gw gw w7 w' ∧ WSt gw gw ((b1 ++ ((x.gs.map Prod.fst).take k).flatMap gB) ++ gB g.1) w') fun e w' ⟨h1, h2⟩ => by
        rcases h2 with ⟨h, _⟩ | ⟨_, h, h3⟩
        · exact absurd rfl h
        · exact ⟨h, h1, h3⟩)
      go_wp2_with (first
        | (refine wpList_load_mid rfl 70 (.tmp 3) rfl wr.heap.size 0 (by rfl) (gcells g) _ hXr Try.underlying70 rfl hi79 ?_)
        | (go_at_call 45; refine HGu.out.mono ?_; rintro e1 w8 ⟨rfl, hwr, hst⟩))
      go_roundw
      case rel =>
        have hkl : k < (x.gs.map Prod.fst).length := (List.getElem?_eq_some_iff.1 HGm.out).1
        have hgk : (x.gs.map Prod.fst)[k] = g.1 := (List.getElem?_eq_some_iff.1 HGm.out).2
        have ht : (x.gs.map Prod.fst).take (k + 1) = (x.gs.map Prod.fst).take k ++ [g.1] := by rw [List.take_succ_eq_append_getElem hkl, hgk]
        refine ⟨k + 1, by omega, by go_num, Lib.hid ⟨by rw [ht]; exact firstE_snoc _ _ HFe.out HEe.out, ?_, ?_⟩⟩
        · have h := HP7.out.step hst hwr
          rw [ht, List.flatMap_append, ← List.append_assoc]
          simpa using h
        · rw [ht, List.flatMap_append, List.length_append]
          have hn16 : g.1.nm.size ≤ 16 := gerr_nm HEe.out
          have := gB_len hn16 HOg.out.kl
          have h2 := HMem.out
          have h3 := HLk.out
          simp only [List.flatMap_cons, List.flatMap_nil, List.append_nil]
          omega
      case measure => simp [intOf]; omega
    · obtain rfl : k = nG := by omega
      have hq : decide ((k : Int) < (k : Int)) = false := decide_eq_false (by omega)
      obtain ⟨hfe, hPr, hlk⟩ := hh.out
      rw [List.take_of_length_le (by rw [List.length_map, HnG.out]; exact Nat.le_refl _)] at hfe hPr hlk
      obtain ⟨b2, hb2'⟩ : ∃ b, b1 ++ (x.gs.map Prod.fst).flatMap gB = b := ⟨_, rfl⟩
      have HL2 := Lib.hid (show b2.length ≤ 41000 by rw [← hb2', List.length_append, HL1.out]; omega)
      rw [hb2'] at hPr
      have HB2 := Lib.hid hb2'
      have HFe := Lib.hid hfe
      have HPr0 := Lib.hid hPr
      have cC := hPr.bc.cell
      clear hh hfe hPr hlk hb2'
      go_upto_region 9 with (fail)
      clear hq
      go_wp2_with fail
      clear cC
      go_loopw [5, 7, 56] (fun _ _ iv wr => ∃ j : Nat, j ≤ nC ∧ iv = .int .i64 j ∧ Hid ((x.cs.take j).all chOk = true ∧ PWr gc gp gw #[.int .u32 x.ver, .slice A k c, .slice A2 nC c2] (b2 ++ (x.cs.take j).flatMap chB) w wr)) (fun _ _ iv _ => nC - (intOf iv).toNat)
      case atStart => exact ⟨0, by omega, rfl, Lib.hid ⟨rfl, by simpa using HPr0.out⟩⟩
      case round =>
        obtain ⟨j, hj, rfl, hh⟩ := hrel
        by_cases hlt : j < nC
        · have hq : decide ((j : Int) < (nC : Int)) = true := decide_eq_true (by omega)
          have hkl2 : j < x.cs.length := by rw [HnC.out]; exact hlt
          have hPr := hh.out.2
          have hbw : Below gc w wr := hPr.wrt.below.mono (by have := hPr.lc; omega)
          obtain ⟨b0, o0, rfl, hb0', hrow⟩ := (HC.out.rc.below hbw).row (enc := encCh) (fun _ => rfl) hkl2 rfl
          have d0 := hrow 0 (by decide)
          have d1 := hrow 1 (by decide)
          have d2 := hrow 2 (by decide)
          have d3 := hrow 3 (by decide)
          have d4 := hrow 4 (by decide)
          have d5 := hrow 5 (by decide)
          have d6 := hrow 6 (by decide)
          have d7 := hrow 7 (by decide)
          simp only [encCh, List.getElem?_cons_zero, List.getElem?_cons_succ, Nat.add_zero] at d0 d1 d2 d3 d4 d5 d6 d7
          have hxo := HC.out.oc _ (List.getElem_mem hkl2)
          have htk : (x.cs.take (j + 1)).flatMap chB = (x.cs.take j).flatMap chB ++ chB x.cs[j] := by rw [List.take_succ_eq_append_getElem hkl2, List.flatMap_append]; simp
          have hta : (x.cs.take (j + 1)).all chOk = ((x.cs.take j).all chOk && chOk x.cs[j]) := by rw [List.take_succ_eq_append_getElem hkl2, List.all_append]; simp
          have hlen : (b2 ++ (x.cs.take j).flatMap chB).length ≤ 43000 := by have := HL2.out; rw [List.length_append, flat_len chB_len, List.length_take]; omega
          have hbad : chOk x.cs[j] = false → putE (cData x) = 144 := fun h => by
            unfold putE cData
            simp only [List.length_map]
            rw [HnG.out, HnC.out, if_neg (fun h => h ⟨z1, z2, z3⟩), HFe.out, if_neg (by decide), if_pos]
            rw [← Bool.not_eq_true, List.all_eq_true]
            intro h2
            have := h2 _ (List.getElem_mem hkl2)
            rw [h] at this
            cases this
          have HTk := Lib.hid htk
          have HTa := Lib.hid hta
          have HBad := Lib.hid hbad
          have hHall := Lib.hid hh.out.1
          generalize x.cs[j] = y at *
          generalize hbk : b2 ++ (x.cs.take j).flatMap chB = bk at *
          have HBk := Lib.hid hbk
          clear hbk
          obtain ⟨pa, sz, ⟨g0, m0, i0⟩, ⟨g1, m1, i1⟩⟩ := y
          simp only at d0 d1 d2 d3 d4 d5 d6 d7
          obtain ⟨ho1, ho2, ⟨_, _, ho3⟩, ⟨_, _, ho4⟩⟩ := hxo
          clear hh htk hta hbad hrow hbw
          have hbA := bal (Below.refl wr.heap.size wr) (.cells #[.int .u64 pa, .int .u64 sz, .int .i64 g0, .int .i64 m0, .int .u64 i0, .int .i64 g1, .int .i64 m1, .int .u64 i1] 77)
          have hXA := Blk.new wr 77 #[.int .u64 pa, .int .u64 sz, .int .i64 g0, .int .i64 m0, .int .u64 i0, .int .i64 g1, .int .i64 m1, .int .u64 i1]
          have hPA := hPr.below hbA
          have hgw := hPr.le
          go_upto_region 12 with (fail)
          clear d0 d1 d2 d3 d4 d5 d6 d7
          have hxA := hXA.lt
          have hxne : wr.heap.size ≠ gw := by omega
          generalize wr.heap.size = xb at *
          generalize wr.alloc (.cells #[.int .u64 pa, .int .u64 sz, .int .i64 g0, .int .i64 m0, .int .u64 i0, .int .i64 g1, .int .i64 m1, .int .u64 i1] 77) = wA at *
          have hbB := bal (Below.refl wA.heap.size wA) (.cells #[.int .u64 pa, .int .u64 sz] 61)
          have hPB := hPA.below hbB
          have hXB := hXA.kept hbB
          have hRB := Rd.fresh wA #[.int .u64 pa, .int .u64 sz] 61 2 1 _ rfl rfl
          have HB8 := Lib.hid (weight_any gw gw bk [pa, sz] _ 2 2 _ hPB.st rfl (by omega) (by decide) (by
            intro x hx
            simp only [List.mem_cons, List.not_mem_nil, or_false] at hx
            rcases hx with rfl | rfl
            · exact ho1
            · exact ho2) hRB)
          have cA := hXA.cell
          have cP := hPA.bp.cell
          have HPB := Lib.hid hPB
          have HXB := Lib.hid hXB
          clear hbA hPr hbB hPB hXB hRB hxA
          go_upto_region 13 with (go_at_call 46; refine HB8.out.mono ?_; rintro e1 wC ⟨rfl, hstC, hwrC⟩)
          have hXC := HXB.out.wrt hwrC (by decide) hxne
          have hPC := HPB.out.step hstC hwrC
          have cC := hXC.cell
          clear cA cP HB8 HXB HPB hXA hPA hstC hwrC
          obtain ⟨bh, hbh⟩ : ∃ b, bk ++ [pa, sz].flatMap (bytesN 8 false) = b := ⟨_, rfl⟩
          have HLh := Lib.hid (show bh.length ≤ 44000 by rw [← hbh, List.length_append, bytesNl_len]; simp only [List.length_cons, List.length_nil]; omega)
          rw [hbh] at hPC
          have HBh := Lib.hid hbh
          have HPC := Lib.hid hPC
          clear hbh hPC hlen
          go_wp2_with fail
          clear cC hXC
          go_loopw [7, 69] (fun _ iv wr => (iv = .int .i64 0 ∧ Hid (PWr gc gp gw #[.int .u32 x.ver, .slice A k c, .slice (some ⟨b0, o0, none⟩) nC c2] bh w wr)) ∨ (iv = .int .i64 1 ∧ Hid (enOk ⟨g0, m0, i0⟩ = true ∧ PWr gc gp gw #[.int .u32 x.ver, .slice A k c, .slice (some ⟨b0, o0, none⟩) nC c2] (bh ++ enB ⟨g0, m0, i0⟩) w wr)) ∨
            (iv = .int .i64 2 ∧ Hid (enOk ⟨g0, m0, i0⟩ = true ∧ enOk ⟨g1, m1, i1⟩ = true ∧ PWr gc gp gw #[.int .u32 x.ver, .slice A k c, .slice (some ⟨b0, o0, none⟩) nC c2] ((bh ++ enB ⟨g0, m0, i0⟩) ++ enB ⟨g1, m1, i1⟩) w wr))) (fun _ iv _ => 2 - (intOf iv).toNat)
          case atStart => exact .inl ⟨rfl, HPC⟩
          case round =>
            rcases hrel with ⟨rfl, hp⟩ | ⟨rfl, hp⟩ | ⟨rfl, hp⟩
            · have hPr := hp.out
              have HLq := HLh
              clear hp
              have hix : ∀ W : World, (Instr.index 75 (.agg #[.int .i64 g0, .int .i64 m0, .int .u64 i0, .int .i64 g1, .int .i64 m1, .int .u64 i1]) (.int .i64 0)).run Try.prog W = .ok (.agg #[.int .i64 g0, .int .i64 m0, .int .u64 i0]) W := fun W => by kernel_rfl
              have hbA := bal (Below.refl wr.heap.size wr) (.cells #[.int .i64 g0, .int .i64 m0, .int .u64 i0] 74)
              have hXA := Blk.new wr 74 #[.int .i64 g0, .int .i64 m0, .int .u64 i0]
              have hPA := hPr.below hbA
              have hgw : gw < wr.heap.size := hPr.le
              obtain ⟨xb, hxb⟩ : ∃ b, wr.heap.size = b := ⟨_, rfl⟩
              go_upto_region 16 with (fail)
              clear hix
              rw [hxb] at hXA hgw
              generalize wr.alloc (.cells #[.int .i64 g0, .int .i64 m0, .int .u64 i0] 74) = wA at *
              clear hbA hxb hPr
              have cP := hPA.bp.cell
              have hS1 : (fun W' : World => (∀ i, W'.cell? ⟨xb, i, none⟩ = (#[.int .i64 g0, .int .i64 m0, .int .u64 i0] : Array Value)[i]?) ∧ W'.cell? ⟨gp, 0, none⟩ = some (.pointer (some ⟨gw, 0, none⟩))) wA.drew := ⟨hXA.drew.cell, hPA.bp.drew.cell 0⟩
              refine wp_region_held_drew (S := fun W' : World => (∀ i, W'.cell? ⟨xb, i, none⟩ = (#[.int .i64 g0, .int .i64 m0, .int .u64 i0] : Array Value)[i]?) ∧ W'.cell? ⟨gp, 0, none⟩ = some (.pointer (some ⟨gw, 0, none⟩))) (by kernel_rfl) hS1 (fun hHeld => ?_)
              clear hHeld
              refine wpAnyH_take (i := 0) (v := ?vq00) rfl (by kernel_rfl) (by kernel_rfl) (by kernel_rfl) (fun _ _ _ h => h) (Or.inl ⟨by kernel_rfl, ?hyq00⟩) hS1 ?restq00
              case hyq00 =>
                intro w hSw
                (try dsimp only at hSw)
                go_simp
                first | done | with_reducible rfl
              (try simp only [List.getElem_toArray, List.getElem_cons_succ, List.getElem_cons_zero, Act.put, List.setIfInBounds_toArray, List.set_cons_zero, List.set_cons_succ])
              refine wpAnyH_take (i := 1) (v := ?vq01) rfl (by kernel_rfl) (by kernel_rfl) (by kernel_rfl) (fun _ _ _ h => h) (Or.inl ⟨by kernel_rfl, ?hyq01⟩) hS1 ?restq01
              case hyq01 =>
                intro w hSw
                clear hSw
                go_simp
                first | done | with_reducible rfl
              (try simp only [List.getElem_toArray, List.getElem_cons_succ, List.getElem_cons_zero, Act.put, List.setIfInBounds_toArray, List.set_cons_zero, List.set_cons_succ])
              refine wpAnyH_take (i := 2) (v := ?vq02) rfl (by kernel_rfl) (by kernel_rfl) (by kernel_rfl) (fun _ _ _ h => h) (Or.inl ⟨by kernel_rfl, ?hyq02⟩) hS1 ?restq02
              case hyq02 =>
                intro w hSw
                (try dsimp only at hSw)
                go_simp
                first | done | with_reducible rfl
              (try simp only [List.getElem_toArray, List.getElem_cons_succ, List.getElem_cons_zero, Act.put, List.setIfInBounds_toArray, List.set_cons_zero, List.set_cons_succ])
              refine wpAnyH_take (i := 4) (v := ?vq04) rfl (by kernel_rfl) (by kernel_rfl) (by kernel_rfl) (fun _ _ _ h => h) (Or.inl ⟨by kernel_rfl, ?hyq04⟩) hS1 ?restq04
              case hyq04 =>
                intro w hSw
                clear hSw
                go_simp
                first | done | with_reducible rfl
              (try simp only [List.getElem_toArray, List.getElem_cons_succ, List.getElem_cons_zero, Act.put, List.setIfInBounds_toArray, List.set_cons_zero, List.set_cons_succ])
              refine wpAnyH_take (i := 5) (v := ?vq05) rfl (by kernel_rfl) (by kernel_rfl) (by kernel_rfl) (fun _ _ _ h => h) (Or.inl ⟨by kernel_rfl, ?hyq05⟩) hS1 ?restq05
              case hyq05 =>
                intro w hSw
                (try dsimp only at hSw)
                go_simp
                first | done | with_reducible rfl
              (try simp only [List.getElem_toArray, List.getElem_cons_succ, List.getElem_cons_zero, Act.put, List.setIfInBounds_toArray, List.set_cons_zero, List.set_cons_succ])
              refine wpAnyH_call (i := 3) (by kernel_rfl) rfl (by kernel_rfl) fun K hK => ?_
              simp only [List.getElem_toArray, List.getElem_cons_succ, List.getElem_cons_zero]
              go_simp
              by_cases hbn : inB g0 65535 = true
              case neg =>
                rw [Bool.not_eq_true] at hbn
                have HE := Lib.hid (HBad.out (by simp only [chOk, enOk, hbn, Bool.false_and, Bool.and_false]))
                go_at_call 47
                refine (small_no g0 65535 _ (by intro h; unfold inB at hbn; rw [decide_eq_true h.1, decide_eq_true h.2] at hbn; cases hbn)).mono ?_
                rintro e1 wD ⟨rfl, rfl⟩
                dsimp only [thrownC]
                go_wp2_with fail
                exact ⟨rfl, (hPA.below (Below.refl _ _).drew).wrt, .inl ⟨by rw [HE.out]; decide, by rw [HE.out]⟩⟩
              have hpn : 0 ≤ g0 ∧ g0 ≤ 65535 := by unfold inB at hbn; simpa using hbn
              go_at_call 47
              refine (small_yes g0 65535 _ hpn.1 hpn.2).mono ?_
              rintro e1 wD ⟨rfl, rfl⟩
              refine hK.out _ _ hS1 ?_
              clear hK K
              (try simp only [List.getElem_toArray, List.getElem_cons_succ, List.getElem_cons_zero, Act.put, List.setIfInBounds_toArray, List.set_cons_zero, List.set_cons_succ])
              refine wpAnyH_call (i := 6) (by kernel_rfl) rfl (by kernel_rfl) fun K hK => ?_
              simp only [List.getElem_toArray, List.getElem_cons_succ, List.getElem_cons_zero]
              go_simp
              by_cases hbc : inB m0 7 = true
              case neg =>
                rw [Bool.not_eq_true] at hbc
                have HE := Lib.hid (HBad.out (by simp only [chOk, enOk, hbc, Bool.false_and, Bool.and_false]))
                go_at_call 47
                refine (small_no m0 7 _ (by intro h; unfold inB at hbc; rw [decide_eq_true h.1, decide_eq_true h.2] at hbc; cases hbc)).mono ?_
                rintro e1 wD ⟨rfl, rfl⟩
                dsimp only [thrownC]
                go_wp2_with fail
                exact ⟨rfl, (hPA.below (Below.refl _ _).drew).wrt, .inl ⟨by rw [HE.out]; decide, by rw [HE.out]⟩⟩
              have hpc : 0 ≤ m0 ∧ m0 ≤ 7 := by unfold inB at hbc; simpa using hbc
              go_at_call 47
              refine (small_yes m0 7 _ hpc.1 hpc.2).mono ?_
              rintro e1 wD ⟨rfl, rfl⟩
              refine hK.out _ _ hS1 ?_
              clear hK K
              (try simp only [List.getElem_toArray, List.getElem_cons_succ, List.getElem_cons_zero, Act.put, List.setIfInBounds_toArray, List.set_cons_zero, List.set_cons_succ])
              refine wpAnyH_call (i := 7) (by kernel_rfl) rfl (by kernel_rfl) fun K hK => ?_
              simp only [List.getElem_toArray, List.getElem_cons_succ, List.getElem_cons_zero]
              go_simp
              have hbB : Below wA.heap.size wA (wA.alloc (.cells #[.int .i64 g0, .int .i64 m0] 3)).drew := (bal (Below.refl _ _) _).drew
              have hXB := hXA.kept hbB
              have hPB := hPA.below hbB
              have hRB : Rd (wA.alloc (.cells #[.int .i64 g0, .int .i64 m0] 3)).drew (wA.alloc (.cells #[.int .i64 g0, .int .i64 m0] 3)).drew.heap.size 1 (some ⟨wA.heap.size, 0, none⟩) 2 ([g0, m0].flatMap encI) := Rd.drew (Rd.fresh wA #[.int .i64 g0, .int .i64 m0] 3 2 1 _ rfl rfl)
              have hnI : ((wA.alloc (.cells #[.int .i64 g0, .int .i64 m0] 3)).drew).heap[wA.heap.size]? = some (.cells #[.int .i64 g0, .int .i64 m0] 3 (0, 0)) := heap_alloc_new wA _
              have hgA : gw < wA.heap.size := hPA.le
              have hxA := hXA.lt
              refine hK.out _ _ ⟨hXB.cell, hPB.bp.cell 0⟩ ?_
              clear hK K
              (try simp only [List.getElem_toArray, List.getElem_cons_succ, List.getElem_cons_zero, Act.put, List.setIfInBounds_toArray, List.set_cons_zero, List.set_cons_succ])
              generalize (wA.alloc (.cells #[.int .i64 g0, .int .i64 m0] 3)).drew = wB at *
              refine wpAnyH_call (i := 8) (by kernel_rfl) rfl (by kernel_rfl) fun K hK => ?_
              simp only [List.getElem_toArray, List.getElem_cons_succ, List.getElem_cons_zero]
              go_simp
              go_at_call 44
              refine (wtwo_any gw gw _ [g0, m0] _ 2 2 wB hPB.st rfl (by have := HLq.out; omega) (by decide) (by
                intro x hx
                simp only [List.mem_cons, List.not_mem_nil, or_false] at hx
                rcases hx with rfl | rfl <;> omega) (.inr ⟨wA.heap.size, 0, _, 3, (0, 0), rfl, hnI, by decide, by omega⟩) hRB).mono ?_
              rintro e1 wC ⟨rfl, hstC, hwrC⟩
              have hXC := hXB.wrt hwrC (by decide) (by omega)
              have hPC := hPB.step hstC hwrC
              refine hK.out _ _ ⟨hXC.cell, hPC.bp.cell 0⟩ ?_
              clear hK K
              (try simp only [List.getElem_toArray, List.getElem_cons_succ, List.getElem_cons_zero, Act.put, List.setIfInBounds_toArray, List.set_cons_zero, List.set_cons_succ])
              refine wpAnyH_done (by kernel_rfl) ?_ _
              have HEn := Lib.hid (show enOk ⟨g0, m0, i0⟩ = true by unfold enOk; simp only; rw [hbn, hbc]; rfl)
              clear hS1 hbB hXB hPB hRB hnI hgA hxA hstC hwrC hPA hXA hbn hbc cP
              have cC := hXC.cell
              have cP := hPC.bp.cell
              have hbD := bal (Below.refl wC.heap.size wC) (.cells #[.int .u64 i0] 61)
              have hPD := hPC.below hbD
              have hRD := Rd.fresh wC #[.int .u64 i0] 61 1 1 _ rfl rfl
              have HD4 := Lib.hid (weight_any gw gw _ [i0] _ 1 1 _ hPD.st rfl (by have := HLq.out; rw [List.length_append, bytesNl_len]; simp only [List.length_cons, List.length_nil]; omega) (by decide) (by
                intro x hx
                simp only [List.mem_cons, List.not_mem_nil, or_false] at hx
                subst hx
                exact ho3) hRD)
              have HPD := Lib.hid hPD
              clear hbD hPD hRD
              go_wp2_with (go_at_call 46; refine HD4.out.mono ?_; rintro e1 wE ⟨rfl, hstE, hwrE⟩)
              go_roundw
              case rel =>
                refine .inr (.inl ⟨by go_num, Lib.hid ⟨HEn.out, ?_⟩⟩)
                have h := HPD.out.step hstE hwrE
                rw [List.append_assoc] at h
                exact h
              case measure => simp [intOf]
            · obtain ⟨hE0, hPr⟩ := hp.out
              have HLq := Lib.hid (show (bh ++ enB ⟨g0, m0, i0⟩).length ≤ 44100 by have := HLh.out; simp only [List.length_append, enB, bytesNl_len, List.length_cons, List.length_nil]; omega)
              have HE0 := Lib.hid hE0
              clear hp hE0
              have hix : ∀ W : World, (Instr.index 75 (.agg #[.int .i64 g0, .int .i64 m0, .int .u64 i0, .int .i64 g1, .int .i64 m1, .int .u64 i1]) (.int .i64 1)).run Try.prog W = .ok (.agg #[.int .i64 g1, .int .i64 m1, .int .u64 i1]) W := fun W => by kernel_rfl
              have hbA := bal (Below.refl wr.heap.size wr) (.cells #[.int .i64 g1, .int .i64 m1, .int .u64 i1] 74)
              have hXA := Blk.new wr 74 #[.int .i64 g1, .int .i64 m1, .int .u64 i1]
              have hPA := hPr.below hbA
              have hgw : gw < wr.heap.size := hPr.le
              obtain ⟨xb, hxb⟩ : ∃ b, wr.heap.size = b := ⟨_, rfl⟩
              go_upto_region 16 with (fail)
              clear hix
              rw [hxb] at hXA hgw
              generalize wr.alloc (.cells #[.int .i64 g1, .int .i64 m1, .int .u64 i1] 74) = wA at *
              clear hbA hxb hPr
              have cP := hPA.bp.cell
              have hS1 : (fun W' : World => (∀ i, W'.cell? ⟨xb, i, none⟩ = (#[.int .i64 g1, .int .i64 m1, .int .u64 i1] : Array Value)[i]?) ∧ W'.cell? ⟨gp, 0, none⟩ = some (.pointer (some ⟨gw, 0, none⟩))) wA.drew := ⟨hXA.drew.cell, hPA.bp.drew.cell 0⟩
              refine wp_region_held_drew (S := fun W' : World => (∀ i, W'.cell? ⟨xb, i, none⟩ = (#[.int .i64 g1, .int .i64 m1, .int .u64 i1] : Array Value)[i]?) ∧ W'.cell? ⟨gp, 0, none⟩ = some (.pointer (some ⟨gw, 0, none⟩))) (by kernel_rfl) hS1 (fun hHeld => ?_)
              clear hHeld
              refine wpAnyH_take (i := 0) (v := ?vq10) rfl (by kernel_rfl) (by kernel_rfl) (by kernel_rfl) (fun _ _ _ h => h) (Or.inl ⟨by kernel_rfl, ?hyq10⟩) hS1 ?restq10
              case hyq10 =>
                intro w hSw
                (try dsimp only at hSw)
                go_simp
                first | done | with_reducible rfl
              (try simp only [List.getElem_toArray, List.getElem_cons_succ, List.getElem_cons_zero, Act.put, List.setIfInBounds_toArray, List.set_cons_zero, List.set_cons_succ])
              refine wpAnyH_take (i := 1) (v := ?vq11) rfl (by kernel_rfl) (by kernel_rfl) (by kernel_rfl) (fun _ _ _ h => h) (Or.inl ⟨by kernel_rfl, ?hyq11⟩) hS1 ?restq11
              case hyq11 =>
                intro w hSw
                clear hSw
                go_simp
                first | done | with_reducible rfl
              (try simp only [List.getElem_toArray, List.getElem_cons_succ, List.getElem_cons_zero, Act.put, List.setIfInBounds_toArray, List.set_cons_zero, List.set_cons_succ])
              refine wpAnyH_take (i := 2) (v := ?vq12) rfl (by kernel_rfl) (by kernel_rfl) (by kernel_rfl) (fun _ _ _ h => h) (Or.inl ⟨by kernel_rfl, ?hyq12⟩) hS1 ?restq12
              case hyq12 =>
                intro w hSw
                (try dsimp only at hSw)
                go_simp
                first | done | with_reducible rfl
              (try simp only [List.getElem_toArray, List.getElem_cons_succ, List.getElem_cons_zero, Act.put, List.setIfInBounds_toArray, List.set_cons_zero, List.set_cons_succ])
              refine wpAnyH_take (i := 4) (v := ?vq14) rfl (by kernel_rfl) (by kernel_rfl) (by kernel_rfl) (fun _ _ _ h => h) (Or.inl ⟨by kernel_rfl, ?hyq14⟩) hS1 ?restq14
              case hyq14 =>
                intro w hSw
                clear hSw
                go_simp
                first | done | with_reducible rfl
              (try simp only [List.getElem_toArray, List.getElem_cons_succ, List.getElem_cons_zero, Act.put, List.setIfInBounds_toArray, List.set_cons_zero, List.set_cons_succ])
              refine wpAnyH_take (i := 5) (v := ?vq15) rfl (by kernel_rfl) (by kernel_rfl) (by kernel_rfl) (fun _ _ _ h => h) (Or.inl ⟨by kernel_rfl, ?hyq15⟩) hS1 ?restq15
              case hyq15 =>
                intro w hSw
                (try dsimp only at hSw)
                go_simp
                first | done | with_reducible rfl
              (try simp only [List.getElem_toArray, List.getElem_cons_succ, List.getElem_cons_zero, Act.put, List.setIfInBounds_toArray, List.set_cons_zero, List.set_cons_succ])
              refine wpAnyH_call (i := 3) (by kernel_rfl) rfl (by kernel_rfl) fun K hK => ?_
              simp only [List.getElem_toArray, List.getElem_cons_succ, List.getElem_cons_zero]
              go_simp
              by_cases hbn : inB g1 65535 = true
              case neg =>
                rw [Bool.not_eq_true] at hbn
                have HE := Lib.hid (HBad.out (by simp only [chOk, enOk, hbn, Bool.false_and, Bool.and_false]))
                go_at_call 47
                refine (small_no g1 65535 _ (by intro h; unfold inB at hbn; rw [decide_eq_true h.1, decide_eq_true h.2] at hbn; cases hbn)).mono ?_
                rintro e1 wD ⟨rfl, rfl⟩
                dsimp only [thrownC]
                go_wp2_with fail
                exact ⟨rfl, (hPA.below (Below.refl _ _).drew).wrt, .inl ⟨by rw [HE.out]; decide, by rw [HE.out]⟩⟩
              have hpn : 0 ≤ g1 ∧ g1 ≤ 65535 := by unfold inB at hbn; simpa using hbn
              go_at_call 47
              refine (small_yes g1 65535 _ hpn.1 hpn.2).mono ?_
              rintro e1 wD ⟨rfl, rfl⟩
              refine hK.out _ _ hS1 ?_
              clear hK K
              (try simp only [List.getElem_toArray, List.getElem_cons_succ, List.getElem_cons_zero, Act.put, List.setIfInBounds_toArray, List.set_cons_zero, List.set_cons_succ])
              refine wpAnyH_call (i := 6) (by kernel_rfl) rfl (by kernel_rfl) fun K hK => ?_
              simp only [List.getElem_toArray, List.getElem_cons_succ, List.getElem_cons_zero]
              go_simp
              by_cases hbc : inB m1 7 = true
              case neg =>
                rw [Bool.not_eq_true] at hbc
                have HE := Lib.hid (HBad.out (by simp only [chOk, enOk, hbc, Bool.false_and, Bool.and_false]))
                go_at_call 47
                refine (small_no m1 7 _ (by intro h; unfold inB at hbc; rw [decide_eq_true h.1, decide_eq_true h.2] at hbc; cases hbc)).mono ?_
                rintro e1 wD ⟨rfl, rfl⟩
                dsimp only [thrownC]
                go_wp2_with fail
                exact ⟨rfl, (hPA.below (Below.refl _ _).drew).wrt, .inl ⟨by rw [HE.out]; decide, by rw [HE.out]⟩⟩
              have hpc : 0 ≤ m1 ∧ m1 ≤ 7 := by unfold inB at hbc; simpa using hbc
              go_at_call 47
              refine (small_yes m1 7 _ hpc.1 hpc.2).mono ?_
              rintro e1 wD ⟨rfl, rfl⟩
              refine hK.out _ _ hS1 ?_
              clear hK K
              (try simp only [List.getElem_toArray, List.getElem_cons_succ, List.getElem_cons_zero, Act.put, List.setIfInBounds_toArray, List.set_cons_zero, List.set_cons_succ])
              refine wpAnyH_call (i := 7) (by kernel_rfl) rfl (by kernel_rfl) fun K hK => ?_
              simp only [List.getElem_toArray, List.getElem_cons_succ, List.getElem_cons_zero]
              go_simp
              have hbB : Below wA.heap.size wA (wA.alloc (.cells #[.int .i64 g1, .int .i64 m1] 3)).drew := (bal (Below.refl _ _) _).drew
              have hXB := hXA.kept hbB
              have hPB := hPA.below hbB
              have hRB : Rd (wA.alloc (.cells #[.int .i64 g1, .int .i64 m1] 3)).drew (wA.alloc (.cells #[.int .i64 g1, .int .i64 m1] 3)).drew.heap.size 1 (some ⟨wA.heap.size, 0, none⟩) 2 ([g1, m1].flatMap encI) := Rd.drew (Rd.fresh wA #[.int .i64 g1, .int .i64 m1] 3 2 1 _ rfl rfl)
              have hnI : ((wA.alloc (.cells #[.int .i64 g1, .int .i64 m1] 3)).drew).heap[wA.heap.size]? = some (.cells #[.int .i64 g1, .int .i64 m1] 3 (0, 0)) := heap_alloc_new wA _
              have hgA : gw < wA.heap.size := hPA.le
              have hxA := hXA.lt
              refine hK.out _ _ ⟨hXB.cell, hPB.bp.cell 0⟩ ?_
              clear hK K
              (try simp only [List.getElem_toArray, List.getElem_cons_succ, List.getElem_cons_zero, Act.put, List.setIfInBounds_toArray, List.set_cons_zero, List.set_cons_succ])
              generalize (wA.alloc (.cells #[.int .i64 g1, .int .i64 m1] 3)).drew = wB at *
              refine wpAnyH_call (i := 8) (by kernel_rfl) rfl (by kernel_rfl) fun K hK => ?_
              simp only [List.getElem_toArray, List.getElem_cons_succ, List.getElem_cons_zero]
              go_simp
              go_at_call 44
              refine (wtwo_any gw gw _ [g1, m1] _ 2 2 wB hPB.st rfl (by have := HLq.out; omega) (by decide) (by
                intro x hx
                simp only [List.mem_cons, List.not_mem_nil, or_false] at hx
                rcases hx with rfl | rfl <;> omega) (.inr ⟨wA.heap.size, 0, _, 3, (0, 0), rfl, hnI, by decide, by omega⟩) hRB).mono ?_
              rintro e1 wC ⟨rfl, hstC, hwrC⟩
              have hXC := hXB.wrt hwrC (by decide) (by omega)
              have hPC := hPB.step hstC hwrC
              refine hK.out _ _ ⟨hXC.cell, hPC.bp.cell 0⟩ ?_
              clear hK K
              (try simp only [List.getElem_toArray, List.getElem_cons_succ, List.getElem_cons_zero, Act.put, List.setIfInBounds_toArray, List.set_cons_zero, List.set_cons_succ])
              refine wpAnyH_done (by kernel_rfl) ?_ _
              have HEn := Lib.hid (show enOk ⟨g1, m1, i1⟩ = true by unfold enOk; simp only; rw [hbn, hbc]; rfl)
              clear hS1 hbB hXB hPB hRB hnI hgA hxA hstC hwrC hPA hXA hbn hbc cP
              have cC := hXC.cell
              have cP := hPC.bp.cell
              have hbD := bal (Below.refl wC.heap.size wC) (.cells #[.int .u64 i1] 61)
              have hPD := hPC.below hbD
              have hRD := Rd.fresh wC #[.int .u64 i1] 61 1 1 _ rfl rfl
              have HD4 := Lib.hid (weight_any gw gw _ [i1] _ 1 1 _ hPD.st rfl (by have := HLq.out; rw [List.length_append, bytesNl_len]; simp only [List.length_cons, List.length_nil]; omega) (by decide) (by
                intro x hx
                simp only [List.mem_cons, List.not_mem_nil, or_false] at hx
                subst hx
                exact ho4) hRD)
              have HPD := Lib.hid hPD
              clear hbD hPD hRD
              go_wp2_with (go_at_call 46; refine HD4.out.mono ?_; rintro e1 wE ⟨rfl, hstE, hwrE⟩)
              go_roundw
              case rel =>
                refine .inr (.inr ⟨by go_num, Lib.hid ⟨HE0.out, HEn.out, ?_⟩⟩)
                have h := HPD.out.step hstE hwrE
                rw [List.append_assoc (bh ++ enB _)] at h
                exact h
              case measure => simp [intOf]
            · obtain ⟨hE0, hE1, hPr⟩ := hp.out
              have HE0 := Lib.hid hE0
              have HE1 := Lib.hid hE1
              have HPr := Lib.hid hPr
              clear hp hE0 hE1 hPr
              go_wp2_with fail
              go_roundw
              case rel =>
                refine ⟨j + 1, by omega, by go_num, Lib.hid ⟨by rw [HTa.out, hHall.out]; simp only [chOk, HE0.out, HE1.out, Bool.and_self], ?_⟩⟩
                rw [HTk.out, ← List.append_assoc, HBk.out]
                have h := HPr.out
                rw [← HBh.out] at h
                simpa only [chB, List.append_assoc] using h
              case measure => simp [intOf]; omega
        · obtain rfl : j = nC := by omega
          have hq : decide ((j : Int) < (j : Int)) = false := decide_eq_false (by omega)
          obtain ⟨hall, hPr⟩ := hh.out
          rw [List.take_of_length_le (by rw [HnC.out]; exact Nat.le_refl _)] at hall hPr
          have hlen : (b2 ++ x.cs.flatMap chB).length ≤ 44000 := by have := HL2.out; rw [List.length_append, flat_len chB_len, HnC.out]; omega
          have hE0 : putE (cData x) = 0 := by
            unfold putE cData
            simp only [List.length_map]
            rw [HnG.out, HnC.out, if_neg (fun h => h ⟨z1, z2, z3⟩), HFe.out, if_neg (by decide), if_neg (by rw [hall]; decide)]
          have hfin : b2 ++ x.cs.flatMap chB = putB (cData x) := by
            rw [← HB2.out, ← HB1.out]
            unfold putB cData
            simp only [List.length_map, HnG.out, HnC.out]
          rw [hfin] at hPr hlen
          have HE0 := Lib.hid hE0
          have HPr := Lib.hid hPr
          obtain ⟨_, Ab, cb, hBx, hown⟩ := hPr.st
          have cP := hPr.bp.cell
          have cW := hBx.cell
          generalize hpb : putB (cData x) = pb at *
          have HPb := Lib.hid hpb
          clear hpb
          have hd : decide ((pb.length : Int) ≤ 65536) = true := decide_eq_true (by omega)
          clear hh hall hPr hE0 hfin hlen
          go_wp2_with (go_at_call 42; refine (must_yes _ _ _).mono ?_; rintro e1 w14 ⟨rfl, rfl⟩)
          exact bodyPost_end (results_none rfl _ _ _) rfl ⟨HPr.out.wrt, .inr ⟨HE0.out, rfl, by rw [HPb.out]; exact HPr.out⟩⟩
end Go.Proofs.Ytmhbpfclfffgkaa
