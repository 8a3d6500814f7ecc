/- Chapter 14: which texts are names, which configurations are alike: the law's walk. -/
import Derived.Test.YtmhbpfclfffgkaaCfSe
import Derived.Test.YtmhbpfclfffgkaaCfAw
namespace Go.Proofs.Ytmhbpfclfffgkaa
set_option linter.unusedVariables false
set_option linter.unusedSimpArgs false
open Go.RowKit Go.Sort Go.ChangeShapes Go.WideShapes

theorem gEqB_self (a : Gs) : gEqB a a = true := by unfold gEqB; simp
theorem gsEqB_self : ∀ l : List Gs, gsEqB l l = true
  | [] => rfl
  | a :: l => by unfold gsEqB; rw [gEqB_self, gsEqB_self l]; rfl
theorem sameX_self (x : Cf) : sameX x x = true := by unfold sameX; rw [gsEqB_self]; simp
theorem boxes_regrown {w : World} {g : Nat} {t : TypeId} {cs : List Value} (h : Blk w g t cs.toArray) : ∀ W, (∃ p : Regrown, W = grow (redrawn w p.d) p.os) → W.rangeAt g 0 cs := by
  rintro W ⟨p, rfl⟩ j u hu
  rw [Nat.zero_add, blk_regrown h]
  simpa using hu
set_option maxRecDepth 100000 in
set_option maxHeartbeats 8000000 in
theorem cfgTells_any (s : ByteArray) (x y : Cf) (A A2 B B2 : Option Addr) (c c2 d d2 : Nat) (w : World) (hx : CfR w w.heap.size x A c A2 c2) (hy : CfR w w.heap.size y B d B2 d2) :
    Calls Try.prog 5 #[.string s, .agg #[.int .u32 x.ver, .slice A x.gs.length c, .slice A2 x.cs.length c2], .agg #[.int .u32 y.ver, .slice B y.gs.length d, .slice B2 y.cs.length d2]] w fun e w' => e = .returned (.bool true) ∧ Below w.heap.size w w' := by
  obtain ⟨CA, hCAe⟩ : ∃ cs : List Value, [.int .u32 x.ver, .slice A x.gs.length c, .slice A2 x.cs.length c2] = cs := ⟨_, rfl⟩
  obtain ⟨CB, hCBe⟩ : ∃ cs : List Value, [.int .u32 y.ver, .slice B y.gs.length d, .slice B2 y.cs.length d2] = cs := ⟨_, rfl⟩
  have eA : (#[.int .u32 x.ver, .slice A x.gs.length c, .slice A2 x.cs.length c2] : Array Value) = CA.toArray := by rw [← hCAe]
  have eB : (#[.int .u32 y.ver, .slice B y.gs.length d, .slice B2 y.cs.length d2] : Array Value) = CB.toArray := by rw [← hCBe]
  have hlA : CA.length = 3 := by rw [← hCAe]; rfl
  have hlB : CB.length = 3 := by rw [← hCBe]; rfl
  have HWa := fun W (h : Below w.heap.size w W) => few_conf hx W h
  have HWb := fun W (h : Below w.heap.size w W) => few_conf hy W h
  have HWs := fun W (h : Below w.heap.size w W) => same_any x y A A2 B B2 c c2 d d2 W ((hx.below h).more h.size) ((hy.below h).more h.size)
  have HWt := fun W (h : Below w.heap.size w W) => rsame_any x y A A2 B B2 c c2 d d2 W ((hx.below h).more h.size) ((hy.below h).more h.size)
  have HWu := fun W (h : Below w.heap.size w W) => same_any x x A A2 A A2 c c2 c c2 W ((hx.below h).more h.size) ((hx.below h).more h.size)
  rw [sameX_self x] at HWu
  simp only [eA, eB] at HWa HWb HWs HWt HWu ⊢
  have HA := Lib.hid ((Blk.new w 28 CA.toArray).alloc (.cells CB.toArray 28))
  have HB : Hid (Blk ((w.alloc (.cells CA.toArray 28)).alloc (.cells CB.toArray 28)) (w.heap.size + 1) 28 CB.toArray) := Lib.hid (by
    have := Blk.new (w.alloc (.cells CA.toArray 28)) 28 CB.toArray
    simpa using this)
  have HbX := Lib.hid (bal (bal (Below.refl w.heap.size w) (.cells CA.toArray 28)) (.cells CB.toArray 28))
  have Hia : Hid ((Try.prog.info? 28).map (·.size) = some CA.length) := Lib.hid (by rw [hlA]; kernel_rfl)
  have Hib : Hid ((Try.prog.info? 28).map (·.size) = some CB.length) := Lib.hid (by rw [hlB]; kernel_rfl)
  have HWa := Lib.hid HWa
  have HWb := Lib.hid HWb
  have HWs := Lib.hid HWs
  have HWt := Lib.hid HWt
  have HWu := Lib.hid HWu
  generalize fewN x.gs.length x.cs.length (x.gs.map toGd) = fa at *
  generalize fewN y.gs.length y.cs.length (y.gs.map toGd) = fb at *
  generalize sameX x y = R at *
  clear eA eB hCAe hCBe hx hy hlA hlB
  by_cases hs : s.size ≤ 200
  · have HWn := Lib.hid (fun W => name_any s W (by omega))
    have HWm := Lib.hid (fun W => rname_any s W (by omega))
    generalize nameN (strB s) = N at *
    have hsd : decide ((200 : Int) < (s.size : Int)) = false := decide_eq_false (by omega)
    clear hs
    rcases fa with _ | _
    ·
      go_enter Try.func5, Try.ntmps5
      go_upto_region 3 with (go_at_call 12; refine (awake14_any _).mono ?_; rintro e w1 ⟨rfl, hb1⟩; have hbx1 := HbX.out.trans (hb1.mono HbX.out.size); have hA1 := HA.out.kept hb1; have hB1 := HB.out.kept hb1)
      have hCA := boxes_regrown hA1
      have hCB := boxes_regrown hB1
      have HFa := Lib.hid (fun (d : Nat) (os : Array Obj) => HWa.out (grow (redrawn w1 d) os) (hbx1.trans ((below_regrown w1 d os).mono hbx1.size)))
      have HFb := Lib.hid (fun (d : Nat) (os : Array Obj) => HWb.out (grow (redrawn w1 d) os) (hbx1.trans ((below_regrown w1 d os).mono hbx1.size)))
      have HNa := Lib.hid (fun (d : Nat) (os : Array Obj) => HWn.out (grow (redrawn w1 d) os))
      have HNb := Lib.hid (fun (d : Nat) (os : Array Obj) => HWm.out (grow (redrawn w1 d) os))
      have HS := Lib.hid (fun (d : Nat) (os : Array Obj) => HWs.out (grow (redrawn w1 d) os) (hbx1.trans ((below_regrown w1 d os).mono hbx1.size)))
      have HT := Lib.hid (fun (d : Nat) (os : Array Obj) => HWt.out (grow (redrawn w1 d) os) (hbx1.trans ((below_regrown w1 d os).mono hbx1.size)))
      have HU := Lib.hid (fun (d : Nat) (os : Array Obj) => HWu.out (grow (redrawn w1 d) os) (hbx1.trans ((below_regrown w1 d os).mono hbx1.size)))
      clear hA1 hB1
      refine wp_region_quiet_below (by kernel_rfl) (by kernel_rfl) ?_
      iterate 4 (quiet_step ((fail)))
      (refine wpQuiet_load 28 (.tmp 4) rfl w.heap.size 0 (by rfl) CA _ hCA Try.underlying28 rfl Hia.out (by kernel_rfl) ?_)
      quiet_step ((go_at_call 16; with_reducible exact regrown (HFa.out _ _)))
      repeat (go_big_quiet_step (fail))
      refine wpQuiet_nil ?_
      rintro w2 ⟨p, rfl⟩
      have hb2 := below_regrown w1 p.d p.os
      go_wp2
      go_ret
      exact ⟨rfl, hbx1.trans (hb2.mono hbx1.size)⟩
    rcases fb with _ | _
    ·
      go_enter Try.func5, Try.ntmps5
      go_upto_region 3 with (go_at_call 12; refine (awake14_any _).mono ?_; rintro e w1 ⟨rfl, hb1⟩; have hbx1 := HbX.out.trans (hb1.mono HbX.out.size); have hA1 := HA.out.kept hb1; have hB1 := HB.out.kept hb1)
      have hCA := boxes_regrown hA1
      have hCB := boxes_regrown hB1
      have HFa := Lib.hid (fun (d : Nat) (os : Array Obj) => HWa.out (grow (redrawn w1 d) os) (hbx1.trans ((below_regrown w1 d os).mono hbx1.size)))
      have HFb := Lib.hid (fun (d : Nat) (os : Array Obj) => HWb.out (grow (redrawn w1 d) os) (hbx1.trans ((below_regrown w1 d os).mono hbx1.size)))
      have HNa := Lib.hid (fun (d : Nat) (os : Array Obj) => HWn.out (grow (redrawn w1 d) os))
      have HNb := Lib.hid (fun (d : Nat) (os : Array Obj) => HWm.out (grow (redrawn w1 d) os))
      have HS := Lib.hid (fun (d : Nat) (os : Array Obj) => HWs.out (grow (redrawn w1 d) os) (hbx1.trans ((below_regrown w1 d os).mono hbx1.size)))
      have HT := Lib.hid (fun (d : Nat) (os : Array Obj) => HWt.out (grow (redrawn w1 d) os) (hbx1.trans ((below_regrown w1 d os).mono hbx1.size)))
      have HU := Lib.hid (fun (d : Nat) (os : Array Obj) => HWu.out (grow (redrawn w1 d) os) (hbx1.trans ((below_regrown w1 d os).mono hbx1.size)))
      clear hA1 hB1
      refine wp_region_quiet_below (by kernel_rfl) (by kernel_rfl) ?_
      iterate 4 (quiet_step ((fail)))
      (refine wpQuiet_load 28 (.tmp 4) rfl w.heap.size 0 (by rfl) CA _ hCA Try.underlying28 rfl Hia.out (by kernel_rfl) ?_)
      quiet_step ((go_at_call 16; with_reducible exact regrown (HFa.out _ _)))
      iterate 3 (quiet_step ((fail)))
      (refine wpQuiet_load 28 (.tmp 5) rfl (w.heap.size + 1) 0 (by rfl) CB _ hCB Try.underlying28 rfl Hib.out (by kernel_rfl) ?_)
      quiet_step ((go_at_call 16; with_reducible exact regrown (HFb.out _ _)))
      repeat (go_big_quiet_step (fail))
      refine wpQuiet_nil ?_
      rintro w2 ⟨p, rfl⟩
      have hb2 := below_regrown w1 p.d p.os
      go_wp2
      go_ret
      exact ⟨rfl, hbx1.trans (hb2.mono hbx1.size)⟩
    rcases N with _ | _ <;> rcases R with _ | _
    ·
      go_enter Try.func5, Try.ntmps5
      go_upto_region 3 with (go_at_call 12; refine (awake14_any _).mono ?_; rintro e w1 ⟨rfl, hb1⟩; have hbx1 := HbX.out.trans (hb1.mono HbX.out.size); have hA1 := HA.out.kept hb1; have hB1 := HB.out.kept hb1)
      have hCA := boxes_regrown hA1
      have hCB := boxes_regrown hB1
      have HFa := Lib.hid (fun (d : Nat) (os : Array Obj) => HWa.out (grow (redrawn w1 d) os) (hbx1.trans ((below_regrown w1 d os).mono hbx1.size)))
      have HFb := Lib.hid (fun (d : Nat) (os : Array Obj) => HWb.out (grow (redrawn w1 d) os) (hbx1.trans ((below_regrown w1 d os).mono hbx1.size)))
      have HNa := Lib.hid (fun (d : Nat) (os : Array Obj) => HWn.out (grow (redrawn w1 d) os))
      have HNb := Lib.hid (fun (d : Nat) (os : Array Obj) => HWm.out (grow (redrawn w1 d) os))
      have HS := Lib.hid (fun (d : Nat) (os : Array Obj) => HWs.out (grow (redrawn w1 d) os) (hbx1.trans ((below_regrown w1 d os).mono hbx1.size)))
      have HT := Lib.hid (fun (d : Nat) (os : Array Obj) => HWt.out (grow (redrawn w1 d) os) (hbx1.trans ((below_regrown w1 d os).mono hbx1.size)))
      have HU := Lib.hid (fun (d : Nat) (os : Array Obj) => HWu.out (grow (redrawn w1 d) os) (hbx1.trans ((below_regrown w1 d os).mono hbx1.size)))
      clear hA1 hB1
      refine wp_region_quiet_below (by kernel_rfl) (by kernel_rfl) ?_
      iterate 4 (quiet_step ((fail)))
      (refine wpQuiet_load 28 (.tmp 4) rfl w.heap.size 0 (by rfl) CA _ hCA Try.underlying28 rfl Hia.out (by kernel_rfl) ?_)
      quiet_step ((go_at_call 16; with_reducible exact regrown (HFa.out _ _)))
      iterate 3 (quiet_step ((fail)))
      (refine wpQuiet_load 28 (.tmp 5) rfl (w.heap.size + 1) 0 (by rfl) CB _ hCB Try.underlying28 rfl Hib.out (by kernel_rfl) ?_)
      quiet_step ((go_at_call 16; with_reducible exact regrown (HFb.out _ _)))
      iterate 4 (quiet_step ((fail)))
      quiet_step ((go_at_call 18; with_reducible exact regrown (HNa.out _ _)))
      quiet_step ((fail))
      quiet_step ((go_at_call 19; with_reducible exact regrown_same (HNb.out _ _)))
      iterate 2 (quiet_step ((fail)))
      (refine wpQuiet_load 28 (.tmp 4) rfl w.heap.size 0 (by rfl) CA _ hCA Try.underlying28 rfl Hia.out (by kernel_rfl) ?_)
      (refine wpQuiet_load 28 (.tmp 5) rfl (w.heap.size + 1) 0 (by rfl) CB _ hCB Try.underlying28 rfl Hib.out (by kernel_rfl) ?_)
      quiet_step ((go_at_call 20; with_reducible exact regrown (HS.out _ _)))
      (refine wpQuiet_load 28 (.tmp 4) rfl w.heap.size 0 (by rfl) CA _ hCA Try.underlying28 rfl Hia.out (by kernel_rfl) ?_)
      (refine wpQuiet_load 28 (.tmp 5) rfl (w.heap.size + 1) 0 (by rfl) CB _ hCB Try.underlying28 rfl Hib.out (by kernel_rfl) ?_)
      quiet_step ((go_at_call 15; with_reducible exact regrown (HT.out _ _)))
      iterate 3 (quiet_step ((fail)))
      (refine wpQuiet_load 28 (.tmp 4) rfl w.heap.size 0 (by rfl) CA _ hCA Try.underlying28 rfl Hia.out (by kernel_rfl) ?_)
      (refine wpQuiet_load 28 (.tmp 4) rfl w.heap.size 0 (by rfl) CA _ hCA Try.underlying28 rfl Hia.out (by kernel_rfl) ?_)
      quiet_step ((go_at_call 20; with_reducible exact regrown (HU.out _ _)))
      repeat (quiet_step ((fail)))
      refine wpQuiet_nil ?_
      rintro w2 ⟨p, rfl⟩
      have hb2 := below_regrown w1 p.d p.os
      go_wp2
      go_ret
      exact ⟨rfl, hbx1.trans (hb2.mono hbx1.size)⟩
    ·
      go_enter Try.func5, Try.ntmps5
      go_upto_region 3 with (go_at_call 12; refine (awake14_any _).mono ?_; rintro e w1 ⟨rfl, hb1⟩; have hbx1 := HbX.out.trans (hb1.mono HbX.out.size); have hA1 := HA.out.kept hb1; have hB1 := HB.out.kept hb1)
      have hCA := boxes_regrown hA1
      have hCB := boxes_regrown hB1
      have HFa := Lib.hid (fun (d : Nat) (os : Array Obj) => HWa.out (grow (redrawn w1 d) os) (hbx1.trans ((below_regrown w1 d os).mono hbx1.size)))
      have HFb := Lib.hid (fun (d : Nat) (os : Array Obj) => HWb.out (grow (redrawn w1 d) os) (hbx1.trans ((below_regrown w1 d os).mono hbx1.size)))
      have HNa := Lib.hid (fun (d : Nat) (os : Array Obj) => HWn.out (grow (redrawn w1 d) os))
      have HNb := Lib.hid (fun (d : Nat) (os : Array Obj) => HWm.out (grow (redrawn w1 d) os))
      have HS := Lib.hid (fun (d : Nat) (os : Array Obj) => HWs.out (grow (redrawn w1 d) os) (hbx1.trans ((below_regrown w1 d os).mono hbx1.size)))
      have HT := Lib.hid (fun (d : Nat) (os : Array Obj) => HWt.out (grow (redrawn w1 d) os) (hbx1.trans ((below_regrown w1 d os).mono hbx1.size)))
      have HU := Lib.hid (fun (d : Nat) (os : Array Obj) => HWu.out (grow (redrawn w1 d) os) (hbx1.trans ((below_regrown w1 d os).mono hbx1.size)))
      clear hA1 hB1
      refine wp_region_quiet_below (by kernel_rfl) (by kernel_rfl) ?_
      iterate 4 (quiet_step ((fail)))
      (refine wpQuiet_load 28 (.tmp 4) rfl w.heap.size 0 (by rfl) CA _ hCA Try.underlying28 rfl Hia.out (by kernel_rfl) ?_)
      quiet_step ((go_at_call 16; with_reducible exact regrown (HFa.out _ _)))
      iterate 3 (quiet_step ((fail)))
      (refine wpQuiet_load 28 (.tmp 5) rfl (w.heap.size + 1) 0 (by rfl) CB _ hCB Try.underlying28 rfl Hib.out (by kernel_rfl) ?_)
      quiet_step ((go_at_call 16; with_reducible exact regrown (HFb.out _ _)))
      iterate 4 (quiet_step ((fail)))
      quiet_step ((go_at_call 18; with_reducible exact regrown (HNa.out _ _)))
      quiet_step ((fail))
      quiet_step ((go_at_call 19; with_reducible exact regrown_same (HNb.out _ _)))
      iterate 2 (quiet_step ((fail)))
      (refine wpQuiet_load 28 (.tmp 4) rfl w.heap.size 0 (by rfl) CA _ hCA Try.underlying28 rfl Hia.out (by kernel_rfl) ?_)
      (refine wpQuiet_load 28 (.tmp 5) rfl (w.heap.size + 1) 0 (by rfl) CB _ hCB Try.underlying28 rfl Hib.out (by kernel_rfl) ?_)
      quiet_step ((go_at_call 20; with_reducible exact regrown (HS.out _ _)))
      (refine wpQuiet_load 28 (.tmp 4) rfl w.heap.size 0 (by rfl) CA _ hCA Try.underlying28 rfl Hia.out (by kernel_rfl) ?_)
      (refine wpQuiet_load 28 (.tmp 5) rfl (w.heap.size + 1) 0 (by rfl) CB _ hCB Try.underlying28 rfl Hib.out (by kernel_rfl) ?_)
      quiet_step ((go_at_call 15; with_reducible exact regrown (HT.out _ _)))
      iterate 3 (quiet_step ((fail)))
      (refine wpQuiet_load 28 (.tmp 4) rfl w.heap.size 0 (by rfl) CA _ hCA Try.underlying28 rfl Hia.out (by kernel_rfl) ?_)
      (refine wpQuiet_load 28 (.tmp 4) rfl w.heap.size 0 (by rfl) CA _ hCA Try.underlying28 rfl Hia.out (by kernel_rfl) ?_)
      quiet_step ((go_at_call 20; with_reducible exact regrown (HU.out _ _)))
      repeat (quiet_step ((fail)))
      refine wpQuiet_nil ?_
      rintro w2 ⟨p, rfl⟩
      have hb2 := below_regrown w1 p.d p.os
      go_wp2
      go_ret
      exact ⟨rfl, hbx1.trans (hb2.mono hbx1.size)⟩
    ·
      go_enter Try.func5, Try.ntmps5
      go_upto_region 3 with (go_at_call 12; refine (awake14_any _).mono ?_; rintro e w1 ⟨rfl, hb1⟩; have hbx1 := HbX.out.trans (hb1.mono HbX.out.size); have hA1 := HA.out.kept hb1; have hB1 := HB.out.kept hb1)
      have hCA := boxes_regrown hA1
      have hCB := boxes_regrown hB1
      have HFa := Lib.hid (fun (d : Nat) (os : Array Obj) => HWa.out (grow (redrawn w1 d) os) (hbx1.trans ((below_regrown w1 d os).mono hbx1.size)))
      have HFb := Lib.hid (fun (d : Nat) (os : Array Obj) => HWb.out (grow (redrawn w1 d) os) (hbx1.trans ((below_regrown w1 d os).mono hbx1.size)))
      have HNa := Lib.hid (fun (d : Nat) (os : Array Obj) => HWn.out (grow (redrawn w1 d) os))
      have HNb := Lib.hid (fun (d : Nat) (os : Array Obj) => HWm.out (grow (redrawn w1 d) os))
      have HS := Lib.hid (fun (d : Nat) (os : Array Obj) => HWs.out (grow (redrawn w1 d) os) (hbx1.trans ((below_regrown w1 d os).mono hbx1.size)))
      have HT := Lib.hid (fun (d : Nat) (os : Array Obj) => HWt.out (grow (redrawn w1 d) os) (hbx1.trans ((below_regrown w1 d os).mono hbx1.size)))
      have HU := Lib.hid (fun (d : Nat) (os : Array Obj) => HWu.out (grow (redrawn w1 d) os) (hbx1.trans ((below_regrown w1 d os).mono hbx1.size)))
      clear hA1 hB1
      refine wp_region_quiet_below (by kernel_rfl) (by kernel_rfl) ?_
      iterate 4 (quiet_step ((fail)))
      (refine wpQuiet_load 28 (.tmp 4) rfl w.heap.size 0 (by rfl) CA _ hCA Try.underlying28 rfl Hia.out (by kernel_rfl) ?_)
      quiet_step ((go_at_call 16; with_reducible exact regrown (HFa.out _ _)))
      iterate 3 (quiet_step ((fail)))
      (refine wpQuiet_load 28 (.tmp 5) rfl (w.heap.size + 1) 0 (by rfl) CB _ hCB Try.underlying28 rfl Hib.out (by kernel_rfl) ?_)
      quiet_step ((go_at_call 16; with_reducible exact regrown (HFb.out _ _)))
      iterate 4 (quiet_step ((fail)))
      quiet_step ((go_at_call 18; with_reducible exact regrown (HNa.out _ _)))
      quiet_step ((fail))
      quiet_step ((go_at_call 19; with_reducible exact regrown_same (HNb.out _ _)))
      iterate 2 (quiet_step ((fail)))
      (refine wpQuiet_load 28 (.tmp 4) rfl w.heap.size 0 (by rfl) CA _ hCA Try.underlying28 rfl Hia.out (by kernel_rfl) ?_)
      (refine wpQuiet_load 28 (.tmp 5) rfl (w.heap.size + 1) 0 (by rfl) CB _ hCB Try.underlying28 rfl Hib.out (by kernel_rfl) ?_)
      quiet_step ((go_at_call 20; with_reducible exact regrown (HS.out _ _)))
      (refine wpQuiet_load 28 (.tmp 4) rfl w.heap.size 0 (by rfl) CA _ hCA Try.underlying28 rfl Hia.out (by kernel_rfl) ?_)
      (refine wpQuiet_load 28 (.tmp 5) rfl (w.heap.size + 1) 0 (by rfl) CB _ hCB Try.underlying28 rfl Hib.out (by kernel_rfl) ?_)
      quiet_step ((go_at_call 15; with_reducible exact regrown (HT.out _ _)))
      iterate 3 (quiet_step ((fail)))
      (refine wpQuiet_load 28 (.tmp 4) rfl w.heap.size 0 (by rfl) CA _ hCA Try.underlying28 rfl Hia.out (by kernel_rfl) ?_)
      (refine wpQuiet_load 28 (.tmp 4) rfl w.heap.size 0 (by rfl) CA _ hCA Try.underlying28 rfl Hia.out (by kernel_rfl) ?_)
      quiet_step ((go_at_call 20; with_reducible exact regrown (HU.out _ _)))
      repeat (quiet_step ((fail)))
      refine wpQuiet_nil ?_
      rintro w2 ⟨p, rfl⟩
      have hb2 := below_regrown w1 p.d p.os
      go_wp2
      go_ret
      exact ⟨rfl, hbx1.trans (hb2.mono hbx1.size)⟩
    ·
      go_enter Try.func5, Try.ntmps5
      go_upto_region 3 with (go_at_call 12; refine (awake14_any _).mono ?_; rintro e w1 ⟨rfl, hb1⟩; have hbx1 := HbX.out.trans (hb1.mono HbX.out.size); have hA1 := HA.out.kept hb1; have hB1 := HB.out.kept hb1)
      have hCA := boxes_regrown hA1
      have hCB := boxes_regrown hB1
      have HFa := Lib.hid (fun (d : Nat) (os : Array Obj) => HWa.out (grow (redrawn w1 d) os) (hbx1.trans ((below_regrown w1 d os).mono hbx1.size)))
      have HFb := Lib.hid (fun (d : Nat) (os : Array Obj) => HWb.out (grow (redrawn w1 d) os) (hbx1.trans ((below_regrown w1 d os).mono hbx1.size)))
      have HNa := Lib.hid (fun (d : Nat) (os : Array Obj) => HWn.out (grow (redrawn w1 d) os))
      have HNb := Lib.hid (fun (d : Nat) (os : Array Obj) => HWm.out (grow (redrawn w1 d) os))
      have HS := Lib.hid (fun (d : Nat) (os : Array Obj) => HWs.out (grow (redrawn w1 d) os) (hbx1.trans ((below_regrown w1 d os).mono hbx1.size)))
      have HT := Lib.hid (fun (d : Nat) (os : Array Obj) => HWt.out (grow (redrawn w1 d) os) (hbx1.trans ((below_regrown w1 d os).mono hbx1.size)))
      have HU := Lib.hid (fun (d : Nat) (os : Array Obj) => HWu.out (grow (redrawn w1 d) os) (hbx1.trans ((below_regrown w1 d os).mono hbx1.size)))
      clear hA1 hB1
      refine wp_region_quiet_below (by kernel_rfl) (by kernel_rfl) ?_
      iterate 4 (quiet_step ((fail)))
      (refine wpQuiet_load 28 (.tmp 4) rfl w.heap.size 0 (by rfl) CA _ hCA Try.underlying28 rfl Hia.out (by kernel_rfl) ?_)
      quiet_step ((go_at_call 16; with_reducible exact regrown (HFa.out _ _)))
      iterate 3 (quiet_step ((fail)))
      (refine wpQuiet_load 28 (.tmp 5) rfl (w.heap.size + 1) 0 (by rfl) CB _ hCB Try.underlying28 rfl Hib.out (by kernel_rfl) ?_)
      quiet_step ((go_at_call 16; with_reducible exact regrown (HFb.out _ _)))
      iterate 4 (quiet_step ((fail)))
      quiet_step ((go_at_call 18; with_reducible exact regrown (HNa.out _ _)))
      quiet_step ((fail))
      quiet_step ((go_at_call 19; with_reducible exact regrown_same (HNb.out _ _)))
      iterate 2 (quiet_step ((fail)))
      (refine wpQuiet_load 28 (.tmp 4) rfl w.heap.size 0 (by rfl) CA _ hCA Try.underlying28 rfl Hia.out (by kernel_rfl) ?_)
      (refine wpQuiet_load 28 (.tmp 5) rfl (w.heap.size + 1) 0 (by rfl) CB _ hCB Try.underlying28 rfl Hib.out (by kernel_rfl) ?_)
      quiet_step ((go_at_call 20; with_reducible exact regrown (HS.out _ _)))
      (refine wpQuiet_load 28 (.tmp 4) rfl w.heap.size 0 (by rfl) CA _ hCA Try.underlying28 rfl Hia.out (by kernel_rfl) ?_)
      (refine wpQuiet_load 28 (.tmp 5) rfl (w.heap.size + 1) 0 (by rfl) CB _ hCB Try.underlying28 rfl Hib.out (by kernel_rfl) ?_)
      quiet_step ((go_at_call 15; with_reducible exact regrown (HT.out _ _)))
      iterate 3 (quiet_step ((fail)))
      (refine wpQuiet_load 28 (.tmp 4) rfl w.heap.size 0 (by rfl) CA _ hCA Try.underlying28 rfl Hia.out (by kernel_rfl) ?_)
      (refine wpQuiet_load 28 (.tmp 4) rfl w.heap.size 0 (by rfl) CA _ hCA Try.underlying28 rfl Hia.out (by kernel_rfl) ?_)
      quiet_step ((go_at_call 20; with_reducible exact regrown (HU.out _ _)))
      repeat (quiet_step ((fail)))
      refine wpQuiet_nil ?_
      rintro w2 ⟨p, rfl⟩
      have hb2 := below_regrown w1 p.d p.os
      go_wp2
      go_ret
      exact ⟨rfl, hbx1.trans (hb2.mono hbx1.size)⟩
  · have HWn := Lib.hid (fun W : World => trivial)
    have HWm := HWn
    have hsd : decide ((200 : Int) < (s.size : Int)) = true := decide_eq_true (by omega)
    clear hs
    go_enter Try.func5, Try.ntmps5
    go_upto_region 3 with (go_at_call 12; refine (awake14_any _).mono ?_; rintro e w1 ⟨rfl, hb1⟩; have hbx1 := HbX.out.trans (hb1.mono HbX.out.size); have hA1 := HA.out.kept hb1; have hB1 := HB.out.kept hb1)
    have hCA := boxes_regrown hA1
    have hCB := boxes_regrown hB1
    have HFa := Lib.hid (fun (d : Nat) (os : Array Obj) => HWa.out (grow (redrawn w1 d) os) (hbx1.trans ((below_regrown w1 d os).mono hbx1.size)))
    have HFb := Lib.hid (fun (d : Nat) (os : Array Obj) => HWb.out (grow (redrawn w1 d) os) (hbx1.trans ((below_regrown w1 d os).mono hbx1.size)))
    have HNa := Lib.hid (fun (d : Nat) (os : Array Obj) => HWn.out (grow (redrawn w1 d) os))
    have HNb := Lib.hid (fun (d : Nat) (os : Array Obj) => HWm.out (grow (redrawn w1 d) os))
    have HS := Lib.hid (fun (d : Nat) (os : Array Obj) => HWs.out (grow (redrawn w1 d) os) (hbx1.trans ((below_regrown w1 d os).mono hbx1.size)))
    have HT := Lib.hid (fun (d : Nat) (os : Array Obj) => HWt.out (grow (redrawn w1 d) os) (hbx1.trans ((below_regrown w1 d os).mono hbx1.size)))
    have HU := Lib.hid (fun (d : Nat) (os : Array Obj) => HWu.out (grow (redrawn w1 d) os) (hbx1.trans ((below_regrown w1 d os).mono hbx1.size)))
    clear hA1 hB1
    refine wp_region_quiet_below (by kernel_rfl) (by kernel_rfl) ?_
    repeat (go_big_quiet_step (fail))
    refine wpQuiet_nil ?_
    rintro w2 ⟨p, rfl⟩
    have hb2 := below_regrown w1 p.d p.os
    go_wp2
    go_ret
    exact ⟨rfl, hbx1.trans (hb2.mono hbx1.size)⟩
end Go.Proofs.Ytmhbpfclfffgkaa
