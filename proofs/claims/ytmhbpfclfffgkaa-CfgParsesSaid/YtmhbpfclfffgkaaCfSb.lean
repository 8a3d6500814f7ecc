/- Chapter 14: cfg.Same whole; walked. -/
import Derived.Test.YtmhbpfclfffgkaaCfSa
namespace Go.Proofs.Ytmhbpfclfffgkaa
set_option linter.unusedVariables false
set_option linter.unusedSimpArgs false
open Go.RowKit Go.Sort

/-- Configurations that are alike. -/
def sameX (x y : Cf) : Bool := (x.ver == y.ver && gsEqB (x.gs.map Prod.fst) (y.gs.map Prod.fst)) && decide (x.cs = y.cs)
theorem CfR.grow {w W : World} {x : Cf} {A A2 : Option Addr} {c c2 : Nat} (h : CfR w w.heap.size x A c A2 c2) (hb : Below w.heap.size w W) : GRow W x.gs A x.gs.length :=
  ⟨rfl, Nat.le_trans h.lg.1 h.lg.2, fun g hg => ((h.og g hg).below hb).more hb.size, (h.rg.below hb).more hb.size⟩
set_option maxRecDepth 100000 in
set_option maxHeartbeats 8000000 in
theorem same_any (x y : Cf) (A A2 B B2 : Option Addr) (c c2 d d2 : Nat) (w : World) (hx : CfR w w.heap.size x A c A2 c2) (hy : CfR w w.heap.size y B d B2 d2) :
    Calls Try.prog 20 #[.agg #[.int .u32 x.ver, .slice A x.gs.length c, .slice A2 x.cs.length c2], .agg #[.int .u32 y.ver, .slice B y.gs.length d, .slice B2 y.cs.length d2]] w fun e w' => e = .returned (.bool (sameX x y)) ∧ Below w.heap.size w w' := by
  obtain ⟨q0, h0⟩ : ∃ q, (x.ver == y.ver) = q := ⟨_, rfl⟩
  obtain ⟨q1, h1⟩ : ∃ q, gsEqB (x.gs.map Prod.fst) (y.gs.map Prod.fst) = q := ⟨_, rfl⟩
  obtain ⟨q2, h2⟩ : ∃ q, decide (x.cs = y.cs) = q := ⟨_, rfl⟩
  have HG := fun W (hb : Below w.heap.size w W) => eqGuests_any x.gs y.gs A B c d x.gs.length y.gs.length W (hx.grow hb) (hy.grow hb)
  have HC := fun W (hb : Below w.heap.size w W) => eqCh_any A2 x.cs.length c2 x.cs B2 y.cs.length d2 y.cs W (rows_ml (Nat.le_trans hx.lc.1 hx.lc.2)) rfl rfl (fun _ _ => trivial) (fun _ _ => trivial) ((hx.rc.below hb).more hb.size) ((hy.rc.below hb).more hb.size)
  have hR : sameX x y = ((q0 && q1) && q2) := by unfold sameX; rw [h0, h1, h2]
  rw [hR]
  rw [h1] at HG
  rw [h2] at HC
  have HG := Lib.hid HG
  have HC := Lib.hid HC
  clear h1 h2 hR hx hy
  generalize x.gs.length = n1 at *
  generalize y.gs.length = n2 at *
  generalize x.cs.length = m1 at *
  generalize y.cs.length = m2 at *
  generalize x.ver = v1 at *
  generalize y.ver = v2 at *
  have HA := Lib.hid ((Blk.new w 28 #[.int .u32 v1, .slice A n1 c, .slice A2 m1 c2]).alloc (.cells #[.int .u32 v2, .slice B n2 d, .slice B2 m2 d2] 28))
  have HB : Hid (Blk ((w.alloc (.cells #[.int .u32 v1, .slice A n1 c, .slice A2 m1 c2] 28)).alloc (.cells #[.int .u32 v2, .slice B n2 d, .slice B2 m2 d2] 28)) (w.heap.size + 1) 28 #[.int .u32 v2, .slice B n2 d, .slice B2 m2 d2]) := Lib.hid (by
    have := Blk.new (w.alloc (.cells #[.int .u32 v1, .slice A n1 c, .slice A2 m1 c2] 28)) 28 #[.int .u32 v2, .slice B n2 d, .slice B2 m2 d2]
    simpa using this)
  have HbX := Lib.hid (bal (bal (Below.refl w.heap.size w) (.cells #[.int .u32 v1, .slice A n1 c, .slice A2 m1 c2] 28)) (.cells #[.int .u32 v2, .slice B n2 d, .slice B2 m2 d2] 28))
  have cA := HA.out.cell
  have cB := HB.out.cell
  go_enter Try.func20, Try.ntmps20
  go_upto_region 1 with (fail)
  generalize (w.alloc (.cells #[.int .u32 v1, .slice A n1 c, .slice A2 m1 c2] 28)).alloc (.cells #[.int .u32 v2, .slice B n2 d, .slice B2 m2 d2] 28) = w0 at *
  rcases q0 with _ | _
  · go_wp2
    go_ret
    exact ⟨rfl, HbX.out⟩
  rcases q1 with _ | _
  · go_wp2_with (go_at_call 38; refine (HG.out _ HbX.out).mono ?_; rintro e w1 ⟨rfl, hb1⟩; have hbx1 := HbX.out.trans (hb1.mono HbX.out.size))
    go_ret
    exact ⟨rfl, hbx1⟩
  · go_wp2_with (first
      | (go_at_call 38; refine (HG.out _ HbX.out).mono ?_; rintro e w1 ⟨rfl, hb1⟩; have hbx1 := HbX.out.trans (hb1.mono HbX.out.size); have cA1 := (HA.out.kept hb1).cell; have cB1 := (HB.out.kept hb1).cell)
      | (go_at_call 40; refine (HC.out _ hbx1).mono ?_; rintro e w2 ⟨rfl, hb2⟩; have hbx2 := hbx1.trans (hb2.mono hbx1.size)))
    go_ret
    exact ⟨rfl, hbx2⟩
end Go.Proofs.Ytmhbpfclfffgkaa
