/- The tree of any guest: the law's walk. -/
import Derived.Test.YtnkpaockginooaaGuD
import Derived.Test.YtnkpaockginooaaGuF
import Derived.Test.YtnkpaockginooaaTreeJ
namespace Go.Proofs.Ytnkpaockginooaa
set_option linter.unusedVariables false
set_option linter.unusedSimpArgs false
open Go.RowKit Go.Sort
set_option maxRecDepth 100000 in
set_option maxHeartbeats 4000000 in
theorem fdtGuests_any (x : Cf) (A A2 : Option Addr) (c c2 : Nat) (gi : Int) (hgi : inI64 gi) (w : World) (hR : CfR w w.heap.size x A c A2 c2) :
    Calls Try.prog 6 #[.agg #[.int .u32 x.ver, .slice A x.gs.length c, .slice A2 x.cs.length c2], .int .i64 gi] w fun e w' => e = .returned (.bool true) ∧ Below w.heap.size w w' := by
  have HFew := Lib.hid (fun W (hb : Below w.heap.size w W) => few_conf hR W hb)
  have hC0 := Blk.new w 48 #[.int .u32 x.ver, .slice A x.gs.length c, .slice A2 x.cs.length c2]
  have hb0 := bal (Below.refl w.heap.size w) (.cells #[.int .u32 x.ver, .slice A x.gs.length c, .slice A2 x.cs.length c2] 48)
  have HR := Lib.hid hR
  rcases hf : fewN x.gs.length x.cs.length (x.gs.map toGd) with _ | _
  · rw [hf] at HFew
    generalize x.gs.length = n at *
    generalize x.cs.length = n2 at *
    clear hf hR
    go_enter Try.func6, Try.ntmps6
    go_upto_region 1 with (fail)
    generalize w.alloc (.cells #[.int .u32 x.ver, .slice A n c, .slice A2 n2 c2] 48) = w0 at *
    go_wp2_with (first
      | (go_at_call 13; refine (awake24_any _).mono ?_; rintro e w1 ⟨rfl, hb1⟩; have hC1 := hC0.kept hb1; have cC1 := hC1.cell; have hbl1 := hb0.trans (hb1.mono hb0.size))
      | (go_at_call 24; refine (HFew.out _ hbl1).mono ?_; rintro e w2 ⟨rfl, hb2⟩; have hbl2 := hbl1.trans (hb2.mono hbl1.size)))
    go_ret
    exact ⟨rfl, hbl2⟩
  · have HG1 := Lib.hid (fun W (hb : Below w.heap.size w W) => guest_any x A A2 c c2 gi hgi W ((hR.below hb).more hb.size) hf)
    have HG2 := Lib.hid (fun W (hb : Below w.heap.size w W) => rguest_any x A A2 c c2 gi hgi W ((hR.below hb).more hb.size) hf)
    rw [hf] at HFew
    obtain ⟨T, en, hga⟩ : ∃ T en, guestA x gi = (T, en) := ⟨_, _, rfl⟩
    have HH1 := Lib.hid (fun W (hb : Below w.heap.size w W) => (HG1.out W hb).mono (R' := fun e w' => ∃ v, e = .returned (.tuple #[v, .int .i64 en]) ∧ TrP (fun _ => False) T w' v ∧ Below W.heap.size W w') fun e w' h => by unfold GuestP at h; rw [hga] at h; exact h)
    have HH2 := Lib.hid (fun W (hb : Below w.heap.size w W) => (HG2.out W hb).mono (R' := fun e w' => ∃ v, e = .returned (.tuple #[v, .int .i64 en]) ∧ TrP (fun _ => False) T w' v ∧ Below W.heap.size W w') fun e w' h => by unfold GuestP at h; rw [hga] at h; exact h)
    clear HG1 HG2 hga hf hR
    generalize x.gs.length = n at *
    generalize x.cs.length = n2 at *
    go_enter Try.func6, Try.ntmps6
    go_upto_region 1 with (fail)
    generalize w.alloc (.cells #[.int .u32 x.ver, .slice A n c, .slice A2 n2 c2] 48) = w0 at *
    go_wp2_with (first
      | (go_at_call 13; refine (awake24_any _).mono ?_; rintro e w1 ⟨rfl, hb1⟩; have hC1 := hC0.kept hb1; have cC1 := hC1.cell; have hbl1 := hb0.trans (hb1.mono hb0.size))
      | (go_at_call 24; refine (HFew.out _ hbl1).mono ?_; rintro e w2 ⟨rfl, hb2⟩; have hbl2 := hbl1.trans (hb2.mono hbl1.size); have hC2 := hC1.kept hb2; have cC2 := hC2.cell)
      | (go_at_call 25; refine (HH1.out _ hbl2).mono ?_; rintro e w3 ⟨v3, rfl, hT3, hb3⟩; obtain ⟨A3, c3, B3, d3, hv3, k3, hx3⟩ := hT3.cells; generalize T.nm = q0 at hv3 hx3; generalize T.ps.length = q1 at hv3 hx3; generalize T.ks.length = q2 at hv3 hx3; subst hv3; have hbl3 := hbl2.trans (hb3.mono hbl2.size); have hba3 := bal (Below.refl w3.heap.size w3) (.cells #[.string q0, .slice A3 q1 c3, .slice B3 q2 d3] 25); have hX4 := hx3.kept hba3; have hT4 := Blk.new w3 25 #[.string q0, .slice A3 q1 c3, .slice B3 q2 d3]; have hC4 := (hC2.kept hb3).kept hba3; have cC4 := hC4.cell; have hbl4 := hbl3.trans (hba3.mono hbl3.size); clear cC1 cC2)
      | (go_at_call 26; refine (HH2.out _ hbl4).mono ?_; rintro e w5 ⟨v5, rfl, hT5, hb5⟩; obtain ⟨A5, c5, B5, d5, hv5, k5, hx5⟩ := hT5.cells; generalize T.nm = p0 at hv5 hx5; generalize T.ps.length = p1 at hv5 hx5; generalize T.ks.length = p2 at hv5 hx5; subst hv5; have hbl5 := hbl4.trans (hb5.mono hbl4.size); have hba5 := bal (Below.refl w5.heap.size w5) (.cells #[.string p0, .slice A5 p1 c5, .slice B5 p2 d5] 25); have hX6 := (hX4.kept hb5).kept hba5; have hY6 := hx5.kept hba5; have hT6 := (hT4.kept hb5).kept hba5; have cT6 := hT6.cell; have hU6 := Blk.new w5 25 #[.string p0, .slice A5 p1 c5, .slice B5 p2 d5]; have cU6 := hU6.cell; have hbl6 := hbl5.trans (hba5.mono hbl5.size); have HSm := Lib.hid (refSame_any _ _ T T _ _ _ hX6.ok hY6.ok); clear cC4)
      | (go_at_call 20; refine HSm.out.mono ?_; rintro e w7 ⟨rfl, hb7⟩; have hbl7 := hbl6.trans (hb7.mono hbl6.size)))
    go_ret
    rw [eqv_t rfl]
    exact ⟨rfl, hbl7⟩
end Go.Proofs.Ytnkpaockginooaa
