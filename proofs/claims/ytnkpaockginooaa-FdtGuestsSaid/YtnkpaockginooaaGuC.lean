/- The name of a channel's other end (fdt.peer); walked. -/
import Derived.Test.YtnkpaockginooaaGuA
namespace Go.Proofs.Ytnkpaockginooaa
set_option linter.unusedVariables false
set_option linter.unusedSimpArgs false
open Go.RowKit Go.Sort
theorem peer_in {gs : List (Gs × Gp)} {k : Nat} {g : Gs × Gp} (hk : gs[k]? = some g) : peerG gs (k : Int) = g.1.nm := by
  have hlt := (List.getElem?_eq_some_iff.1 hk).1
  unfold peerG
  rw [if_pos ⟨by omega, by omega⟩, Int.toNat_natCast, List.getD_eq_getElem?_getD, List.getElem?_map, hk]
  rfl
theorem peer_out {gs : List (Gs × Gp)} {o : Int} (h : ¬ (0 ≤ o ∧ o < gs.length)) : peerG gs o = ⟨#[]⟩ := by
  unfold peerG
  rw [if_neg h]
set_option maxRecDepth 100000 in
set_option maxHeartbeats 2000000 in
theorem peer0_any (x : Cf) (A A2 : Option Addr) (c c2 : Nat) (ch : Ch) (w : World) (hR : CfR w w.heap.size x A c A2 c2) :
    Calls Try.prog 55 #[.agg #[.int .u32 x.ver, .slice A x.gs.length c, .slice A2 x.cs.length c2], .agg (encCh ch).toArray, .int .i64 0] w fun e w' => e = .returned (.string (peerG x.gs ch.e1.guest)) ∧ Below w.heap.size w w' := by
  obtain ⟨ch0, ch1, ⟨g0, p0, i0⟩, ⟨g1, p1, i1⟩⟩ := ch
  simp only [encCh]
  generalize hn : x.gs.length = n at *
  generalize hn2 : x.cs.length = n2 at *
  have hb1 := bal (Below.refl w.heap.size w) (.cells #[.int .u32 x.ver, .slice A n c, .slice A2 n2 c2] 48)
  have hb2 := bal' hb1 (.cells #[.int .u64 ch0, .int .u64 ch1, .int .i64 g0, .int .i64 p0, .int .u64 i0, .int .i64 g1, .int .i64 p1, .int .u64 i1] 121) hb1.size
  have cX := ((Blk.new w 48 #[.int .u32 x.ver, .slice A n c, .slice A2 n2 c2]).alloc (.cells #[.int .u64 ch0, .int .u64 ch1, .int .i64 g0, .int .i64 p0, .int .u64 i0, .int .i64 g1, .int .i64 p1, .int .u64 i1] 121)).cell
  have cY := (Blk.fresh (g := w.heap.size + 1) (w.alloc (.cells #[.int .u32 x.ver, .slice A n c, .slice A2 n2 c2] 48)) 121 #[.int .u64 ch0, .int .u64 ch1, .int .i64 g0, .int .i64 p0, .int .u64 i0, .int .i64 g1, .int .i64 p1, .int .u64 i1]).cell
  have HR := Lib.hid hR
  have HB := Lib.hid hb2
  have HN := Lib.hid hn
  clear hR hb1 hb2 hn hn2
  by_cases hin : 0 ≤ g1 ∧ g1 < (n : Int)
  · obtain ⟨k, rfl⟩ := Int.eq_ofNat_of_zero_le hin.1
    have hk : k < x.gs.length := by rw [HN.out]; omega
    obtain ⟨g, hg⟩ : ∃ g, x.gs[k]? = some g := ⟨_, List.getElem?_eq_getElem hk⟩
    obtain ⟨b, o, rfl, hbb, hrow⟩ := conf_row HR.out hg
    have d0 := hrow 0 (.string g.1.nm) rfl
    rw [Nat.add_zero] at d0
    have d1 := (HB.out.cell (p := ⟨b, o + k * 79, none⟩) hbb).trans d0
    have hkn : k < n := by omega
    have e1 : decide ((0 : Int) ≤ (k : Int)) = true := decide_eq_true (by omega)
    have e2 : decide ((k : Int) < (n : Int)) = true := decide_eq_true (by omega)
    have HP := Lib.hid (peer_in hg)
    clear hin hrow d0 hg
    go_enter Try.func55, Try.ntmps55
    go_wp2_with fail
    go_ret
    rw [HP.out]
    exact ⟨rfl, HB.out⟩
  · have HP := Lib.hid (peer_out (gs := x.gs) (o := g1) (by rw [HN.out]; exact hin))
    by_cases h0 : 0 ≤ g1
    · have e1 : decide ((0 : Int) ≤ g1) = true := decide_eq_true h0
      have e2 : decide (g1 < (n : Int)) = false := decide_eq_false (by omega)
      clear hin h0
      go_enter Try.func55, Try.ntmps55
      go_wp2_with fail
      go_ret
      rw [HP.out]
      exact ⟨rfl, HB.out⟩
    · have e1 : decide ((0 : Int) ≤ g1) = false := decide_eq_false h0
      clear hin h0
      go_enter Try.func55, Try.ntmps55
      go_wp2_with fail
      go_ret
      rw [HP.out]
      exact ⟨rfl, HB.out⟩
set_option maxRecDepth 100000 in
set_option maxHeartbeats 2000000 in
theorem peer1_any (x : Cf) (A A2 : Option Addr) (c c2 : Nat) (ch : Ch) (w : World) (hR : CfR w w.heap.size x A c A2 c2) :
    Calls Try.prog 55 #[.agg #[.int .u32 x.ver, .slice A x.gs.length c, .slice A2 x.cs.length c2], .agg (encCh ch).toArray, .int .i64 1] w fun e w' => e = .returned (.string (peerG x.gs ch.e0.guest)) ∧ Below w.heap.size w w' := by
  obtain ⟨ch0, ch1, ⟨g0, p0, i0⟩, ⟨g1, p1, i1⟩⟩ := ch
  simp only [encCh]
  generalize hn : x.gs.length = n at *
  generalize hn2 : x.cs.length = n2 at *
  have hb1 := bal (Below.refl w.heap.size w) (.cells #[.int .u32 x.ver, .slice A n c, .slice A2 n2 c2] 48)
  have hb2 := bal' hb1 (.cells #[.int .u64 ch0, .int .u64 ch1, .int .i64 g0, .int .i64 p0, .int .u64 i0, .int .i64 g1, .int .i64 p1, .int .u64 i1] 121) hb1.size
  have cX := ((Blk.new w 48 #[.int .u32 x.ver, .slice A n c, .slice A2 n2 c2]).alloc (.cells #[.int .u64 ch0, .int .u64 ch1, .int .i64 g0, .int .i64 p0, .int .u64 i0, .int .i64 g1, .int .i64 p1, .int .u64 i1] 121)).cell
  have cY := (Blk.fresh (g := w.heap.size + 1) (w.alloc (.cells #[.int .u32 x.ver, .slice A n c, .slice A2 n2 c2] 48)) 121 #[.int .u64 ch0, .int .u64 ch1, .int .i64 g0, .int .i64 p0, .int .u64 i0, .int .i64 g1, .int .i64 p1, .int .u64 i1]).cell
  have HR := Lib.hid hR
  have HB := Lib.hid hb2
  have HN := Lib.hid hn
  clear hR hb1 hb2 hn hn2
  by_cases hin : 0 ≤ g0 ∧ g0 < (n : Int)
  · obtain ⟨k, rfl⟩ := Int.eq_ofNat_of_zero_le hin.1
    have hk : k < x.gs.length := by rw [HN.out]; omega
    obtain ⟨g, hg⟩ : ∃ g, x.gs[k]? = some g := ⟨_, List.getElem?_eq_getElem hk⟩
    obtain ⟨b, o, rfl, hbb, hrow⟩ := conf_row HR.out hg
    have d0 := hrow 0 (.string g.1.nm) rfl
    rw [Nat.add_zero] at d0
    have d1 := (HB.out.cell (p := ⟨b, o + k * 79, none⟩) hbb).trans d0
    have hkn : k < n := by omega
    have e1 : decide ((0 : Int) ≤ (k : Int)) = true := decide_eq_true (by omega)
    have e2 : decide ((k : Int) < (n : Int)) = true := decide_eq_true (by omega)
    have HP := Lib.hid (peer_in hg)
    clear hin hrow d0 hg
    go_enter Try.func55, Try.ntmps55
    go_wp2_with fail
    go_ret
    rw [HP.out]
    exact ⟨rfl, HB.out⟩
  · have HP := Lib.hid (peer_out (gs := x.gs) (o := g0) (by rw [HN.out]; exact hin))
    by_cases h0 : 0 ≤ g0
    · have e1 : decide ((0 : Int) ≤ g0) = true := decide_eq_true h0
      have e2 : decide (g0 < (n : Int)) = false := decide_eq_false (by omega)
      clear hin h0
      go_enter Try.func55, Try.ntmps55
      go_wp2_with fail
      go_ret
      rw [HP.out]
      exact ⟨rfl, HB.out⟩
    · have e1 : decide ((0 : Int) ≤ g0) = false := decide_eq_false h0
      clear hin h0
      go_enter Try.func55, Try.ntmps55
      go_wp2_with fail
      go_ret
      rw [HP.out]
      exact ⟨rfl, HB.out⟩
end Go.Proofs.Ytnkpaockginooaa
