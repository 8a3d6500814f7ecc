/- Chapter 10, the store: a write that is torn. -/
import Derived.Test.YtpenjfkdinmgmaaNvC
namespace Go.Proofs.Ytpenjfkdinmgmaa
set_option linter.unusedVariables false
open Go.RowKit Go.Sort

set_option maxHeartbeats 1000000 in
theorem write_torn (g : Nat) (base : Nat → Prop) (s : Stt) (j : Nat) (x : Int) (p : Int × Int) (cs : List (Int × Int)) (w : World) (h : Sto w base g s) (ho : s.on = true) (hj : j < s.ws.length) (hcs : s.cs = p :: cs) (hs : p.1 = s.k) :
    Calls Try.prog 30 #[.pointer (some ⟨g, 0, none⟩), .int .i64 j, .int .u32 x] w fun e w' => e = .returned (.int .i64 100) ∧ Sto w' base g { s with on := false, ws := s.ws.set j (tornW p.2 x (s.ws.getD j 0)) } ∧ Near base w w' := by
  have hlen := s.ws.length_set (i := j) (a := tornW p.2 x (s.ws.getD j 0))
  have HX := Lib.hid (flat_set s.ws j (tornW p.2 x (s.ws.getD j 0)))
  have HS := Lib.hid (show strikesN s = true by unfold strikesN; rw [hcs]; simpa using hs)
  obtain ⟨cv, gw, cap, hB, hg, hc, hown, hbw, hne, hgl, hcap, cur, hW⟩ := h.open (by omega)
  have HO := Lib.hid ho
  have HF := Lib.hid (flat_get s.ws j hj)
  have hc' := hc
  obtain ⟨A, c, rfl, hcc, hx⟩ := hc'
  obtain ⟨gc, off, cc, rfl, hgc, hC, hcj⟩ := hx (by rw [hcs]; simp)
  have hc1 := hcj 1 (by rw [hcs]; simp; omega)
  rw [hcs] at hc1
  simp [encC] at hc1
  have HC := Lib.hid hc1
  have hpos : 0 < s.cs.length := by rw [hcs]; simp
  rw [ho] at hB
  have hB1 := hB
  clear hs ho hx hcj hcs hc1
  generalize hn : s.ws.length = n at *
  clear hn
  generalize hm : s.cs.length = m at *
  clear hm
  go_enter Try.func30, Try.ntmps30
  go_wp2_with (first
    | (go_at_call 42; refine (dead_any g true s.k _ _ _ hB).mono ?_; rintro e w1 ⟨rfl, rfl⟩; have hcl := hB.cell; have hfz := hB.frozen)
    | (go_at_call 43; refine (strikes_any g base s _ h).mono ?_; rintro e w1 ⟨rfl, hb1⟩; rw [HS.out]; have hB2 := hB.kept hb1; have hown2 := own_kept hown hb1; clear hcl hfz; have hcl2 := hB2.cell; have hfz2 := hB2.frozen; have hf2 := hown2.frozenAt j; have hd2 := hown2.cellAt j (by omega); rw [HF.out] at hd2; have hC2 := hC.kept hb1; have hc2 := hC2.cell (off + 1); rw [HC.out] at hc2))
  have hW2 := hW.kept hb1
  have hb2 : Near base w w1 := Near.of_below base hb1
  have hc3 := hc.kept hb1
  have e0 := blk_regrown hB2
  have e1 : ∀ (d : Nat) (os : Array Obj), (grow (redrawn w1 d) os).cell? ⟨gw, j, none⟩ = some (.int .u32 (s.ws.getD j 0)) := fun d os => ((below_regrown w1 d os).cell (p := ⟨gw, j, none⟩) hW2.lt).trans hd2
  clear hcl2 hfz2 hf2 hd2 hc2 hB hB1 hown hC hc
  refine wp_region_tail_below 19 (by kernel_rfl) (by kernel_rfl) ?_
  simp only [List.take_succ_cons, List.take_zero, List.drop_succ_cons, List.drop_zero]
  repeat (quiet_step (fail))
  refine wpQuiet_nil ?_
  rintro w4 ⟨p4, rfl⟩
  have hb4 := hb2.trans (Near.of_below base (below_regrown w1 p4.d p4.os))
  have hB4 := hB2.kept (below_regrown w1 p4.d p4.os)
  have hW4 := hW2.kept (below_regrown w1 p4.d p4.os)
  have hc4 := hc3.kept (below_regrown w1 p4.d p4.os)
  have hown4 := own_kept hown2 (below_regrown w1 p4.d p4.os)
  generalize grow (redrawn w1 p4.d) p4.os = w4 at *
  clear e0 e1 hB2 hW2 hc3 hown2 hb1 hb2 hC2
  have hcl4 := hB4.cell
  have hfz4 := hB4.frozen
  have hf4 := hown4.frozenAt j
  have hd4 := hown4.cellAt j (by omega)
  rw [HF.out] at hd4
  go_wp2
  go_ret
  refine ⟨rfl, ⟨.slice (some ⟨gc, off, none⟩) m c, .slice (some ⟨gw, 0, none⟩) n cap, ?_, hg, ?_, ?_⟩, ?_⟩
  · exact (hB4.far (p := ⟨gw, j, none⟩) (Ne.symm hne) _).set_ 0 (.bool false)
  · exact (hc4.far (p := ⟨gw, j, none⟩) hW4 (by decide) _).far (p := ⟨g, 0, none⟩) (hB4.far (p := ⟨gw, j, none⟩) (Ne.symm hne) _) (by decide) _
  · have := own_far (hown4.stored j (.int .u32 (tornW p.2 x (s.ws.getD j 0)))).1 (p := ⟨g, 0, none⟩) hne (.bool false)
    rw [HX.out] at this
    have e := hlen
    rw [List.length_set] at e
    exact ⟨by simpa [e, tornW] using this, fun k hk => by simp only [Value.ownBlock, Option.some.injEq] at hk; exact hk ▸ hbw⟩
  · exact (hb4.setCell (p := ⟨gw, j, none⟩) hbw _).setCell (p := ⟨g, 0, none⟩) hg _
end Go.Proofs.Ytpenjfkdinmgmaa
