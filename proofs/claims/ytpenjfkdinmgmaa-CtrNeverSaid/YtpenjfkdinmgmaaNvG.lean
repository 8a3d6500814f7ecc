/- Chapter 10, the store of the document's answer. -/
import Derived.Test.YtpenjfkdinmgmaaNvS
import Derived.Test.YtpenjfkdinmgmaaNvW
namespace Go.Proofs.Ytpenjfkdinmgmaa
set_option linter.unusedVariables false
open Go.RowKit Go.Sort

/-- The document's store in memory; its cuts lie below b0. -/
def RSto (w : World) (b0 : Nat) (base : Nat → Prop) (g : Nat) (s : Stt) : Prop :=
  ∃ A c wv, Blk w g 41 #[wv, .slice A s.cs.length c, .int .i64 s.k, .bool (!s.on)] ∧ (∀ k, base k → b0 ≤ k) ∧ base g ∧ s.cs.length ≤ c ∧ Rd w b0 2 A s.cs.length (s.cs.flatMap encC) ∧ OwnS w base 23 1 wv s.ws.length (s.ws.flatMap encU)
theorem Rd.kept {w w' : World} {B size n : Nat} {A : Option Addr} {xs : List Value} (h : Rd w B size A n xs) (hb : Below w.heap.size w w') (hB : B ≤ w.heap.size) : Rd w' B size A n xs := h.below (hb.mono hB)
theorem RSto.kept {w w' : World} {base : Nat → Prop} {b0 g : Nat} {s : Stt} (h : RSto w b0 base g s) (hb : Below w.heap.size w w') : RSto w' b0 base g s := by
  obtain ⟨A, c, wv, hB, h0, hg, hc, hr, ho⟩ := h
  exact ⟨A, c, wv, hB.kept hb, h0, hg, hc, hr.kept hb (by have := hB.lt; have := h0 _ hg; omega), ho.kept hb⟩
theorem RSto.near {S' : Nat → Prop} {w w' : World} {base : Nat → Prop} {b0 g : Nat} {s : Stt} (h : RSto w b0 base g s) (hb : Near S' w w') (hn : ∀ k, base k → ¬ S' k) (h1 : ∀ k, S' k → b0 ≤ k) (h2 : b0 ≤ w.heap.size) : RSto w' b0 base g s := by
  obtain ⟨A, c, wv, hB, h0, hg, hc, hr, ho⟩ := h
  exact ⟨A, c, wv, hB.same (hb.block _ hB.lt (hn _ hg)), h0, hg, hc, hr.below (hb.below h1 h2), ho.near hb hn⟩
theorem rsto_row {w : World} {base : Nat → Prop} {g t n : Nat} {cs : Array Value} {wv : Value} {ws : List Value} (hB : Blk w g t cs) (ho : OwnS w base 23 1 wv n ws) (hne : 23 ≠ t) (p : Addr) (hp : p.block = g) (u : Value) : OwnS (w.setCell p u) base 23 1 wv n ws :=
  ho.set p (by rw [hp]; exact own_blk_ne ho.1 hB hne) u
theorem or_u32_comm' (a b : Int) : bits .or .u32 a b = bits .or .u32 b a := by
  show IntKind.u32.wrap ((BitVec.ofInt 32 a ||| BitVec.ofInt 32 b).toNat : Int) = IntKind.u32.wrap ((BitVec.ofInt 32 b ||| BitVec.ofInt 32 a).toNat : Int)
  rw [BitVec.or_comm]

set_option maxHeartbeats 1000000 in
theorem rwrite_dead (g b0 : Nat) (base : Nat → Prop) (s : Stt) (i x : Int) (w : World) (h : RSto w b0 base g s) (ho : s.on = false) :
    Calls Try.prog 39 #[.pointer (some ⟨g, 0, none⟩), .int .i64 i, .int .u32 x] w fun e w' => e = .returned (.int .i64 100) ∧ w = w' := by
  obtain ⟨A, c, wv, hB, h0, hg, hc, hr, hown⟩ := h
  rw [ho] at hB
  have hcl := hB.cell
  clear hr hown hB
  go_enter Try.func39, Try.ntmps39
  go_wp2
  go_ret
  exact ⟨rfl, rfl⟩

set_option maxHeartbeats 1000000 in
theorem rwrite_out (g b0 : Nat) (base : Nat → Prop) (s : Stt) (i x : Int) (w : World) (h : RSto w b0 base g s) (ho : s.on = true) (hi : i < 0 ∨ (s.ws.length : Int) ≤ i) :
    Calls Try.prog 39 #[.pointer (some ⟨g, 0, none⟩), .int .i64 i, .int .u32 x] w fun e w' => e = .returned (.int .i64 1) ∧ w = w' := by
  obtain ⟨A, c, wv, hB, h0, hg, hc, hr, hown⟩ := h
  obtain ⟨A2, c2, rfl, hc2, hr2⟩ := own_slice hown.1
  rw [ho] at hB
  have hcl := hB.cell
  clear hr hown hB hr2
  rcases hi with hi | hi
  all_goals
    go_enter Try.func39, Try.ntmps39
    go_wp2
    go_ret
    exact ⟨rfl, rfl⟩

/-- What the document's store is in memory, written out. -/
theorem RSto.open {w : World} {base : Nat → Prop} {b0 g : Nat} {s : Stt} (h : RSto w b0 base g s) (hn : 0 < s.ws.length) : ∃ A c gw cap, Blk w g 41 #[.slice (some ⟨gw, 0, none⟩) s.ws.length cap, .slice A s.cs.length c, .int .i64 s.k, .bool (!s.on)] ∧ (∀ k, base k → b0 ≤ k) ∧ base g ∧ s.cs.length ≤ c ∧ Rd w b0 2 A s.cs.length (s.cs.flatMap encC) ∧
    w.ownsRow 0 23 1 (.slice (some ⟨gw, 0, none⟩) s.ws.length cap) s.ws.length (s.ws.flatMap encU) ∧ base gw ∧ gw ≠ g ∧ gw < w.heap.size ∧ s.ws.length ≤ cap ∧ ∃ cur, Blk w gw 23 cur := by
  obtain ⟨A, c, wv, hB, h0, hg, hc, hr, ho⟩ := h
  obtain ⟨ho, hs⟩ := ho
  rcases ho.2 with ⟨rfl, h0⟩ | ⟨gw, cap, cur, rfl, _, hW, hnc, _⟩
  · omega
  · exact ⟨A, c, gw, cap, hB, h0, hg, hc, hr, ho, hs gw (by simp [Value.ownBlock]), Blk.ne_ hW hB (by decide), Blk.lt hW, hnc, cur, hW⟩

set_option maxHeartbeats 1000000 in
theorem rwrite_ok (g b0 : Nat) (base : Nat → Prop) (s : Stt) (j : Nat) (x : Int) (w : World) (h : RSto w b0 base g s) (ho : s.on = true) (hj : j < s.ws.length) (hs : strikesN s = false) (hk0 : 0 ≤ s.k) (hk1 : s.k < 1000000) :
    Calls Try.prog 39 #[.pointer (some ⟨g, 0, none⟩), .int .i64 j, .int .u32 x] w fun e w' => e = .returned (.int .i64 0) ∧ RSto w' b0 base g { s with k := s.k + 1, ws := s.ws.set j x } ∧ Near base w w' := by
  have hlen := s.ws.length_set (i := j) (a := x)
  have HX := Lib.hid (flat_set s.ws j x)
  obtain ⟨A, c, gw, cap, hB, hb0, hg, hc, hr, hown, hbw, hne, hgl, hcap, cur, hW⟩ := h.open (by omega)
  have hbw0 := hb0 _ hbw
  have hbg0 := hb0 _ hg
  have HO := Lib.hid ho
  rw [ho] at hB
  have H : ∀ w1, Below w.heap.size w w1 → RSto ((w1.setCell ⟨gw, j, none⟩ (.int .u32 x)).setCell ⟨g, 2, none⟩ (.int .i64 (s.k + 1))) b0 base g { s with k := s.k + 1, ws := s.ws.set j x } ∧ Near base w ((w1.setCell ⟨gw, j, none⟩ (.int .u32 x)).setCell ⟨g, 2, none⟩ (.int .i64 (s.k + 1))) := by
    intro w1 hb1
    have hb2 : Near base w w1 := Near.of_below base hb1
    have hB2 := hB.kept hb1
    refine ⟨⟨A, c, .slice (some ⟨gw, 0, none⟩) s.ws.length cap, ?_, hb0, hg, hc, ?_, ?_⟩, (hb2.setCell (p := ⟨gw, j, none⟩) hbw _).setCell (p := ⟨g, 2, none⟩) hg _⟩
    · have := (hB2.far (p := ⟨gw, j, none⟩) (Ne.symm hne) (.int .u32 x)).set_ 2 (.int .i64 (s.k + 1))
      simpa [HO.out] using this
    · exact ((hr.kept hb1 (by have := hB.lt; omega)).setCell (p := ⟨gw, j, none⟩) (by simp; omega) _).setCell (p := ⟨g, 2, none⟩) (by simp; omega) _
    · have := own_far ((own_kept hown hb1).stored j (.int .u32 x)).1 (p := ⟨g, 2, none⟩) hne (.int .i64 (s.k + 1))
      rw [HX.out] at this
      exact ⟨by simpa [hlen] using this, fun k hk => by simp only [Value.ownBlock, Option.some.injEq] at hk; exact hk ▸ hbw⟩
  have HH := Lib.hid H
  have HF := Lib.hid (flat_get s.ws j hj)
  have hgn := Ne.symm hne
  clear H ho
  have hcl := hB.cell
  generalize hn : s.ws.length = n at *
  clear hn hlen
  rcases hcs : s.cs with _ | ⟨p, cs⟩
  · simp only [hcs, List.length_nil] at hB hcl hr hc
    clear hr hc hs
    go_enter Try.func39, Try.ntmps39
    go_wp2
    refine wp_region_quiet_below (by kernel_rfl) (by kernel_rfl) ?_
    have e0 := blk_regrown hB
    repeat (go_big_quiet_step (fail))
    refine wpQuiet_nil ?_
    rintro w7 ⟨p, rfl⟩
    have hb7 := below_regrown w p.d p.os
    generalize grow (redrawn w p.d) p.os = w7 at hb7 ⊢
    clear e0 hcl
    have hcl := (hB.kept hb7).cell
    have hfz := (hB.kept hb7).frozen
    have hf2 := (own_kept hown hb7).frozenAt j
    have hd2 := (own_kept hown hb7).cellAt j (by omega)
    rw [HF.out] at hd2
    go_wp2
    go_ret
    have := HH.out w7 hb7
    simp only [hcs] at this
    exact ⟨rfl, this⟩
  · obtain ⟨bc, oc, rfl, hbc, hcc⟩ := hr.2 (by rw [hcs]; simp)
    have hc0 := hcc 0 (.int .i64 p.1) (by rw [hcs]; simp [encC])
    have hps : (p.1 == s.k) = false := by simpa [strikesN, hcs] using hs
    rw [Nat.add_zero] at hc0
    have e1 : ∀ (d : Nat) (os : Array Obj), (grow (redrawn w d) os).cell? ⟨bc, oc, none⟩ = some (.int .i64 p.1) := fun d os => ((below_regrown w d os).cell (p := ⟨bc, oc, none⟩) (by have : bc < b0 := hbc; show bc < _; omega)).trans hc0
    have hpos : (0 : Int) < (s.cs.length : Int) := by rw [hcs]; simp
    have hpos' : 0 < s.cs.length := by omega
    generalize hm : s.cs.length = m at *
    have HCS := Lib.hid hcs
    clear hcc hcs hm hr hs
    go_enter Try.func39, Try.ntmps39
    go_wp2
    refine wp_region_quiet_below (by kernel_rfl) (by kernel_rfl) ?_
    have e0 := blk_regrown hB
    repeat (go_big_quiet_step (fail))
    refine wpQuiet_nil ?_
    rintro w7 ⟨p7, rfl⟩
    have hb7 := below_regrown w p7.d p7.os
    generalize grow (redrawn w p7.d) p7.os = w7 at hb7 ⊢
    clear e0 hcl e1
    have hcl := (hB.kept hb7).cell
    have hfz := (hB.kept hb7).frozen
    have hf2 := (own_kept hown hb7).frozenAt j
    have hd2 := (own_kept hown hb7).cellAt j (by omega)
    rw [HF.out] at hd2
    go_wp2
    go_ret
    have := HH.out w7 hb7
    simp only [HCS.out] at this
    exact ⟨rfl, this⟩

set_option maxHeartbeats 1000000 in
theorem rwrite_torn (g b0 : Nat) (base : Nat → Prop) (s : Stt) (j : Nat) (x : Int) (p : Int × Int) (cs : List (Int × Int)) (w : World) (h : RSto w b0 base g s) (ho : s.on = true) (hj : j < s.ws.length) (hcs : s.cs = p :: cs) (hs : p.1 = s.k) :
    Calls Try.prog 39 #[.pointer (some ⟨g, 0, none⟩), .int .i64 j, .int .u32 x] w fun e w' => e = .returned (.int .i64 100) ∧ RSto w' b0 base g { s with on := false, ws := s.ws.set j (tornW p.2 x (s.ws.getD j 0)) } ∧ Near base w w' := by
  have hlen := s.ws.length_set (i := j) (a := tornW p.2 x (s.ws.getD j 0))
  have HX := Lib.hid (flat_set s.ws j (tornW p.2 x (s.ws.getD j 0)))
  obtain ⟨A, c, gw, cap, hB, hb0, hg, hc, hr, hown, hbw, hne, hgl, hcap, cur, hW⟩ := h.open (by omega)
  have hbw0 := hb0 _ hbw
  have hbg0 := hb0 _ hg
  have hT : tornW p.2 x (s.ws.getD j 0) = bits .or .u32 (bits .and .u32 x p.2) (bits .andNot .u32 (s.ws.getD j 0) p.2) := or_u32_comm' _ _
  rw [ho] at hB
  have H : ∀ w1, Below w.heap.size w w1 → RSto ((w1.setCell ⟨gw, j, none⟩ (.int .u32 (bits .or .u32 (bits .and .u32 x p.2) (bits .andNot .u32 (s.ws.getD j 0) p.2)))).setCell ⟨g, 3, none⟩ (.bool true)) b0 base g { s with on := false, ws := s.ws.set j (tornW p.2 x (s.ws.getD j 0)) } ∧ Near base w ((w1.setCell ⟨gw, j, none⟩ (.int .u32 (bits .or .u32 (bits .and .u32 x p.2) (bits .andNot .u32 (s.ws.getD j 0) p.2)))).setCell ⟨g, 3, none⟩ (.bool true)) := by
    rw [← hT]
    intro w1 hb1
    have hb2 : Near base w w1 := Near.of_below base hb1
    have hB2 := hB.kept hb1
    refine ⟨⟨A, c, .slice (some ⟨gw, 0, none⟩) s.ws.length cap, ?_, hb0, hg, hc, ?_, ?_⟩, (hb2.setCell (p := ⟨gw, j, none⟩) hbw _).setCell (p := ⟨g, 3, none⟩) hg _⟩
    · have := (hB2.far (p := ⟨gw, j, none⟩) (Ne.symm hne) (.int .u32 (tornW p.2 x (s.ws.getD j 0)))).set_ 3 (.bool true)
      simpa using this
    · exact ((hr.kept hb1 (by have := hB.lt; omega)).setCell (p := ⟨gw, j, none⟩) (by simp; omega) _).setCell (p := ⟨g, 3, none⟩) (by simp; omega) _
    · have := own_far ((own_kept hown hb1).stored j (.int .u32 (tornW p.2 x (s.ws.getD j 0)))).1 (p := ⟨g, 3, none⟩) hne (.bool true)
      rw [HX.out] at this
      exact ⟨by rw [hlen]; exact this, fun k hk => by simp only [Value.ownBlock, Option.some.injEq] at hk; exact hk ▸ hbw⟩
  have HH := Lib.hid H
  have HF := Lib.hid (flat_get s.ws j hj)
  have hgn := Ne.symm hne
  clear H ho hT HX
  obtain ⟨bc, oc, rfl, hbc, hcc⟩ := hr.2 (by rw [hcs]; simp)
  have hc0 := hcc 0 (.int .i64 p.1) (by rw [hcs]; simp [encC])
  have hc1 := hcc 1 (.int .u32 p.2) (by rw [hcs]; simp [encC])
  rw [Nat.add_zero] at hc0
  have hbc' : bc < w.heap.size := by have : bc < b0 := hbc; omega
  have e1 : ∀ (d : Nat) (os : Array Obj), (grow (redrawn w d) os).cell? ⟨bc, oc, none⟩ = some (.int .i64 p.1) := fun d os => ((below_regrown w d os).cell (p := ⟨bc, oc, none⟩) hbc').trans hc0
  have hps : (p.1 == s.k) = true := by simpa using hs
  have HP := Lib.hid hps
  have hpos : (0 : Int) < (s.cs.length : Int) := by rw [hcs]; simp
  have hpos' : 0 < s.cs.length := by omega
  generalize hn : s.ws.length = n at *
  generalize hm : s.cs.length = m at *
  have hcl := hB.cell
  clear hn hlen hcc hcs hm hr hs
  go_enter Try.func39, Try.ntmps39
  go_wp2
  refine wp_region_quiet_below (by kernel_rfl) (by kernel_rfl) ?_
  have e0 := blk_regrown hB
  repeat (go_big_quiet_step (fail))
  refine wpQuiet_nil ?_
  rintro w7 ⟨p7, rfl⟩
  have hb7 := below_regrown w p7.d p7.os
  have hc17 := ((below_regrown w p7.d p7.os).cell (p := ⟨bc, oc + 1, none⟩) hbc').trans hc1
  generalize grow (redrawn w p7.d) p7.os = w7 at hb7 hc17 ⊢
  clear e0 hcl e1 hc0 hc1
  have hB7 := hB.kept hb7
  have hW7 := hW.kept hb7
  have hown7 := own_kept hown hb7
  have hcl := hB7.cell
  go_wp2
  have hd2 := hown7.cellAt j (by omega)
  rw [HF.out] at hd2
  have e0 := blk_regrown hB7
  have e1 : ∀ (d : Nat) (os : Array Obj), (grow (redrawn w7 d) os).cell? ⟨gw, j, none⟩ = some (.int .u32 (s.ws.getD j 0)) := fun d os => ((below_regrown w7 d os).cell (p := ⟨gw, j, none⟩) hW7.lt).trans hd2
  clear hcl hc17
  refine wp_region_tail_below 19 (by kernel_rfl) (by kernel_rfl) ?_
  simp only [List.take_succ_cons, List.take_zero, List.drop_succ_cons, List.drop_zero]
  repeat (quiet_step (fail))
  refine wpQuiet_nil ?_
  rintro w4 ⟨p4, rfl⟩
  have hb4 := hb7.trans ((below_regrown w7 p4.d p4.os).mono hb7.size)
  generalize grow (redrawn w7 p4.d) p4.os = w4 at *
  clear e0 e1
  have hcl4 := (hB.kept hb4).cell
  have hfz4 := (hB.kept hb4).frozen
  have hf4 := (own_kept hown hb4).frozenAt j
  have hd4 := (own_kept hown hb4).cellAt j (by omega)
  rw [HF.out] at hd4
  go_wp2
  go_ret
  exact ⟨rfl, HH.out w4 hb4⟩

theorem rd_tail {w : World} {b0 n c : Nat} {p : Int × Int} {cs : List (Int × Int)} {A : Option Addr} (h : Rd w b0 2 A n ((p :: cs).flatMap encC)) (hn : n = (p :: cs).length) (hc : n ≤ c) :
    ∃ b off, A = some ⟨b, off, none⟩ ∧ Rd w b0 2 (some (if c = 1 then ⟨b, off, none⟩ else ⟨b, off + 2, none⟩)) cs.length (cs.flatMap encC) := by
  subst hn
  obtain ⟨b, off, rfl, hb, hcc⟩ := h.2 (by simp)
  refine ⟨b, off, rfl, by simp [flatMap_length (enc := encC) (s := 2) (fun _ => rfl)], fun hn => ?_⟩
  have h1 : c ≠ 1 := by simp at hc; omega
  rw [if_neg h1]
  refine ⟨b, off + 2, rfl, hb, fun j u hu => ?_⟩
  have := hcc (2 + j) u (by rw [List.flatMap_cons, List.getElem?_append_right (by simp [encC])]; simpa [encC] using hu)
  rwa [← Nat.add_assoc] at this

set_option maxHeartbeats 1000000 in
theorem rreboot_any (g b0 : Nat) (base : Nat → Prop) (s : Stt) (w : World) (h : RSto w b0 base g s) :
    Calls Try.prog 22 #[.pointer (some ⟨g, 0, none⟩)] w fun e w' => e = .returned (.tuple #[]) ∧ RSto w' b0 base g (upN s) ∧ Near base w w' := by
  obtain ⟨A, c, wv, hB, h0, hg, hc, hr, ho⟩ := h
  obtain ⟨on, k, cs, ws⟩ := s
  simp only at *
  have hcl := hB.cell
  have hfz := hB.frozen
  have hg0 := h0 _ hg
  have r1 := rsto_row hB ho (by decide) ⟨g, 3, none⟩ rfl (.bool false)
  have B1 := hB.set_ 3 (.bool false)
  have r2 := rsto_row B1 r1 (by decide) ⟨g, 2, none⟩ rfl (.int .i64 0)
  have B2 := B1.set_ 2 (.int .i64 0)
  have d2 := (hr.setCell (p := ⟨g, 3, none⟩) (by simp; omega) (.bool false)).setCell (p := ⟨g, 2, none⟩) (by simp; omega) (.int .i64 0)
  have b2 : Near base w ((w.setCell ⟨g, 3, none⟩ (.bool false)).setCell ⟨g, 2, none⟩ (.int .i64 0)) := ((Near.refl _ _).setCell hg _).setCell hg _
  cases cs with
  | nil =>
    have HH : Hid (RSto ((w.setCell ⟨g, 3, none⟩ (.bool false)).setCell ⟨g, 2, none⟩ (.int .i64 0)) b0 base g (upN ⟨on, k, [], ws⟩)) := Lib.hid ⟨A, c, wv, B2, h0, hg, hc, d2, r2⟩
    clear r1 r2 B1 B2 d2 hr ho hB
    simp only [List.length_nil] at *
    go_enter Try.func22, Try.ntmps22
    go_wp2
    go_end0
    exact ⟨rfl, HH.out, b2⟩
  | cons p cs =>
    obtain ⟨bc, oc, rfl, hcut⟩ := rd_tail d2 rfl hc
    have H : ∀ A', Rd ((w.setCell ⟨g, 3, none⟩ (.bool false)).setCell ⟨g, 2, none⟩ (.int .i64 0)) b0 2 A' cs.length (cs.flatMap encC) →
        RSto (((w.setCell ⟨g, 3, none⟩ (.bool false)).setCell ⟨g, 2, none⟩ (.int .i64 0)).setCell ⟨g, 1, none⟩ (.slice A' cs.length (c - 1))) b0 base g (upN ⟨on, k, p :: cs, ws⟩) ∧
        Near base w (((w.setCell ⟨g, 3, none⟩ (.bool false)).setCell ⟨g, 2, none⟩ (.int .i64 0)).setCell ⟨g, 1, none⟩ (.slice A' cs.length (c - 1))) := fun A' hA' =>
      ⟨⟨A', c - 1, wv, B2.set_ 1 _, h0, hg, by simp at hc; show cs.length ≤ c - 1; omega, hA'.setCell (p := ⟨g, 1, none⟩) (by simp; omega) _, rsto_row B2 r2 (by decide) ⟨g, 1, none⟩ rfl _⟩, b2.setCell (p := ⟨g, 1, none⟩) hg _⟩
    have H2 := Lib.hid (H _ hcut)
    clear H hcut d2 r1 r2 B1 B2 hr ho hB b2
    simp only [List.length_cons] at *
    have h1 : (1 : Int) ≤ ((cs.length + 1 : Nat) : Int) := by omega
    by_cases e : c = 1
    · subst e
      have hz : cs.length = 0 := by omega
      have hz2 := Lib.hid hz
      clear hz
      go_enter Try.func22, Try.ntmps22
      go_wp2
      go_end0
      have h3 := H2.out
      simp only [hz2.out, if_true] at h3
      first | exact ⟨rfl, h3⟩ | (have hz := hz2.out; simp only [hz]; exact ⟨rfl, h3⟩)
    · have e2 : 1 < c := by omega
      have h3 := H2.out
      rw [if_neg e] at h3
      have H3 := Lib.hid h3
      clear h3
      go_enter Try.func22, Try.ntmps22
      go_wp2
      go_end0
      exact ⟨rfl, H3.out⟩


theorem rwrite_any (g b0 : Nat) (base : Nat → Prop) (s : Stt) (i x : Int) (w : World) (h : RSto w b0 base g s) (hk0 : 0 ≤ s.k) (hk1 : s.k < 1000000) :
    Calls Try.prog 39 #[.pointer (some ⟨g, 0, none⟩), .int .i64 i, .int .u32 x] w fun e w' => e = .returned (.int .i64 (writeN s i x).1) ∧ RSto w' b0 base g (writeN s i x).2 ∧ Near base w w' := by
  by_cases ho : s.on = false
  · have e : writeN s i x = (100, s) := if_pos ho
    rw [e]
    exact (rwrite_dead g b0 base s i x w h ho).mono fun _ _ ⟨he, hw⟩ => ⟨he, hw ▸ h, hw ▸ Near.refl _ _⟩
  · have ho' : s.on = true := by simpa using ho
    by_cases hi : i < 0 ∨ (s.ws.length : Int) ≤ i
    · have e : writeN s i x = (1, s) := (if_neg ho).trans (if_pos hi)
      rw [e]
      exact (rwrite_out g b0 base s i x w h ho' hi).mono fun _ _ ⟨he, hw⟩ => ⟨he, hw ▸ h, hw ▸ Near.refl _ _⟩
    · obtain ⟨j, rfl⟩ := Int.eq_ofNat_of_zero_le (show 0 ≤ i by omega)
      have e0 : writeN s j x = _ := (if_neg ho).trans (if_neg hi)
      by_cases hs : strikesN s = true
      · rcases hcs : s.cs with _ | ⟨p, cs⟩
        · simp [strikesN, hcs] at hs
        · have hp : p.1 = s.k := by simpa [strikesN, hcs] using hs
          rw [hcs] at e0
          simp only [if_pos hp] at e0
          rw [e0]
          have t := rwrite_torn g b0 base s j x p cs w h ho' (by omega) hcs hp
          simp only [hcs, Int.toNat_natCast] at t ⊢
          exact t
      · have hs' : strikesN s = false := by simpa using hs
        have e : writeN s j x = (0, { s with k := s.k + 1, ws := s.ws.set j x }) := by
          rw [e0]
          split
          · rfl
          · rename_i p cs hcs
            rw [if_neg (by simpa [strikesN, hcs] using hs')]
            rfl
        rw [e]
        exact rwrite_ok g b0 base s j x w h ho' (by omega) hs' hk0 hk1
end Go.Proofs.Ytpenjfkdinmgmaa
