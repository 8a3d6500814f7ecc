/- host.Read: a board out of bytes; bytes that are read as a board are its only ones. -/
import Derived.Test.YtnkpaockginooaaOfE
import Derived.Test.YtnkpaockginooaaHostN
namespace Go.Proofs.Ytnkpaockginooaa
set_option linter.unusedVariables false
set_option linter.unusedSimpArgs false
open Go.RowKit Go.Sort
theorem isB_ok {t : Tr} {x : Bd} (h : IsB t x) : BdOk x ∧ hBlob x = putT t := by
  obtain ⟨h1, h2, h3⟩ := h
  refine ⟨h1, ?_⟩
  unfold hBlob
  rw [if_pos h2, h3]
theorem set_board {w w1 : World} {B g : Nat} {a0 a1 a2 a3 a4 a5 a6 : Value} (hg : B ≤ g) (h : Blk w1 g 39 #[a0, a1, a2, a3, a4, a5, a6]) (hb : Below B w w1) (v0 v1 v2 v3 v4 v5 v6 : Value) :
    Blk (((((((w1.setCell ⟨g, 0, none⟩ v0).setCell ⟨g, 1, none⟩ v1).setCell ⟨g, 2, none⟩ v2).setCell ⟨g, 3, none⟩ v3).setCell ⟨g, 4, none⟩ v4).setCell ⟨g, 5, none⟩ v5).setCell ⟨g, 6, none⟩ v6) g 39 #[v0, v1, v2, v3, v4, v5, v6] ∧
    Below B w (((((((w1.setCell ⟨g, 0, none⟩ v0).setCell ⟨g, 1, none⟩ v1).setCell ⟨g, 2, none⟩ v2).setCell ⟨g, 3, none⟩ v3).setCell ⟨g, 4, none⟩ v4).setCell ⟨g, 5, none⟩ v5).setCell ⟨g, 6, none⟩ v6) := by
  have b0 := hb.setCell (p := ⟨g, 0, none⟩) hg v0
  have b1 := b0.setCell (p := ⟨g, 1, none⟩) hg v1
  have b2 := b1.setCell (p := ⟨g, 2, none⟩) hg v2
  have b3 := b2.setCell (p := ⟨g, 3, none⟩) hg v3
  have b4 := b3.setCell (p := ⟨g, 4, none⟩) hg v4
  have b5 := b4.setCell (p := ⟨g, 5, none⟩) hg v5
  have b6 := b5.setCell (p := ⟨g, 6, none⟩) hg v6
  have c0 : Blk _ g 39 #[v0, a1, a2, a3, a4, a5, a6] := h.set_ 0 v0
  have c1 : Blk _ g 39 #[v0, v1, a2, a3, a4, a5, a6] := c0.set_ 1 v1
  have c2 : Blk _ g 39 #[v0, v1, v2, a3, a4, a5, a6] := c1.set_ 2 v2
  have c3 : Blk _ g 39 #[v0, v1, v2, v3, a4, a5, a6] := c2.set_ 3 v3
  have c4 : Blk _ g 39 #[v0, v1, v2, v3, v4, a5, a6] := c3.set_ 4 v4
  have c5 : Blk _ g 39 #[v0, v1, v2, v3, v4, v5, a6] := c4.set_ 5 v5
  have c6 : Blk _ g 39 #[v0, v1, v2, v3, v4, v5, v6] := c5.set_ 6 v6
  exact ⟨c6, b6⟩
/-- What Read answers: what a board is, and its bytes are those. -/
def ReadP (l : List Int) (w : World) (e : Ending) (w' : World) : Prop := ∃ (x : Bd) (r : Int), e = .returned (.tuple #[.agg (encBd x).toArray, .int .i64 r]) ∧ Below w.heap.size w w' ∧ ((r = 0 ∧ BdOk x ∧ (hBlob x).2 = 0 ∧ strOfNums (hBlob x).1 = strOfNums l) ∨ (r ≠ 0 ∧ x = zeroB)) ∧ ∀ t, ofOk l = some t → BRes t x r
theorem ofOk_put {bs : List Int} {t : Tr} (h : ofOk bs = some t) : (putT t).2 = 0 ∧ strOfNums (putT t).1 = strOfNums bs := by
  unfold ofOk at h
  simp only [Option.bind_eq_some_iff] at h
  obtain ⟨p, hp, h⟩ := h
  split at h
  · simp only [Option.bind_eq_some_iff] at h
    obtain ⟨y, hy, h⟩ := h
    split at h
    · simp only [Option.bind_eq_some_iff] at h
      obtain ⟨⟨t', a', l'⟩, hr, h⟩ := h
      split at h
      · rename_i hq
        simp only [Option.some.injEq] at h
        subst h
        exact hq
      · cases h
    · cases h
  · cases h
set_option maxRecDepth 100000 in
set_option maxHeartbeats 2000000 in
theorem read_any (A : Option Addr) (n c : Nat) (l : List Int) (w : World) (hl : l.length = n) (hok : BytesOk l) (hm : n ≤ 1000000000) (hnc : n ≤ c) (hr : Rd w w.heap.size 1 A n (l.flatMap encB)) :
    Calls Try.prog 33 #[.slice A n c] w (ReadP l w) := by
  have hb0 := bal (Below.refl w.heap.size w) (.cells #[.int .u64 0, .int .u64 0, .int .u64 0, .int .u64 0, .int .i64 0, .int .i64 0, .int .i64 0] 39)
  have hB0 := Blk.new w 39 #[.int .u64 0, .int .u64 0, .int .u64 0, .int .u64 0, .int .i64 0, .int .i64 0, .int .i64 0]
  have HOf := of_any A n c l _ hl hok hm hnc ((hr.below hb0).more hb0.size)
  unfold OfP at HOf
  go_enter Try.func33, Try.ntmps33
  rcases ho : ofOk l with _ | t
  · rw [ho] at HOf
    have HOf := Lib.hid HOf
    have HOn := Lib.hid ho
    clear ho
    go_wp2_with (go_at_call 27; refine HOf.out.mono ?_; rintro e w2 ⟨rfl, hb2⟩; have hB2 := hB0.kept hb2; have hb2' := hb0.trans (hb2.mono hb0.size); have hB3 := hB2.alloc (.cells #[.string ⟨#[]⟩, .slice none 0 0, .slice none 0 0] 25); have cB3 := hB3.cell; have fB3 := hB3.frozen)
    obtain ⟨hZ, hbZ⟩ := set_board (B := w.heap.size) (Nat.le_refl _) hB3 (bal' hb2' (.cells #[.string ⟨#[]⟩, .slice none 0 0, .slice none 0 0] 25) hb2'.size) (.int .u64 0) (.int .u64 0) (.int .u64 0) (.int .u64 0) (.int .i64 0) (.int .i64 0) (.int .i64 0)
    have cZ := hZ.cell
    exact bodyPost_ret (v := .tuple #[.agg (encBd zeroB).toArray, .int .i64 240]) (by simp [results, Try.results33, go_sem, cZ, encBd, zeroB]) rfl ⟨zeroB, 240, rfl, hbZ, .inr ⟨by decide, rfl⟩, fun t h => by rw [HOn.out] at h; cases h⟩
  · rw [ho] at HOf
    have HOf := Lib.hid HOf
    obtain ⟨h0, hs⟩ := ofOk_put ho
    have HOn := Lib.hid ho
    clear ho
    have HBd := Lib.hid (fun (W : World) (X : Nat → Prop) (k : Nat) (cs : List Value) (h : TrX W X k t cs) => board_any k t cs W h.ok)
    go_wp2_with (first
      | (go_at_call 27; refine HOf.out.mono ?_; rintro e w2 ⟨sn, A1, n1, c1, A2, n2, c2, k, rfl, hX2, hb2⟩; have hB2 := hB0.kept hb2; have hb2' := hb0.trans (hb2.mono hb0.size); have hT3 := Blk.new w2 25 #[.string sn, .slice A1 n1 c1, .slice A2 n2 c2]; have cT3 := hT3.cell; have hX3 := hX2.kept (bal (Below.refl _ _) (.cells #[.string sn, .slice A1 n1 c1, .slice A2 n2 c2] 25)); have hb3 := bal' hb2' (.cells #[.string sn, .slice A1 n1 c1, .slice A2 n2 c2] 25) hb2'.size; have hB3 := hB2.alloc (.cells #[.string sn, .slice A1 n1 c1, .slice A2 n2 c2] 25))
      | (go_at_call 22; refine (HBd.out _ _ _ _ hX3).mono ?_; rintro e w4 ⟨x, r, rfl, hBR, hb4⟩; have hb4' := hb3.trans (hb4.mono hb3.size); have hB4 := hB3.kept hb4; have cB4 := hB4.cell; have fB4 := hB4.frozen; simp only [encBd]))
    obtain ⟨hZ, hbZ⟩ := set_board (B := w.heap.size) (Nat.le_refl _) hB4 hb4' (.int .u64 x.rb) (.int .u64 x.rs) (.int .u64 x.lb) (.int .u64 x.ls) (.int .i64 x.irqs) (.int .i64 x.strs) (.int .i64 x.cpus)
    have cZ := hZ.cell
    refine bodyPost_ret (v := .tuple #[.agg (encBd x).toArray, .int .i64 r]) (by simp [results, Try.results33, go_sem, cZ, encBd]) rfl ⟨x, r, rfl, hbZ, ?_, fun t' h => by rw [HOn.out] at h; simp only [Option.some.injEq] at h; subst h; exact hBR⟩
    rcases hBR with ⟨rfl, hI⟩ | ⟨rfl, rfl, _⟩
    · obtain ⟨i1, i2⟩ := isB_ok hI
      exact .inl ⟨rfl, i1, by rw [i2]; exact h0, by rw [i2]; exact hs⟩
    · exact .inr ⟨by decide, rfl⟩
set_option maxRecDepth 100000 in
set_option maxHeartbeats 4000000 in
theorem hostOnce_any (A : Option Addr) (n c : Nat) (l : List Int) (w : World) (hl : l.length = n) (hok : BytesOk l) (hm : n ≤ maxLen) (hnc : n ≤ c) (hr : Rd w w.heap.size 1 A n (l.flatMap encB)) :
    Calls Try.prog 12 #[.slice A n c] w fun e w' => e = .returned (.bool true) ∧ Below w.heap.size w w' := by
  unfold maxLen at hm
  by_cases h4 : n ≤ 4000
  · have HRd := Lib.hid (fun W (h : Below w.heap.size w W) => read_any A n c l W hl hok (by omega) hnc ((hr.below h).more h.size))
    have hEz : ∀ W, (binOp .eql 39 (.agg #[.int .u64 0, .int .u64 0, .int .u64 0, .int .u64 0, .int .i64 0, .int .i64 0, .int .i64 0]) (.agg #[.int .u64 0, .int .u64 0, .int .u64 0, .int .u64 0, .int .i64 0, .int .i64 0, .int .i64 0])).run Try.prog W = .ok (.bool true) W := fun W => eq_board W zeroB zeroB
    have HBl := Lib.hid hblob_any
    simp only [encBd] at HBl
    go_enter Try.func12, Try.ntmps12
    go_upto_region 5 with (go_at_call 21; refine (awake32_any _).mono ?_; rintro e w1 ⟨rfl, hb1⟩)
    go_upto_region 6 with (go_at_call 33; refine (HRd.out _ hb1).mono ?_; rintro e w2 ⟨x, r, rfl, hb2, hx, _⟩; simp only [encBd])
    have hb2' := hb1.trans (hb2.mono hb1.size)
    have hT2 := Blk.new w2 39 #[.int .u64 x.rb, .int .u64 x.rs, .int .u64 x.lb, .int .u64 x.ls, .int .i64 x.irqs, .int .i64 x.strs, .int .i64 x.cpus]
    have hb3 := bal' hb2' (.cells #[.int .u64 x.rb, .int .u64 x.rs, .int .u64 x.lb, .int .u64 x.ls, .int .i64 x.irqs, .int .i64 x.strs, .int .i64 x.cpus] 39) hb2'.size
    have cT2 := hT2.cell
    rcases hx with ⟨rfl, hx, h0, hs⟩ | ⟨hr0, rfl⟩
    · obtain ⟨np, hnp⟩ : ∃ m, (hBlob x).1.length = m := ⟨_, rfl⟩
      have HBx := HBl.out x hx (w2.alloc (.cells #[.int .u64 x.rb, .int .u64 x.rs, .int .u64 x.lb, .int .u64 x.ls, .int .i64 x.irqs, .int .i64 x.strs, .int .i64 x.cpus] 39))
      unfold BlobP at HBx
      rw [h0, hnp] at HBx
      have HBx := Lib.hid HBx
      have HN := Lib.hid hnp
      have HS := Lib.hid hs
      clear hnp hs h0
      go_wp2_with (go_at_call 31; refine HBx.out.mono ?_; rintro e w4 ⟨A4, c4, rfl, hown, hb4⟩; have s1 := conv_str (Rd.of_own hown) HN.out c4; have hb4' := hb3.trans (hb4.mono hb3.size); have s2 := conv_str ((hr.below hb4').more hb4'.size) hl c; rw [HS.out] at s1)
      go_ret
      exact ⟨rfl, hb4'⟩
    · have e0 : (r != 0) = true := by simp [hr0]
      simp only [zeroB] at hT2 hb3 cT2 ⊢
      have cT2 := hT2.cell
      go_wp2_with fail
      go_ret
      exact ⟨rfl, hb3⟩
  · go_enter Try.func12, Try.ntmps12
    go_wp2_with (go_at_call 21; refine (awake32_any _).mono ?_; rintro e w1 ⟨rfl, hb1⟩)
    go_ret
    exact ⟨rfl, hb1⟩
end Go.Proofs.Ytnkpaockginooaa
