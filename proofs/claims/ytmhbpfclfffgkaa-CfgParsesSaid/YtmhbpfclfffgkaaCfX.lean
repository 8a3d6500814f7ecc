/- Chapter 14: the parser's channels; walked. -/
import Derived.Test.YtmhbpfclfffgkaaCfS
import Derived.Test.YtmhbpfclfffgkaaParts
namespace Go.Proofs.Ytmhbpfclfffgkaa
set_option linter.unusedVariables false
set_option linter.unusedSimpArgs false
open Go.RowKit Go.Sort

theorem near_only {w w' : World} {g : Nat} (hb : Below g w w') (hz : w'.heap.size = w.heap.size) (hh : ∀ i, i ≠ g → w'.heap[i]? = w.heap[i]?) : Near (fun i => i = g) w w' := ⟨hb.os, hb.tape, hb.output, by omega, fun i _ hn => hh i hn⟩
theorem PSt.turn {p : Prs} {b : List Int} {B a g : Nat} {w0 w w' : World} (h : PSt p b B w0 a w) (hn : Near (fun i => i = g) w w') (hg : w0.heap.size ≤ g) : PSt p b B w0 a w' := by
  have hlt := h.lt
  have hB := h.rows.gB
  refine ⟨⟨h.rows.hb, h.rows.ok, h.rows.m, h.rows.mc, h.rows.cm, h.rows.gB, h.rows.r.below (hn.below (fun i hi => by omega) (by have := h.near.size; omega))⟩, h.box.apart hn (by omega), h.le, h.near.step hn (fun i hi => .inr (by omega)), hlt⟩
theorem one_En (e : En) : (encEn e).toArray.all (·.oneCell') = true := by simp [encEn]; exact ⟨rfl, rfl, rfl⟩
set_option maxRecDepth 100000 in
set_option maxHeartbeats 2000000 in
theorem channel_any : PCall 67 (fun p => #[.pointer (some ⟨p.g, 0, none⟩)]) channelP (fun p B x v w => v = .agg (encCh x).toArray ∧ ChOk x) := by
  intro p b B a w hR hB ha
  have hS := PSt.start hR hB ha
  clear hR hB ha
  go_enter Try.func67, Try.ntmps67
  go_upto_region 1 with (fail)
  have hZ := Blk.new w 77 #[.int .u64 0, .int .u64 0, .int .i64 0, .int .i64 0, .int .u64 0, .int .i64 0, .int .i64 0, .int .u64 0]
  have hS := hS.alloc (.cells #[.int .u64 0, .int .u64 0, .int .i64 0, .int .i64 0, .int .u64 0, .int .i64 0, .int .i64 0, .int .u64 0] 77)
  have hz1 : w.heap.size + 1 ≤ (w.alloc (.cells #[.int .u64 0, .int .u64 0, .int .i64 0, .int .i64 0, .int .u64 0, .int .i64 0, .int .i64 0, .int .u64 0] 77)).heap.size := by simp
  generalize w.alloc (.cells #[.int .u64 0, .int .u64 0, .int .i64 0, .int .i64 0, .int .u64 0, .int .i64 0, .int .i64 0, .int .u64 0] 77) = w1 at *
  obtain ⟨rb, hrb⟩ : ∃ rb, w.heap.size = rb := ⟨_, rfl⟩
  have hrl : w.heap.size ≤ rb := by omega
  rw [hrb] at hZ hz1 ⊢
  have H := Lib.hid (wide_any.at (.num _ _ _) hS)
  go_upto_region 2 with (go_at_call 98; refine H.out.mono ?_; rintro e1 w2 ⟨hn1, ⟨a1, y1, h1, rfl, hN⟩ | ⟨x1, a1, v, h1, rfl, ⟨rfl, r1⟩, hS⟩⟩)
  case inl => exact ⟨rfl, hN, .inl ⟨_, _, by simp only [channelP, PR.bnd, h1], rfl⟩⟩
  have hZ := hZ.apart hn1 (hS.far hrl)
  have hT := Blk.new w2 77 #[.int .u64 x1, .int .u64 0, .int .i64 0, .int .i64 0, .int .u64 0, .int .i64 0, .int .i64 0, .int .u64 0]
  have hS := hS.alloc (.cells #[.int .u64 x1, .int .u64 0, .int .i64 0, .int .i64 0, .int .u64 0, .int .i64 0, .int .i64 0, .int .u64 0] 77)
  have hZ := hZ.alloc (.cells #[.int .u64 x1, .int .u64 0, .int .i64 0, .int .i64 0, .int .u64 0, .int .i64 0, .int .i64 0, .int .u64 0] 77)
  have hz2 := hn1.size
  obtain ⟨tb, htb⟩ : ∃ tb, w2.heap.size = tb := ⟨_, rfl⟩
  have htl : w.heap.size ≤ tb := by omega
  have hrt : rb ≠ tb := by omega
  rw [htb] at hT ⊢
  generalize w2.alloc (.cells #[.int .u64 x1, .int .u64 0, .int .i64 0, .int .i64 0, .int .u64 0, .int .i64 0, .int .i64 0, .int .u64 0] 77) = w3 at *
  clear hrb htb hz1 hz2 hn1 H
  have H := Lib.hid (wide_any.at (.num _ _ _) hS)
  go_upto_region 3 with (go_at_call 98; refine H.out.mono ?_; rintro e1 w1 ⟨hn1, ⟨a1, y1, h2, rfl, hN⟩ | ⟨x2, a2, v, h2, rfl, ⟨rfl, r2⟩, hS⟩⟩ <;> (have hT := hT.apart hn1 (hS.far htl); have cT := hT.cell; have fT := hT.frozen))
  case inl => exact ⟨rfl, hN, .inl ⟨_, _, by simp only [channelP, PR.bnd, h1, h2], rfl⟩⟩
  have hZ := (hZ.apart hn1 (hS.far hrl)).far (p := ⟨tb, 1, none⟩) hrt (.int .u64 x2)
  have hS := hS.set (q := ⟨tb, 1, none⟩) htl (.int .u64 x2)
  have hT := hT.set_ 1 (.int .u64 x2)
  clear cT fT hn1 H
  generalize World.setCell w1 ⟨tb, 1, none⟩ (.int .u64 x2) = w2 at *
  simp only [List.setIfInBounds_toArray, List.set_cons_succ, List.set_cons_zero] at hT
  have HE := Lib.hid (fun a W (hS : PSt p b B w a W) => end_any.at .end_ hS)
  have HS := Lib.hid hS
  have HT := Lib.hid hT
  have HZ := Lib.hid hZ
  clear hS hT hZ
  go_wp2_with fail
  go_loopw [4, 11] (fun _ iv wr => (iv = .int .i64 0 ∧ PSt p b B w a2 wr ∧ Blk wr tb 77 #[.int .u64 x1, .int .u64 x2, .int .i64 0, .int .i64 0, .int .u64 0, .int .i64 0, .int .i64 0, .int .u64 0] ∧ Blk wr rb 77 #[.int .u64 0, .int .u64 0, .int .i64 0, .int .i64 0, .int .u64 0, .int .i64 0, .int .i64 0, .int .u64 0]) ∨
    (∃ (e0 : En) (a3 : Nat), iv = .int .i64 1 ∧ Hid (endP b a2 = .ok (e0, a3)) ∧ EnOk e0 ∧ PSt p b B w a3 wr ∧ Blk wr tb 77 #[.int .u64 x1, .int .u64 x2, .int .i64 e0.guest, .int .i64 e0.perm, .int .u64 e0.ipa, .int .i64 0, .int .i64 0, .int .u64 0] ∧ Blk wr rb 77 #[.int .u64 0, .int .u64 0, .int .i64 0, .int .i64 0, .int .u64 0, .int .i64 0, .int .i64 0, .int .u64 0]) ∨
    (∃ (e0 e1 : En) (a3 a4 : Nat), iv = .int .i64 2 ∧ Hid (endP b a2 = .ok (e0, a3) ∧ endP b a3 = .ok (e1, a4)) ∧ EnOk e0 ∧ EnOk e1 ∧ PSt p b B w a4 wr ∧ Blk wr tb 77 #[.int .u64 x1, .int .u64 x2, .int .i64 e0.guest, .int .i64 e0.perm, .int .u64 e0.ipa, .int .i64 e1.guest, .int .i64 e1.perm, .int .u64 e1.ipa] ∧ Blk wr rb 77 #[.int .u64 0, .int .u64 0, .int .i64 0, .int .i64 0, .int .u64 0, .int .i64 0, .int .i64 0, .int .u64 0])) (fun _ iv _ => 2 - (intOf iv).toNat)
  case atStart => exact .inl ⟨rfl, HS.out, HT.out, HZ.out⟩
  case round =>
    rcases hrel with ⟨rfl, hS, hT, hZ⟩ | ⟨e0, a3, rfl, g1, o1, hS, hT, hZ⟩ | ⟨e0, e1, a3, a4, rfl, g1, o1, o2, hS, hT, hZ⟩
    · have H := Lib.hid (HE.out _ _ hS)
      go_wp2_with (first
        | (go_at_call 107; refine H.out.mono ?_; rintro e1 w1 ⟨hn1, ⟨a1, y1, h3, rfl, hN⟩ | ⟨e0, a3, v, h3, rfl, ⟨rfl, r3⟩, hS⟩⟩ <;> (have hT := hT.apart hn1 (hS.far htl)))
        | (refine wpList_store_blk rfl 74 (.tmp 18) (.tmp 16) rfl tb 2 (encEn e0).toArray (by rfl) (by rfl) hT (by simp [encEn]) (by kernel_rfl) (one_En _) rfl ?_; intro w2 hT2 hb2 hz2 hh2))
      · exact ⟨rfl, hN, .inl ⟨_, _, by simp only [channelP, PR.bnd, h1, h2, h3], rfl⟩⟩
      · have hn2 := near_only (hb2 _ (Nat.le_refl _)) hz2 hh2
        go_roundw
        case rel => exact .inr (.inl ⟨e0, a3, by go_num, Lib.hid h3, r3, hS.turn hn2 htl, hT2, (hZ.apart hn1 (hS.far hrl)).apart hn2 hrt⟩)
        case measure => simp [intOf]
    · have H := Lib.hid (HE.out _ _ hS)
      go_wp2_with (first
        | (go_at_call 107; refine H.out.mono ?_; rintro e1 w1 ⟨hn1, ⟨a1, y1, h4, rfl, hN⟩ | ⟨e1', a4, v, h4, rfl, ⟨rfl, r4⟩, hS⟩⟩ <;> (have hT := hT.apart hn1 (hS.far htl)))
        | (refine wpList_store_blk rfl 74 (.tmp 18) (.tmp 16) rfl tb 5 (encEn e1').toArray (by rfl) (by rfl) hT (by simp [encEn]) (by kernel_rfl) (one_En _) rfl ?_; intro w2 hT2 hb2 hz2 hh2))
      · exact ⟨rfl, hN, .inl ⟨_, _, by simp only [channelP, PR.bnd, h1, h2, g1.out, h4], rfl⟩⟩
      · have hn2 := near_only (hb2 _ (Nat.le_refl _)) hz2 hh2
        go_roundw
        case rel => exact .inr (.inr ⟨e0, e1', a3, a4, by go_num, Lib.hid ⟨g1.out, h4⟩, o1, r4, hS.turn hn2 htl, hT2, (hZ.apart hn1 (hS.far hrl)).apart hn2 hrt⟩)
        case measure => simp [intOf]
    · have cT := hT.cell
      have cZ := hZ.cell
      have fZ := hZ.frozen
      go_wp2_with fail
      have hS5 := ((((((((hS.set (q := ⟨rb, 0, none⟩) hrl (.int .u64 x1)).set (q := ⟨rb, 1, none⟩) hrl (.int .u64 x2)).set (q := ⟨rb, 2, none⟩) hrl (.int .i64 e0.guest)).set (q := ⟨rb, 3, none⟩) hrl (.int .i64 e0.perm)).set (q := ⟨rb, 4, none⟩) hrl (.int .u64 e0.ipa)).set (q := ⟨rb, 5, none⟩) hrl (.int .i64 e1.guest)).set (q := ⟨rb, 6, none⟩) hrl (.int .i64 e1.perm)).set (q := ⟨rb, 7, none⟩) hrl (.int .u64 e1.ipa))
      refine bodyPost_ret (v := .agg (encCh ⟨x1, x2, e0, e1⟩).toArray) (by simp [results, Try.results67, go_sem, cZ, encCh]) rfl ⟨hS5.near, .inr ⟨⟨x1, x2, e0, e1⟩, _, _, by simp only [channelP, PR.bnd, h1, h2, g1.out.1, g1.out.2, PR.ret], rfl, ⟨rfl, r1, r2, o1, o2⟩, hS5.box⟩⟩
end Go.Proofs.Ytmhbpfclfffgkaa
