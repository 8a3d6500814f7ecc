/- Chapter 13: the document's words of a counter's slots: walked. -/
import Derived.Test.YtpenjfkdinmgmaaCtrB
import Derived.Test.YtpenjfkdinmgmaaPartsN
namespace Go.Proofs.Ytpenjfkdinmgmaa
set_option linter.unusedVariables false
set_option linter.unusedSimpArgs false
open Go.RowKit Go.Sort

def sl8 (ws : List Int) (b k : Nat) : Array Value := ((List.range 8).map fun j => Value.int .u32 (if j < k then ws.getD (b + j) 0 else 0)).toArray
theorem sl8_size (ws : List Int) (b k : Nat) : (sl8 ws b k).size = 8 := by simp [sl8]
theorem sl8_set (ws : List Int) (b : Nat) {n : Nat} (h : n < 8) : (sl8 ws b n).setIfInBounds n (.int .u32 (ws.getD (b + n) 0)) = sl8 ws b (n + 1) := by
  apply Array.ext_getElem?
  intro j
  unfold sl8
  rw [Array.getElem?_setIfInBounds]
  by_cases hj : j < 8
  · by_cases e : n = j
    · subst e; simp [h]
    · rw [if_neg e]
      simp [hj, show (j < n + 1) = (j < n) by simp; omega]
  · by_cases e : n = j
    · omega
    · rw [if_neg e]; simp [hj]
theorem sl8_all (ws : List Int) (b : Nat) : sl8 ws b 8 = (slW ws b).arr ++ (slW ws (b + 4)).arr := by
  simp [sl8, slW, W4.arr, List.range_succ, Nat.add_assoc]
theorem sl8_zero (ws : List Int) (b : Nat) : sl8 ws b 0 = Array.replicate 8 (.int .u32 0) := by simp [sl8, List.range_succ]; rfl
theorem info_24 : (Try.prog.info? 80).map (fun i => (i.zero, i.size)) = some (some (.agg (Array.replicate 8 (.int .u32 0))), 8) := by kernel_rfl
/-- The document's store as it is read: its words lie anywhere. -/
def RRd (w : World) (g : Nat) (s : Stt) : Prop :=
  ∃ A c cv kv dv, Blk w g 41 #[.slice A s.ws.length c, cv, kv, dv] ∧ Rd w w.heap.size 1 A s.ws.length (s.ws.flatMap encU)
theorem RRd.kept {w w' : World} {g : Nat} {s : Stt} (h : RRd w g s) (hb : Below w.heap.size w w') : RRd w' g s := by
  obtain ⟨A, c, cv, kv, dv, hB, hr⟩ := h
  exact ⟨A, c, cv, kv, dv, hB.kept hb, (hr.below hb).more hb.size⟩
theorem RSto.rd {w : World} {base : Nat → Prop} {b0 g : Nat} {s : Stt} (h : RSto w b0 base g s) : RRd w g s := by
  obtain ⟨A, c, wv, hB, _, _, _, _, ho⟩ := h
  obtain ⟨A1, c1, rfl, _, hr⟩ := own_slice ho.1
  exact ⟨A1, c1, _, _, _, hB, hr⟩
set_option maxRecDepth 100000 in
set_option maxHeartbeats 2000000 in
theorem rslots_rd (g : Nat) (s : Stt) (id : Nat) (w : World) (h : RRd w g s) (hid : id ≤ 100000) (hr : 8 * id + 8 ≤ s.ws.length) :
    Calls Try.prog 35 #[.pointer (some ⟨g, 0, none⟩), .int .i64 id] w fun e w' => e = .returned (.agg ((slW s.ws (8 * id)).arr ++ (slW s.ws (8 * id + 4)).arr)) ∧ Below w.heap.size w w' := by
  have hz := (zero_of_info info_24).1
  obtain ⟨A1, cap, cv, kv, dv, hB, ho⟩ := h
  obtain ⟨gw, off, rfl, hgw, hcs⟩ := ho.2 (by omega)
  obtain ⟨B, hBe⟩ : ∃ B, 8 * id = B := ⟨_, rfl⟩
  rw [hBe]
  have HO := Lib.hid (fun j (hj : j < 8) W (hb : Below w.heap.size w W) => (hb.cell (p := ⟨gw, off + (B + j), none⟩) hgw).trans (hcs (B + j) _ (flat_get s.ws (B + j) (by omega))))
  have HS := Lib.hid hB
  have HSet := Lib.hid (fun j (hj : j < 8) => sl8_set s.ws B hj)
  have HAll := Lib.hid (sl8_all s.ws B)
  have hl8 : B + 8 ≤ s.ws.length := by omega
  have hbB : B ≤ 1000000 := by omega
  have hmul : IntKind.i64.wrap (8 * (id : Int)) = (B : Int) := by rw [IntWalk.i64_in _ (by omega)]; omega
  have hmul' : 8 * (id : Int) = (B : Int) := by omega
  have hb0 := bal (Below.refl w.heap.size w) (.cells (Array.replicate 8 (.int .u32 0)) 80)
  have hb1 := bal' hb0 (.cells (Array.replicate 8 (.int .u32 0)) 80) hb0.size
  have HI0 : Hid (Blk ((w.alloc (.cells (Array.replicate 8 (.int .u32 0)) 80)).alloc (.cells (Array.replicate 8 (.int .u32 0)) 80)) w.heap.size 80 (Array.replicate 8 (.int .u32 0)) ∧ Blk ((w.alloc (.cells (Array.replicate 8 (.int .u32 0)) 80)).alloc (.cells (Array.replicate 8 (.int .u32 0)) 80)) (w.heap.size + 1) 80 (sl8 s.ws B 0) ∧ RowKit.Below w.heap.size w ((w.alloc (.cells (Array.replicate 8 (.int .u32 0)) 80)).alloc (.cells (Array.replicate 8 (.int .u32 0)) 80))) :=
    Lib.hid ⟨(Blk.new w _ _).alloc _, by rw [sl8_zero]; exact Blk.fresh _ _ _, hb1⟩
  generalize s.ws.length = n at *
  clear hBe ho hcs hB hb0 hb1 hr
  go_enter Try.func35, Try.ntmps35
  go_wp2
  go_loopw [6] (fun i wr => ∃ j : Nat, j ≤ 8 ∧ i = .int .i64 j ∧ Hid (Blk wr w.heap.size 80 (Array.replicate 8 (.int .u32 0)) ∧ Blk wr (w.heap.size + 1) 80 (sl8 s.ws B j) ∧ RowKit.Below w.heap.size w wr)) (fun i _ => 8 - (intOf i).toNat)
  case atStart => exact ⟨0, by omega, rfl, HI0⟩
  case round =>
    obtain ⟨j, hj, rfl, HI⟩ := hrel
    clear HI0 hz
    by_cases hlt : j < 8
    · have hcS := (HS.out.kept HI.out.2.2).drew.cell
      have c0 := HO.out j hlt wr.drew (HI.out.2.2.drew)
      have HSj := Lib.hid (HSet.out j hlt)
      generalize s.ws.getD (B + j) 0 = x at *
      have p1 : IntKind.i64.wrap ((B : Int) + (j : Int)) = ((B + j : Nat) : Int) := by rw [IntWalk.i64_in _ (by omega)]; omega
      have p1' : (B : Int) + (j : Int) = ((B + j : Nat) : Int) := by omega
      have hBj : B + j < n := by omega
      have h3 := HI.out.2.1
      have hcn : ∃ u, wr.drew.cell? ⟨w.heap.size + 1, j, none⟩ = some u := by
        rw [h3.drew.cell]; exact ⟨_, Array.getElem?_eq_getElem (by rw [sl8_size]; exact hlt)⟩
      obtain ⟨u0, cn⟩ := hcn
      have fn := h3.drew.frozen j
      have HN : Hid (Blk (wr.drew.setCell ⟨w.heap.size + 1, j, none⟩ (.int .u32 x)) w.heap.size 80 (Array.replicate 8 (.int .u32 0)) ∧ Blk (wr.drew.setCell ⟨w.heap.size + 1, j, none⟩ (.int .u32 x)) (w.heap.size + 1) 80 (sl8 s.ws B (j + 1)) ∧ RowKit.Below w.heap.size w (wr.drew.setCell ⟨w.heap.size + 1, j, none⟩ (.int .u32 x))) :=
        Lib.hid ⟨HI.out.1.drew.far (by simp) _, by have := h3.drew.set_ j (.int .u32 x); rw [HSj.out] at this; exact this, HI.out.2.2.drew.setCell (p := ⟨w.heap.size + 1, j, none⟩) (by simp) _⟩
      clear HI h3 HSj
      have hj8 : j = 0 ∨ j = 1 ∨ j = 2 ∨ j = 3 ∨ j = 4 ∨ j = 5 ∨ j = 6 ∨ j = 7 := by omega
      rcases hj8 with rfl | rfl | rfl | rfl | rfl | rfl | rfl | rfl
      all_goals
        push_cast at p1 p1'
        (try simp only [Nat.add_zero] at c0 p1 p1' hBj)
        (try simp only [Int.add_zero] at p1 p1')
        go_wp2
        go_region
        go_wp2
        go_roundw
        case rel => exact ⟨_, by decide, rfl, HN⟩
        case measure => simp [intOf]
    · have e : j = 8 := by omega
      rw [e, HAll.out] at HI
      clear e
      have HOn := Lib.hid (show ∀ u ∈ ((slW s.ws B).arr ++ (slW s.ws (B + 4)).arr).toList, u.oneCell' = true by
        intro u hu
        simp only [W4.arr, List.mem_append, Array.toList_append, List.mem_cons, List.not_mem_nil, or_false] at hu
        rcases hu with (rfl | rfl | rfl | rfl) | rfl | rfl | rfl | rfl <;> rfl)
      have hsz : ((slW s.ws B).arr ++ (slW s.ws (B + 4)).arr).size = 8 := rfl
      obtain ⟨P0, hP0⟩ : ∃ x, (slW s.ws B).arr ++ (slW s.ws (B + 4)).arr = x := ⟨_, rfl⟩
      rw [hP0] at HI HOn hsz
      have HP := Lib.hid hP0
      clear hP0 HAll HSet HO HS
      go_wp2_with (first
        | (refine wpList_load_mid rfl 80 (.tmp 5) rfl (w.heap.size + 1) 0 (by rfl) P0.toList _ HI.out.2.1.rangeA Try.underlying80 rfl (by rw [Array.length_toList, hsz]; kernel_rfl) ?_)
        | (refine wpList_store_blk rfl 80 (.tmp 4) (.tmp 27) rfl w.heap.size 0 P0 (by rfl) (by rfl) HI.out.1 (by rw [hsz]; simp) (by rw [hsz]; kernel_rfl) (by have := all_oneCell_toArray HOn.out; simpa using this) (by have := setAt_whole (cs := Array.replicate 8 (Value.int .u32 0)) (new := P0.toList) (by simp [hsz]); simpa using this) ?_; intro w6 hB6 hbl6 hz6 hh6))
      exact bodyPost_ret (res_cell1 rfl (b := w.heap.size) (o := 0) (cs := P0.toList) rfl hB6.rangeA Try.underlying80 rfl (by rw [Array.length_toList, hsz]; kernel_rfl)) rfl ⟨by rw [HP.out, Array.toArray_toList], HI.out.2.2.trans (hbl6 _ (Nat.le_refl _))⟩
theorem rslots_any (g b0 : Nat) (base : Nat → Prop) (s : Stt) (id : Nat) (w : World) (h : RSto w b0 base g s) (hid : id ≤ 100000) (hr : 8 * id + 8 ≤ s.ws.length) :
    Calls Try.prog 35 #[.pointer (some ⟨g, 0, none⟩), .int .i64 id] w fun e w' => e = .returned (.agg ((slW s.ws (8 * id)).arr ++ (slW s.ws (8 * id + 4)).arr)) ∧ Below w.heap.size w w' := rslots_rd g s id w h.rd hid hr
end Go.Proofs.Ytpenjfkdinmgmaa
