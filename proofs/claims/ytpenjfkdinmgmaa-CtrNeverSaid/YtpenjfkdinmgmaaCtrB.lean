/- Chapter 13: the words of a counter's slots: walked. -/
import Derived.Test.YtpenjfkdinmgmaaCtrA
import Derived.Lib.QuietBelow
import Derived.Test.YtpenjfkdinmgmaaRegH
import Derived.Deep.CutRange
namespace Go.Proofs.Ytpenjfkdinmgmaa
set_option linter.unusedVariables false
set_option linter.unusedSimpArgs false
open Go.RowKit Go.Sort

def U32s (l : List Int) : Prop := ∀ x ∈ l, 0 ≤ x ∧ x < 4294967296
theorem U32s.at_ {l : List Int} (h : U32s l) (j : Nat) : 0 ≤ l.getD j 0 ∧ l.getD j 0 < 4294967296 := by
  rcases Nat.lt_or_ge j l.length with hj | hj
  · rw [List.getD_eq_getElem?_getD, List.getElem?_eq_getElem hj]; exact h _ (List.getElem_mem hj)
  · rw [List.getD_eq_getElem?_getD, List.getElem?_eq_none hj]; decide
/-- Four words from a place on. -/
def slW (ws : List Int) (b : Nat) : W4 := ⟨ws.getD b 0, ws.getD (b + 1) 0, ws.getD (b + 2) 0, ws.getD (b + 3) 0⟩
def slN (ws : List Int) (b k : Nat) : Array Value := #[.int .u32 (if 0 < k then ws.getD b 0 else 0), .int .u32 (if 1 < k then ws.getD (b + 1) 0 else 0), .int .u32 (if 2 < k then ws.getD (b + 2) 0 else 0), .int .u32 (if 3 < k then ws.getD (b + 3) 0 else 0)]
theorem slN_set (ws : List Int) (b : Nat) {k : Nat} (h : k < 4) : (slN ws b k).setIfInBounds k (.int .u32 (ws.getD (b + k) 0)) = slN ws b (k + 1) := by
  match k, h with
  | 0, _ => rfl
  | 1, _ => rfl
  | 2, _ => rfl
  | 3, _ => rfl
theorem slN_all (ws : List Int) (b : Nat) : slN ws b 4 = (slW ws b).arr := rfl
theorem count_any (g : Nat) (base : Nat → Prop) (s : Stt) (w : World) (h : Sto w base g s) (hn : s.ws.length ≤ 100000) :
    Calls Try.prog 16 #[.pointer (some ⟨g, 0, none⟩)] w fun e w' => e = .returned (.int .i64 ((s.ws.length / 8 : Nat) : Int)) ∧ w = w' := by
  obtain ⟨cv, wv, hB, hg, hc, ho⟩ := h
  obtain ⟨A, c, rfl, hcc, hr⟩ := own_slice ho.1
  have HL := Lib.hid (len_any g _ _ _ A _ c _ hB)
  clear ho hr hc hB
  generalize s.ws.length = n at *
  go_enter Try.func16, Try.ntmps16
  go_wp2_with (go_at_call 34; refine HL.out.mono ?_; rintro e w1 ⟨rfl, rfl⟩)
  go_ret
  exact ⟨rfl, rfl⟩
theorem base_any (v : Value) (id k : Nat) (h1 : id ≤ 100000) (h2 : k ≤ 1) (hv : v.oneCell' = true) (w : World) :
    Calls Try.prog 31 #[.agg #[v, .int .i64 id], .int .i64 k] w fun e w' => e = .returned (.int .i64 ((8 * id + 4 * k : Nat) : Int)) ∧ Below w.heap.size w w' := by
  have a1 : (id : Int) ≤ 100000 := by omega
  have a2 : (k : Int) ≤ 1 := by omega
  have c1 := (Blk.new w 69 #[v, .int .i64 id]).cell 1
  go_enter Try.func31, Try.ntmps31
  go_wp2
  go_ret
  exact ⟨by simp, bal (Below.refl _ _) _⟩
set_option maxRecDepth 100000 in
set_option maxHeartbeats 2000000 in
theorem slot_any (g : Nat) (base : Nat → Prop) (s : Stt) (id k : Nat) (w : World) (h : Sto w base g s) (hid : id ≤ 100000) (hk : k ≤ 1) (hr : 8 * id + 8 ≤ s.ws.length) :
    Calls Try.prog 29 #[.agg #[.pointer (some ⟨g, 0, none⟩), .int .i64 id], .int .i64 k] w fun e w' => e = .returned (.agg (slW s.ws (8 * id + 4 * k)).arr) ∧ Below w.heap.size w w' := by
  have HS := Lib.hid h
  have hkI : (k : Int) ≤ 1 := by omega
  obtain ⟨B, hB⟩ : ∃ B, 8 * id + 4 * k = B := ⟨_, rfl⟩
  have HB := Lib.hid (fun W => base_any (.pointer (some ⟨g, 0, none⟩)) id k hid hk rfl W)
  rw [hB] at HB ⊢
  have hBn : B + 4 ≤ s.ws.length := by omega
  have HRd := Lib.hid (fun j (hj : j < 4) W (hW : Sto W base g s) => read_in g base s (B + j) W hW (by omega))
  have HSet := Lib.hid (fun j (hj : j < 4) => slN_set s.ws B hj)
  have HAll := Lib.hid (slN_all s.ws B)
  obtain ⟨y, hy⟩ : ∃ y, slW s.ws B = y := ⟨_, rfl⟩
  rw [hy] at HAll ⊢
  obtain ⟨ya, yb, yc, yd⟩ := y
  clear hy
  have hB0 : slN s.ws B 0 = #[.int .u32 0, .int .u32 0, .int .u32 0, .int .u32 0] := rfl
  have HB0 := Lib.hid hB0
  have hBb : B ≤ 1000000 := by omega
  clear h hB hB0 hr
  go_enter Try.func29, Try.ntmps29
  go_upto_region 3 with (fail)
  refine wp_name ?_
  intro w1 hw1
  have hb1 : RowKit.Below w.heap.size w w1 := by rw [hw1]; exact bal (bal (bal (Below.refl _ _) _) _) _
  have hA : Blk w1 w.heap.size 69 #[.pointer (some ⟨g, 0, none⟩), .int .i64 id] := by rw [hw1]; exact ((Blk.new _ _ _).alloc _).alloc _
  have hC : Blk w1 (w.heap.size + 1) 73 (slN s.ws B 0) := by rw [hw1, HB0.out]; exact (Blk.fresh _ _ _).alloc _
  have hD : Blk w1 (w.heap.size + 2) 73 (slN s.ws B 0) := by rw [hw1, HB0.out]; exact Blk.fresh _ _ _
  clear hw1
  go_loopw [7] (fun i wr => ∃ j : Nat, j ≤ 4 ∧ i = .int .i64 j ∧ Hid (Blk wr w.heap.size 69 #[.pointer (some ⟨g, 0, none⟩), .int .i64 id] ∧ Blk wr (w.heap.size + 1) 73 (slN s.ws B 0) ∧ Blk wr (w.heap.size + 2) 73 (slN s.ws B j) ∧ RowKit.Below w.heap.size w wr)) (fun i _ => 4 - (intOf i).toNat)
  case atStart => exact ⟨0, by omega, rfl, Lib.hid ⟨hA, hC, hD, hb1⟩⟩
  case round =>
    obtain ⟨j, hj, rfl, HI⟩ := hrel
    clear hA hC hD hb1
    by_cases hlt : j < 4
    · have hS := HS.out.kept HI.out.2.2.2
      go_upto_region 5 with (fail)
      have HRj := Lib.hid (fun W (hb : Below wr.heap.size wr W) => HRd.out j hlt W (hS.kept hb))
      have HSj := Lib.hid (HSet.out j hlt)
      have p1 : IntKind.i64.wrap ((B : Int) + (j : Int)) = ((B + j : Nat) : Int) := by rw [IntWalk.i64_in _ (by omega)]; omega
      have hj4 : (j : Int) < 4 := by omega
      obtain ⟨x, hx⟩ : ∃ x, s.ws.getD (B + j) 0 = x := ⟨_, rfl⟩
      rw [hx] at HRj HSj
      clear hx hS
      have hd := HI.out.1.drew
      have hS1 : (fun W' : World => ∀ i, W'.cell? ⟨w.heap.size, i, none⟩ = (#[.pointer (some ⟨g, 0, none⟩), .int .i64 id] : Array Value)[i]?) wr.drew := hd.cell
      refine wp_region_held_drew (S := fun W' : World => ∀ i, W'.cell? ⟨w.heap.size, i, none⟩ = (#[.pointer (some ⟨g, 0, none⟩), .int .i64 id] : Array Value)[i]?) (by kernel_rfl) hS1 (fun hHeld => ?_)
      clear hHeld
      refine wpAnyH_take (i := 0) (v := ?va0) rfl (by kernel_rfl) (by kernel_rfl) (by kernel_rfl) (fun _ _ _ h => h) (Or.inl ⟨by kernel_rfl, ?hya0⟩) hS1 ?resta0
      case hya0 =>
        intro w hSw
        clear hSw
        go_simp
        first | done | with_reducible rfl
      (try simp only [List.getElem_toArray, List.getElem_cons_succ, List.getElem_cons_zero, Act.put, List.setIfInBounds_toArray, List.set_cons_zero, List.set_cons_succ])
      refine wpAnyH_take (i := 1) (v := ?va1) rfl (by kernel_rfl) (by kernel_rfl) (by kernel_rfl) (fun _ _ _ h => h) (Or.inl ⟨by kernel_rfl, ?hya1⟩) hS1 ?resta1
      case hya1 =>
        intro w hSw
        clear hSw
        go_simp
        first | done | with_reducible rfl
      (try simp only [List.getElem_toArray, List.getElem_cons_succ, List.getElem_cons_zero, Act.put, List.setIfInBounds_toArray, List.set_cons_zero, List.set_cons_succ])
      refine wpAnyH_take (i := 2) (v := ?va2) rfl (by kernel_rfl) (by kernel_rfl) (by kernel_rfl) (fun _ _ _ h => h) (Or.inl ⟨by kernel_rfl, ?hya2⟩) hS1 ?resta2
      case hya2 =>
        intro w hSw
        (try dsimp only at hSw)
        go_simp
        first | done | with_reducible rfl
      (try simp only [List.getElem_toArray, List.getElem_cons_succ, List.getElem_cons_zero, Act.put, List.setIfInBounds_toArray, List.set_cons_zero, List.set_cons_succ])
      refine wpAnyH_take (i := 3) (v := ?va3) rfl (by kernel_rfl) (by kernel_rfl) (by kernel_rfl) (fun _ _ _ h => h) (Or.inl ⟨by kernel_rfl, ?hya3⟩) hS1 ?resta3
      case hya3 =>
        intro w hSw
        (try dsimp only at hSw)
        go_simp
        first | done | with_reducible rfl
      (try simp only [List.getElem_toArray, List.getElem_cons_succ, List.getElem_cons_zero, Act.put, List.setIfInBounds_toArray, List.set_cons_zero, List.set_cons_succ])
      refine wpAnyH_take (i := 4) (v := ?va4) rfl (by kernel_rfl) (by kernel_rfl) (by kernel_rfl) (fun _ _ _ h => h) (Or.inl ⟨by kernel_rfl, ?hya4⟩) hS1 ?resta4
      case hya4 =>
        intro w hSw
        clear hSw
        go_simp
        first | done | with_reducible rfl
      (try simp only [List.getElem_toArray, List.getElem_cons_succ, List.getElem_cons_zero, Act.put, List.setIfInBounds_toArray, List.set_cons_zero, List.set_cons_succ])
      refine wpAnyH_take (i := 6) (v := ?va6) rfl (by kernel_rfl) (by kernel_rfl) (by kernel_rfl) (fun _ _ _ h => h) (Or.inl ⟨by kernel_rfl, ?hya6⟩) hS1 ?resta6
      case hya6 =>
        intro w hSw
        clear hSw
        go_simp
        first | done | with_reducible rfl
      (try simp only [List.getElem_toArray, List.getElem_cons_succ, List.getElem_cons_zero, Act.put, List.setIfInBounds_toArray, List.set_cons_zero, List.set_cons_succ])
      refine wpAnyH_call (i := 5) (by kernel_rfl) rfl (by kernel_rfl) fun K hK => ?_
      simp only [List.getElem_toArray, List.getElem_cons_succ, List.getElem_cons_zero]
      go_simp
      go_at_call 31
      refine (HB.out _).mono ?_
      rintro e w2 ⟨rfl, hb2⟩
      have hb2 := (below_drewN (Below.refl wr.heap.size wr) 1).trans hb2
      have hS2 : (fun W' : World => ∀ i, W'.cell? ⟨w.heap.size, i, none⟩ = (#[.pointer (some ⟨g, 0, none⟩), .int .i64 id] : Array Value)[i]?) w2 := (HI.out.1.kept hb2).cell
      refine hK.out _ _ hS2 ?_
      clear hK K
      (try simp only [List.getElem_toArray, List.getElem_cons_succ, List.getElem_cons_zero, Act.put, List.setIfInBounds_toArray, List.set_cons_zero, List.set_cons_succ])
      refine wpAnyH_take (i := 7) (v := ?va7) rfl (by kernel_rfl) (by kernel_rfl) (by kernel_rfl) (fun _ _ _ h => h) (Or.inl ⟨by kernel_rfl, ?hya7⟩) hS2 ?resta7
      case hya7 =>
        intro w hSw
        clear hSw
        go_simp
        first | done | with_reducible rfl
      (try simp only [List.getElem_toArray, List.getElem_cons_succ, List.getElem_cons_zero, Act.put, List.setIfInBounds_toArray, List.set_cons_zero, List.set_cons_succ])
      refine wpAnyH_call (i := 8) (by kernel_rfl) rfl (by kernel_rfl) fun K hK => ?_
      simp only [List.getElem_toArray, List.getElem_cons_succ, List.getElem_cons_zero]
      go_simp
      go_at_call 41
      refine (HRj.out _ hb2).mono ?_
      rintro e w3 ⟨rfl, rfl⟩
      refine hK.out _ _ hS2 ?_
      clear hK K
      (try simp only [List.getElem_toArray, List.getElem_cons_succ, List.getElem_cons_zero, Act.put, List.setIfInBounds_toArray, List.set_cons_zero, List.set_cons_succ])
      refine wpAnyH_take (i := 9) (v := ?va9) rfl (by kernel_rfl) (by kernel_rfl) (by kernel_rfl) (fun _ _ _ h => h) (Or.inl ⟨by kernel_rfl, ?hya9⟩) hS2 ?resta9
      case hya9 =>
        intro w hSw
        clear hSw
        go_simp
        first | done | with_reducible rfl
      (try simp only [List.getElem_toArray, List.getElem_cons_succ, List.getElem_cons_zero, Act.put, List.setIfInBounds_toArray, List.set_cons_zero, List.set_cons_succ])
      refine wpAnyH_take (i := 10) (v := ?va10) rfl (by kernel_rfl) (by kernel_rfl) (by kernel_rfl) (fun _ _ _ h => h) (Or.inl ⟨by kernel_rfl, ?hya10⟩) hS2 ?resta10
      case hya10 =>
        intro w hSw
        clear hSw
        go_simp
        first | done | with_reducible rfl
      (try simp only [List.getElem_toArray, List.getElem_cons_succ, List.getElem_cons_zero, Act.put, List.setIfInBounds_toArray, List.set_cons_zero, List.set_cons_succ])
      refine wpAnyH_take (i := 11) (v := ?va11) rfl (by kernel_rfl) (by kernel_rfl) (by kernel_rfl) (fun _ _ _ h => h) (Or.inl ⟨by kernel_rfl, ?hya11⟩) hS2 ?resta11
      case hya11 =>
        intro w hSw
        clear hSw
        go_simp
        first | done | with_reducible rfl
      (try simp only [List.getElem_toArray, List.getElem_cons_succ, List.getElem_cons_zero, Act.put, List.setIfInBounds_toArray, List.set_cons_zero, List.set_cons_succ])
      refine wpAnyH_take (i := 12) (v := ?va12) rfl (by kernel_rfl) (by kernel_rfl) (by kernel_rfl) (fun _ _ _ h => h) (Or.inl ⟨by kernel_rfl, ?hya12⟩) hS2 ?resta12
      case hya12 =>
        intro w hSw
        clear hSw
        go_simp
        first | done | with_reducible rfl
      (try simp only [List.getElem_toArray, List.getElem_cons_succ, List.getElem_cons_zero, Act.put, List.setIfInBounds_toArray, List.set_cons_zero, List.set_cons_succ])
      have h1 := HI.out.1.kept hb2
      have h2 := HI.out.2.1.kept hb2
      have h3 := HI.out.2.2.1.kept hb2
      have hb4 := HI.out.2.2.2.trans (hb2.mono HI.out.2.2.2.size)
      have hcn : ∃ u, w2.cell? ⟨w.heap.size + 2, j, none⟩ = some u := by
        rw [h3.cell]; exact ⟨_, Array.getElem?_eq_getElem (by exact hlt)⟩
      obtain ⟨u0, cn⟩ := hcn
      have fn := h3.frozen j
      have HN : Hid (Blk (w2.setCell ⟨w.heap.size + 2, j, none⟩ (.int .u32 x)) w.heap.size 69 #[.pointer (some ⟨g, 0, none⟩), .int .i64 id] ∧ Blk (w2.setCell ⟨w.heap.size + 2, j, none⟩ (.int .u32 x)) (w.heap.size + 1) 73 (slN s.ws B 0) ∧ Blk (w2.setCell ⟨w.heap.size + 2, j, none⟩ (.int .u32 x)) (w.heap.size + 2) 73 (slN s.ws B (j + 1)) ∧ RowKit.Below w.heap.size w (w2.setCell ⟨w.heap.size + 2, j, none⟩ (.int .u32 x))) :=
        Lib.hid ⟨h1.far (by simp) _, h2.far (by simp) _, by have := h3.set_ j (.int .u32 x); rw [HSj.out] at this; exact this, hb4.setCell (p := ⟨w.heap.size + 2, j, none⟩) (by simp) _⟩
      refine wpAnyH_call (i := 13) (by kernel_rfl) rfl (by kernel_rfl) fun K hK => ?_
      simp only [List.getElem_toArray, List.getElem_cons_succ, List.getElem_cons_zero]
      go_simp
      refine hK.out _ _ (HN.out.1.cell) ?_
      clear hK K
      (try simp only [List.getElem_toArray, List.getElem_cons_succ, List.getElem_cons_zero, Act.put, List.setIfInBounds_toArray, List.set_cons_zero, List.set_cons_succ])
      refine wpAnyH_done (by kernel_rfl) ?_ _
      clear HI h1 h2 h3 hb2 hb4 hS1 hS2
      go_wp2
      go_roundw
      case rel => exact ⟨j + 1, by omega, by go_num, HN⟩
      case measure => simp [intOf]; omega
    · have e : j = 4 := by omega
      rw [e] at HI
      clear e
      have c5 := HI.out.2.2.1.cell
      rw [HAll.out] at c5
      have h4 := HI.out.2.1
      have c4 := h4.cell
      have f4 := h4.frozen
      rw [HB0.out] at c4
      have HBw := Lib.hid HI.out.2.2.2
      have HO := Lib.hid h4
      clear HI h4
      unfold W4.arr at c5
      simp only at c5
      clear HAll
      go_wp2
      have cR := ((((HO.out.set_ 0 (.int .u32 ya)).set_ 1 (.int .u32 yb)).set_ 2 (.int .u32 yc)).set_ 3 (.int .u32 yd)).cell
      rw [HB0.out] at cR
      refine bodyPost_ret (v := .agg #[.int .u32 ya, .int .u32 yb, .int .u32 yc, .int .u32 yd]) (by simp [results, Try.results29, go_sem, cR]) rfl ⟨rfl, ?_⟩
      exact (((HBw.out.setCell (by simp) _).setCell (by simp) _).setCell (by simp) _).setCell (by simp) _
end Go.Proofs.Ytpenjfkdinmgmaa
