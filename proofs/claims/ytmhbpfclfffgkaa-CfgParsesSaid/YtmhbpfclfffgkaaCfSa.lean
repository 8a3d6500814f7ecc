/- Chapter 14: slices.EqualFunc over guests; walked. -/
import Derived.Test.YtmhbpfclfffgkaaCfE
import Derived.Test.YtmhbpfclfffgkaaCfZ
namespace Go.Proofs.Ytmhbpfclfffgkaa
set_option linter.unusedVariables false
set_option linter.unusedSimpArgs false
open Go.RowKit Go.Sort

/-- Rows of guests that are alike. -/
def gsEqB : List Gs → List Gs → Bool
  | [], [] => true
  | a :: l, b :: m => gEqB a b && gsEqB l m
  | _, _ => false
theorem gsEqB_len : ∀ {l m : List Gs}, gsEqB l m = true → l.length = m.length
  | [], [], _ => rfl
  | a :: l, b :: m, h => by
    unfold gsEqB at h
    rw [Bool.and_eq_true] at h
    rw [List.length_cons, List.length_cons, gsEqB_len h.2]
  | [], b :: m, h => by cases h
  | a :: l, [], h => by cases h
theorem gsEqB_at : ∀ {l m : List Gs} {k : Nat} {a b : Gs}, gsEqB l m = true → l[k]? = some a → m[k]? = some b → gEqB a b = true
  | [], _, k, a, b, _, h, _ => by simp at h
  | x :: l, y :: m, k, a, b, hg, h, h2 => by
    unfold gsEqB at hg
    rw [Bool.and_eq_true] at hg
    cases k with
    | zero =>
      obtain rfl : x = a := by simpa using h
      obtain rfl : y = b := by simpa using h2
      exact hg.1
    | succ k => exact gsEqB_at hg.2 (by simpa using h) (by simpa using h2)
  | x :: l, [], k, a, b, _, _, h => by simp at h
theorem gsEqB_all : ∀ {l m : List Gs}, l.length = m.length → (∀ (k : Nat) (a b : Gs), l[k]? = some a → m[k]? = some b → gEqB a b = true) → gsEqB l m = true
  | [], [], _, _ => rfl
  | x :: l, y :: m, h, hg => by
    unfold gsEqB
    rw [Bool.and_eq_true]
    exact ⟨hg 0 x y rfl rfl, gsEqB_all (by simpa using h) fun k a b ha hb => hg (k + 1) a b (by simpa using ha) (by simpa using hb)⟩
  | [], y :: m, h, _ => by simp at h
  | x :: l, [], h, _ => by simp at h
theorem map_at {L : List (Gs × Gp)} {k : Nat} {x : Gs} (h : (L.map Prod.fst)[k]? = some x) : ∃ y, L[k]? = some y ∧ y.1 = x := by
  rw [List.getElem?_map] at h
  rcases hk : L[k]? with _ | y
  · rw [hk] at h; cases h
  · rw [hk] at h; exact ⟨y, rfl, by simpa using h⟩
theorem range_below {w W : World} {b o B : Nat} {cs : List Value} (h : w.rangeAt b o cs) (hb : b < B) (hw : Below B w W) : W.rangeAt b o cs := fun j v hv => (hw.cell (p := ⟨b, o + j, none⟩) hb).trans (h j v hv)
/-- Guests that lie in a row. -/
structure GRow (w : World) (L : List (Gs × Gp)) (A : Option Addr) (n : Nat) : Prop where
  len : L.length = n
  ml : n ≤ maxLen
  og : ∀ g ∈ L, GsR w w.heap.size g
  rg : Rd w w.heap.size 79 A n (L.flatMap gcells)
theorem GRow.at {w W : World} {L : List (Gs × Gp)} {A : Option Addr} {n : Nat} (h : GRow w L A n) (hW : Below w.heap.size w W) {k : Nat} (hk : k < n) : ∃ g b o, L[k]? = some g ∧ A = some ⟨b, o, none⟩ ∧ b < w.heap.size ∧ W.rangeAt b (o + k * 79) (gcells g) ∧ GsR W W.heap.size g ∧ (gcells g).length = 79 := by
  have hlt : k < L.length := by rw [h.len]; exact hk
  have hm := List.getElem_mem hlt
  obtain ⟨b, o, h1, h2, h3⟩ := (h.rg.below hW).range (fun y hy => gcells_len (h.og y hy).kl) hlt h.len
  exact ⟨_, b, o, List.getElem?_eq_getElem hlt, h1, h2, h3, ((h.og _ hm).below hW).more hW.size, gcells_len (h.og _ hm).kl⟩
set_option maxRecDepth 100000 in
set_option maxHeartbeats 8000000 in
theorem eqGuests_any (L1 L2 : List (Gs × Gp)) (A1 A2 : Option Addr) (c1 c2 n1 n2 : Nat) (w : World) (h1 : GRow w L1 A1 n1) (h2 : GRow w L2 A2 n2) :
    Calls Try.prog 38 #[.slice A1 n1 c1, .slice A2 n2 c2, .func (.func 39) #[] #[]] w fun e w' => e = .returned (.bool (gsEqB (L1.map Prod.fst) (L2.map Prod.fst))) ∧ Below w.heap.size w w' := by
  obtain ⟨bb, hbb⟩ : ∃ bb, gsEqB (L1.map Prod.fst) (L2.map Prod.fst) = bb := ⟨_, rfl⟩
  rw [hbb]
  have hc1 := h1.ml
  have hc2 := h2.ml
  unfold maxLen at hc1 hc2
  have hz79 : Try.zeroCells70.size = 79 := by kernel_rfl
  by_cases hne : n1 = n2
  · subst hne
    have HR1 := Lib.hid h1
    have HR2 := Lib.hid h2
    have HBB := Lib.hid hbb
    clear h1 h2 hbb
    go_enter Try.func38, Try.ntmps38
    go_wp2
    go_loopw [17] (fun i wr => ∃ k : Nat, k ≤ n1 ∧ i = .int .i64 k ∧ Hid (∀ j a b, j < k → L1[j]? = some a → L2[j]? = some b → gEqB a.1 b.1 = true) ∧ Below w.heap.size w wr) (fun i _ => n1 - (intOf i).toNat)
    case atStart => exact ⟨0, by omega, rfl, Lib.hid (fun j a b hj => absurd hj (by omega)), Below.refl _ _⟩
    case round =>
      obtain ⟨k, hk, rfl, hq, hbr⟩ := hrel
      by_cases hlt : k < n1
      · have hd : decide ((k : Int) < (n1 : Int)) = true := decide_eq_true (by omega)
        obtain ⟨g1, b1, o1, hp1, rfl, hb1, hrow1, hG1, hl1⟩ := HR1.out.at hbr hlt
        obtain ⟨g2, b2, o2, hp2, rfl, hb2, hrow2, hG2, hl2⟩ := HR2.out.at hbr hlt
        have hi1 : (Try.prog.info? 70).map (·.size) = some (gcells g1).length := by rw [hl1]; kernel_rfl
        have hi2 : (Try.prog.info? 70).map (·.size) = some (gcells g2).length := by rw [hl2]; kernel_rfl
        have hZ1 := Blk.new wr 70 Try.zeroCells70
        have hbZ1 := bal (Below.refl wr.heap.size wr) (.cells Try.zeroCells70 70)
        have HP1 := Lib.hid hp1
        have HP2 := Lib.hid hp2
        have hsz := hbr.size
        clear hp1 hp2
        go_upto_region 6 with (first
          |
          (refine wpList_load_mid rfl 70 (.tmp 20) rfl b1 (o1 + k * 79) (by rfl) (gcells g1) _ hrow1 Try.underlying70 rfl hi1 ?_)
          | (refine wpList_store_blk rfl 70 (.tmp 8) (.tmp 21) rfl wr.heap.size 0 (gcells g1).toArray (by rfl) (by rfl) hZ1 (by rw [List.size_toArray, hl1, hz79]; decide) (by rw [List.size_toArray]; exact hi1) (gcells_one _) (setAt_all _ _ (by rw [hz79]; simpa using hl1)) ?_; intro w6 hX6 hb6 hz6 hh6))
        have hX6 : Blk w6 wr.heap.size 70 (gcells g1).toArray := by simpa using hX6
        have hB6 : Below wr.heap.size wr w6 := hbZ1.trans (hb6 _ (Nat.le_refl _))
        have hs6 : w6.heap.size = wr.heap.size + 1 := by rw [hz6]; simp
        have hrow2' := range_below hrow2 (by omega : b2 < wr.heap.size) hB6
        have hZ2 := Blk.new w6 70 Try.zeroCells70
        have hbZ2 := bal (Below.refl w6.heap.size w6) (.cells Try.zeroCells70 70)
        rw [hs6] at hZ2
        clear hZ1 hbZ1 hrow1 hrow2 hb6 hz6 hh6
        go_upto_region 7 with (first
          |
          (refine wpList_load_mid rfl 70 (.tmp 24) rfl b2 (o2 + k * 79) (by rfl) (gcells g2) _ hrow2' Try.underlying70 rfl hi2 ?_)
          | (refine wpList_store_blk rfl 70 (.tmp 9) (.tmp 25) rfl (wr.heap.size + 1) 0 (gcells g2).toArray (by first | rfl | (rw [← hs6]; rfl)) (by rfl) hZ2 (by rw [List.size_toArray, hl2, hz79]; decide) (by rw [List.size_toArray]; exact hi2) (gcells_one _) (setAt_all _ _ (by rw [hz79]; simpa using hl2)) ?_; intro w7 hX7 hb7 hz7 hh7))
        have hX7 : Blk w7 (wr.heap.size + 1) 70 (gcells g2).toArray := by simpa using hX7
        have hB7 : Below w6.heap.size w6 w7 := hbZ2.trans (hb7 _ (by omega))
        have hY7 := hX6.kept hB7
        have hr1 := blk_range hY7
        have hr2 := blk_range hX7
        have hB67 := hB6.trans (hB7.mono (by omega))
        have hbr7 := hbr.trans (hB67.mono hbr.size)
        have HC := Lib.hid (sameGuest_any g1 g2 w7 ((hG1.below hB67).more hB67.size) ((hG2.below hB67).more hB67.size))
        clear hX6 hX7 hY7 hB6 hB7 hbZ2 hZ2 hrow2' hb7 hz7 hh7 hB67 hG1 hG2 hz79
        obtain ⟨q, hqe⟩ : ∃ q, gEqB g1.1 g2.1 = q := ⟨_, rfl⟩
        rw [hqe] at HC
        have HQ := Lib.hid hqe
        clear hqe
        rcases q with _ | _
        · have hf : bb = false := by
            rw [← HBB.out, ← Bool.not_eq_true]
            intro h
            have := gsEqB_at h (k := k) (a := g1.1) (b := g2.1) (by rw [List.getElem?_map, HP1.out]; rfl) (by rw [List.getElem?_map, HP2.out]; rfl)
            rw [HQ.out] at this
            cases this
          subst hf
          go_wp2_with (first
            |
            (refine wpList_load_mid rfl 70 (.tmp 8) rfl wr.heap.size (0) (by rfl) (gcells g1) _ hr1 Try.underlying70 rfl hi1 ?_)
            |
            (refine wpList_load_mid rfl 70 (.tmp 9) rfl (wr.heap.size + 1) (0) (by rfl) (gcells g2) _ hr2 Try.underlying70 rfl hi2 ?_)
            | (go_at_call 39; refine HC.out.mono ?_; rintro e w8 ⟨rfl, hb8⟩))
          have hb9 := hbr7.trans (hb8.mono hbr7.size)
          go_ret
          exact ⟨rfl, hb9⟩
        · go_wp2_with (first
            |
            (refine wpList_load_mid rfl 70 (.tmp 8) rfl wr.heap.size (0) (by rfl) (gcells g1) _ hr1 Try.underlying70 rfl hi1 ?_)
            |
            (refine wpList_load_mid rfl 70 (.tmp 9) rfl (wr.heap.size + 1) (0) (by rfl) (gcells g2) _ hr2 Try.underlying70 rfl hi2 ?_)
            | (go_at_call 39; refine HC.out.mono ?_; rintro e w8 ⟨rfl, hb8⟩))
          have hb9 := hbr7.trans (hb8.mono hbr7.size)
          go_roundw
          case rel => exact ⟨k + 1, by omega, by go_num, Lib.hid (fun j a b hj ha hb => by
            rcases Nat.lt_or_ge j k with h1 | h1
            · exact hq.out j a b h1 ha hb
            · obtain rfl : j = k := by omega
              rw [HP1.out] at ha
              rw [HP2.out] at hb
              cases ha; cases hb
              exact HQ.out), hb9⟩
          case measure => simp [intOf]; omega
      · obtain rfl : k = n1 := by omega
        have hf : bb = true := by
          rw [← HBB.out]
          refine gsEqB_all (by rw [List.length_map, List.length_map, HR1.out.len, HR2.out.len]) fun j a b ha hb => ?_
          obtain ⟨a, ha2, rfl⟩ := map_at ha
          obtain ⟨b, hb2, rfl⟩ := map_at hb
          exact hq.out j a b (by rw [← HR1.out.len]; exact (List.getElem?_eq_some_iff.1 ha2).1) ha2 hb2
        subst hf
        go_wp2
        go_ret
        exact ⟨rfl, hbr⟩
  · have hf : bb = false := by
      rw [← hbb, ← Bool.not_eq_true]
      intro h
      apply hne
      have := gsEqB_len h
      rw [List.length_map, List.length_map, h1.len, h2.len] at this
      exact this
    subst hf
    have e1 : ((n1 : Int) != (n2 : Int)) = true := by rw [bne_iff_ne]; omega
    clear hbb h1 h2 hne
    go_enter Try.func38, Try.ntmps38
    go_wp2
    go_ret
    exact ⟨rfl, Below.refl _ _⟩
end Go.Proofs.Ytmhbpfclfffgkaa
