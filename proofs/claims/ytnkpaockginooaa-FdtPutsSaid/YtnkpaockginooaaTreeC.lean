/- Device trees: which are alike; the program's, walked. -/
import Derived.Test.YtnkpaockginooaaTreeB
namespace Go.Proofs.Ytnkpaockginooaa
set_option linter.unusedVariables false
set_option linter.unusedSimpArgs false
open Go.RowKit Go.Sort

theorem baL {a b : ByteArray} (h : ¬ a = b) : (a.toList == b.toList) = false := by
  rw [beq_eq_false_iff_ne]
  intro e
  apply h
  rw [ByteArray.toList_eq, ByteArray.toList_eq] at e
  cases a; cases b
  simpa using e
theorem strOfNums_toList {l1 l2 : List Int} (h1 : BytesOk l1) (h2 : BytesOk l2) (h : strOfNums l1 = strOfNums l2) : l1 = l2 := strOfNums_inj h1 h2 (by rw [h])
set_option maxRecDepth 100000 in
set_option maxHeartbeats 2000000 in
theorem sameProp_any (p1 p2 : Pr) (cs1 cs2 : List Value) (w : World) (h1 : PrOk w w.heap.size p1 cs1) (h2 : PrOk w w.heap.size p2 cs2) :
    Calls Try.prog 42 #[.agg cs1.toArray, .agg cs2.toArray] w fun e w' => e = .returned (.bool (decide (p1 = p2))) ∧ Below w.heap.size w w' := by
  obtain ⟨n1, l1⟩ := p1
  obtain ⟨n2, l2⟩ := p2
  obtain ⟨_, hb1, A1, c1, rfl, _, _, hr1⟩ := h1
  obtain ⟨_, hb2, A2, c2, rfl, _, _, hr2⟩ := h2
  simp only at hb1 hb2 hr1 hr2 ⊢
  have hb := bal (bal (Below.refl w.heap.size w) (.cells #[.string n1, .slice A1 l1.length c1] 88)) (.cells #[.string n2, .slice A2 l2.length c2] 88)
  have s1 := conv_str (hr1.below hb) rfl c1
  have s2 := conv_str (hr2.below hb) rfl c2
  have HInj := Lib.hid (fun h => strOfNums_toList hb1 hb2 h)
  have HB := Lib.hid hb
  clear hr1 hr2 hb1 hb2 hb
  obtain ⟨bb, hbb⟩ : ∃ bb, decide ((n1, l1) = (n2, l2)) = bb := ⟨_, rfl⟩
  rw [hbb]
  by_cases hn : n1 = n2
  · by_cases hl : strOfNums l1 = strOfNums l2
    · have e : bb = true := by rw [← hbb, decide_eq_true_eq, hn, HInj.out hl]
      clear hbb
      subst e
      subst hn
      rw [← hl] at s2
      clear hl HInj
      generalize strOfNums l1 = q at *
      generalize l1.length = k1 at *
      generalize l2.length = k2 at *
      go_enter Try.func42, Try.ntmps42
      go_wp2
      go_ret
      exact ⟨rfl, HB.out⟩
    · have e : bb = false := by rw [← hbb, decide_eq_false_iff_not]; rintro h; apply hl; rw [(Prod.mk.inj h).2]
      clear hbb HInj
      subst e
      subst hn
      have hq := baL hl
      clear hl
      generalize l1.length = k1 at *
      generalize l2.length = k2 at *
      generalize strOfNums l1 = q1 at *
      generalize strOfNums l2 = q2 at *
      go_enter Try.func42, Try.ntmps42
      go_wp2
      go_ret
      exact ⟨rfl, HB.out⟩
  · have e : bb = false := by rw [← hbb, decide_eq_false_iff_not]; rintro h; apply hn; rw [(Prod.mk.inj h).1]
    clear hbb HInj s1 s2
    subst e
    have hq := baL hn
    clear hn
    generalize l1.length = k1 at *
    generalize l2.length = k2 at *
    go_enter Try.func42, Try.ntmps42
    go_wp2
    go_ret
    exact ⟨rfl, HB.out⟩
/-- Whether two things are one. -/
noncomputable def eqv {α : Type} (a b : α) : Bool := @decide (a = b) (Classical.propDecidable _)
theorem eqv_t {α : Type} {a b : α} (h : a = b) : eqv a b = true := @decide_eq_true _ (Classical.propDecidable _) h
theorem eqv_f {α : Type} {a b : α} (h : ¬ a = b) : eqv a b = false := @decide_eq_false _ (Classical.propDecidable _) h
theorem eqv_decide {α : Type} [DecidableEq α] (a b : α) : decide (a = b) = eqv a b := by
  by_cases h : a = b
  · rw [eqv_t h]; simpa using h
  · rw [eqv_f h]; simpa using h
theorem take_all {α : Type} {l1 l2 : List α} {n k : Nat} (h1 : l1.length = n) (h2 : l2.length = n) (hk : k = n) (h : ∀ j, j < k → l1[j]? = l2[j]?) : l1 = l2 := List.ext_getElem? fun j => by
  rcases Nat.lt_or_ge j n with hj | hj
  · exact h j (by omega)
  · rw [List.getElem?_eq_none (by omega), List.getElem?_eq_none (by omega)]
set_option maxRecDepth 100000 in
set_option maxHeartbeats 2000000 in
theorem eqProps_any (l1 l2 : List Pr) (A1 A2 : Option Addr) (c1 c2 n1 n2 : Nat) (f1 f2 : Nat → List Value) (F : Nat) (w : World) (hn1 : l1.length = n1) (hn2 : l2.length = n2) (hc1 : n1 ≤ maxLen) (hc2 : n2 ≤ maxLen) (h1 : RowsAt w w.heap.size 2 A1 n1 f1) (h2 : RowsAt w w.heap.size 2 A2 n2 f2)
    (hv : ∀ i, (∃ p, l1[i]? = some p) → ∃ (x1 : ByteArray) (xA : Option Addr) (xl xc : Nat), f1 i = [.string x1, .slice xA xl xc]) (hv2 : ∀ i, (∃ p, l2[i]? = some p) → ∃ (x1 : ByteArray) (xA : Option Addr) (xl xc : Nat), f2 i = [.string x1, .slice xA xl xc])
    (H : ∀ i p1 p2, l1[i]? = some p1 → l2[i]? = some p2 → ∀ W, Below w.heap.size w W → Calls Try.prog 42 #[.agg (f1 i).toArray, .agg (f2 i).toArray] W fun e w' => e = .returned (.bool (eqv p1 p2)) ∧ Below W.heap.size W w') :
    Calls Try.prog 43 #[.slice A1 n1 c1, .slice A2 n2 c2, .func (.func 42) #[] #[]] w fun e w' => e = .returned (.bool (eqv l1 l2)) ∧ Below w.heap.size w w' := by
  unfold maxLen at hc1 hc2
  obtain ⟨bb, hbb⟩ : ∃ bb, eqv l1 l2 = bb := ⟨_, rfl⟩
  rw [hbb]
  by_cases hne : n1 = n2
  · subst hne
    have HN1 := Lib.hid hn1
    have HN2 := Lib.hid hn2
    have HR1 := Lib.hid h1
    have HR2 := Lib.hid h2
    have HV1 := Lib.hid hv
    have HV2 := Lib.hid hv2
    have HH := Lib.hid H
    have HBB := Lib.hid hbb
    clear hn1 hn2 h1 h2 hv hv2 H hbb
    go_enter Try.func43, Try.ntmps43
    go_wp2
    go_loopw [17] (fun i wr => ∃ k : Nat, k ≤ n1 ∧ i = .int .i64 k ∧ Hid (∀ j, j < k → l1[j]? = l2[j]?) ∧ Below w.heap.size w wr) (fun i _ => n1 - (intOf i).toNat)
    case atStart => exact ⟨0, by omega, rfl, fun j hj => absurd hj (by omega), Below.refl _ _⟩
    case round =>
      obtain ⟨k, hk, rfl, hq, hbr⟩ := hrel
      by_cases hlt : k < n1
      · obtain ⟨p1, hp1⟩ : ∃ p, l1[k]? = some p := ⟨_, List.getElem?_eq_getElem (by rw [HN1.out]; exact hlt)⟩
        obtain ⟨p2, hp2⟩ : ∃ p, l2[k]? = some p := ⟨_, List.getElem?_eq_getElem (by rw [HN2.out]; exact hlt)⟩
        obtain ⟨x1, xA, xl, xc, hx⟩ := HV1.out k ⟨p1, hp1⟩
        obtain ⟨y1, yA, yl, yc, hy⟩ := HV2.out k ⟨p2, hp2⟩
        obtain ⟨b1, o1, rfl, hb1, hd1⟩ := HR1.out (by omega)
        obtain ⟨b2, o2, rfl, hb2, hd2⟩ := HR2.out (by omega)
        have HC := Lib.hid (HH.out k p1 p2 hp1 hp2)
        have HP1 := Lib.hid hp1
        have HP2 := Lib.hid hp2
        rw [hx, hy] at HC
        have d0 := (hbr.cell (p := ⟨b1, o1 + (k * 2 + 0), none⟩) hb1).trans (hd1 k hlt 0 (by omega))
        have d1 := (hbr.cell (p := ⟨b1, o1 + (k * 2 + 1), none⟩) hb1).trans (hd1 k hlt 1 (by omega))
        skip
        have e0 := (hbr.cell (p := ⟨b2, o2 + (k * 2 + 0), none⟩) hb2).trans (hd2 k hlt 0 (by omega))
        have e1 := (hbr.cell (p := ⟨b2, o2 + (k * 2 + 1), none⟩) hb2).trans (hd2 k hlt 1 (by omega))
        skip
        rw [hx] at d0 d1
        rw [hy] at e0 e1
        simp only [Nat.add_zero, ← Nat.add_assoc, List.getElem?_cons_zero, List.getElem?_cons_succ] at d0 d1 e0 e1
        have HX := Lib.hid (bal (bal (Below.refl wr.heap.size wr) (.cells #[.string x1, .slice xA xl xc] 88)) (.cells #[.string y1, .slice yA yl yc] 88))
        have hz2 : b2 < wr.heap.size := by have := hbr.size; omega
        clear hd1 hd2 hp1 hp2 hx hy
        by_cases hp : p1 = p2
        · rw [eqv_t hp] at HC
          go_wp2_with (go_at_call 42; refine (HC.out _ (hbr.trans (HX.out.mono hbr.size))).mono ?_; rintro e w5 ⟨rfl, hb5⟩)
          have hb6 := (hbr.trans (HX.out.mono hbr.size)).trans (hb5.mono (Nat.le_trans hbr.size HX.out.size))
          go_roundw
          case rel => exact ⟨k + 1, by omega, by go_num, (fun j hj => by
            rcases Nat.lt_or_ge j k with h1 | h1
            · exact hq.out j h1
            · obtain rfl : j = k := by omega
              rw [HP1.out, HP2.out, hp]), hb6⟩
          case measure => simp [intOf]; omega
        · rw [eqv_f hp] at HC
          have hf : bb = false := by
            rw [← HBB.out]
            apply eqv_f
            intro h
            apply hp
            have := HP1.out
            rw [h, HP2.out] at this
            exact (Option.some.inj this).symm
          subst hf
          clear hp
          go_wp2_with (go_at_call 42; refine (HC.out _ (hbr.trans (HX.out.mono hbr.size))).mono ?_; rintro e w5 ⟨rfl, hb5⟩)
          have hb6 := (hbr.trans (HX.out.mono hbr.size)).trans (hb5.mono (Nat.le_trans hbr.size HX.out.size))
          go_ret
          exact ⟨rfl, hb6⟩
      · obtain rfl : k = n1 := by omega
        have hf : bb = true := by rw [← HBB.out]; exact eqv_t (take_all HN1.out HN2.out rfl hq.out)
        subst hf
        go_wp2
        go_ret
        exact ⟨rfl, hbr⟩
  · have hf : bb = false := by rw [← hbb]; apply eqv_f; intro h; apply hne; rw [← hn1, ← hn2, h]
    subst hf
    have e1 : ((n1 : Int) != (n2 : Int)) = true := by rw [bne_iff_ne]; omega
    clear hbb hn1 hn2 h1 h2 hv hv2 H hne
    go_enter Try.func43, Try.ntmps43
    go_wp2
    go_ret
    exact ⟨rfl, Below.refl _ _⟩
set_option maxRecDepth 100000 in
set_option maxHeartbeats 2000000 in
theorem eqTrees_any (l1 l2 : List Tr) (A1 A2 : Option Addr) (c1 c2 n1 n2 : Nat) (f1 f2 : Nat → List Value) (F : Nat) (w : World) (hn1 : l1.length = n1) (hn2 : l2.length = n2) (hc1 : n1 ≤ maxLen) (hc2 : n2 ≤ maxLen) (h1 : RowsAt w w.heap.size 3 A1 n1 f1) (h2 : RowsAt w w.heap.size 3 A2 n2 f2)
    (hv : ∀ i, (∃ p, l1[i]? = some p) → ∃ (x1 : ByteArray) (xA : Option Addr) (xl xc : Nat) (xB : Option Addr) (xm xd : Nat), f1 i = [.string x1, .slice xA xl xc, .slice xB xm xd]) (hv2 : ∀ i, (∃ p, l2[i]? = some p) → ∃ (x1 : ByteArray) (xA : Option Addr) (xl xc : Nat) (xB : Option Addr) (xm xd : Nat), f2 i = [.string x1, .slice xA xl xc, .slice xB xm xd])
    (H : ∀ i p1 p2, l1[i]? = some p1 → l2[i]? = some p2 → ∀ W, Below w.heap.size w W → Calls Try.prog 19 #[.agg (f1 i).toArray, .agg (f2 i).toArray] W fun e w' => e = .returned (.bool (eqv p1 p2)) ∧ Below W.heap.size W w') :
    Calls Try.prog 44 #[.slice A1 n1 c1, .slice A2 n2 c2, .func (.func 19) #[] #[]] w fun e w' => e = .returned (.bool (eqv l1 l2)) ∧ Below w.heap.size w w' := by
  unfold maxLen at hc1 hc2
  obtain ⟨bb, hbb⟩ : ∃ bb, eqv l1 l2 = bb := ⟨_, rfl⟩
  rw [hbb]
  by_cases hne : n1 = n2
  · subst hne
    have HN1 := Lib.hid hn1
    have HN2 := Lib.hid hn2
    have HR1 := Lib.hid h1
    have HR2 := Lib.hid h2
    have HV1 := Lib.hid hv
    have HV2 := Lib.hid hv2
    have HH := Lib.hid H
    have HBB := Lib.hid hbb
    clear hn1 hn2 h1 h2 hv hv2 H hbb
    go_enter Try.func44, Try.ntmps44
    go_wp2
    go_loopw [17] (fun i wr => ∃ k : Nat, k ≤ n1 ∧ i = .int .i64 k ∧ Hid (∀ j, j < k → l1[j]? = l2[j]?) ∧ Below w.heap.size w wr) (fun i _ => n1 - (intOf i).toNat)
    case atStart => exact ⟨0, by omega, rfl, fun j hj => absurd hj (by omega), Below.refl _ _⟩
    case round =>
      obtain ⟨k, hk, rfl, hq, hbr⟩ := hrel
      by_cases hlt : k < n1
      · obtain ⟨p1, hp1⟩ : ∃ p, l1[k]? = some p := ⟨_, List.getElem?_eq_getElem (by rw [HN1.out]; exact hlt)⟩
        obtain ⟨p2, hp2⟩ : ∃ p, l2[k]? = some p := ⟨_, List.getElem?_eq_getElem (by rw [HN2.out]; exact hlt)⟩
        obtain ⟨x1, xA, xl, xc, xB, xm, xd, hx⟩ := HV1.out k ⟨p1, hp1⟩
        obtain ⟨y1, yA, yl, yc, yB, ym, yd, hy⟩ := HV2.out k ⟨p2, hp2⟩
        obtain ⟨b1, o1, rfl, hb1, hd1⟩ := HR1.out (by omega)
        obtain ⟨b2, o2, rfl, hb2, hd2⟩ := HR2.out (by omega)
        have HC := Lib.hid (HH.out k p1 p2 hp1 hp2)
        have HP1 := Lib.hid hp1
        have HP2 := Lib.hid hp2
        rw [hx, hy] at HC
        have d0 := (hbr.cell (p := ⟨b1, o1 + (k * 3 + 0), none⟩) hb1).trans (hd1 k hlt 0 (by omega))
        have d1 := (hbr.cell (p := ⟨b1, o1 + (k * 3 + 1), none⟩) hb1).trans (hd1 k hlt 1 (by omega))
        have d2 := (hbr.cell (p := ⟨b1, o1 + (k * 3 + 2), none⟩) hb1).trans (hd1 k hlt 2 (by omega))
        have e0 := (hbr.cell (p := ⟨b2, o2 + (k * 3 + 0), none⟩) hb2).trans (hd2 k hlt 0 (by omega))
        have e1 := (hbr.cell (p := ⟨b2, o2 + (k * 3 + 1), none⟩) hb2).trans (hd2 k hlt 1 (by omega))
        have e2 := (hbr.cell (p := ⟨b2, o2 + (k * 3 + 2), none⟩) hb2).trans (hd2 k hlt 2 (by omega))
        rw [hx] at d0 d1 d2
        rw [hy] at e0 e1 e2
        simp only [Nat.add_zero, ← Nat.add_assoc, List.getElem?_cons_zero, List.getElem?_cons_succ] at d0 d1 d2 e0 e1 e2
        have HX := Lib.hid (bal (bal (Below.refl wr.heap.size wr) (.cells #[.string x1, .slice xA xl xc, .slice xB xm xd] 25)) (.cells #[.string y1, .slice yA yl yc, .slice yB ym yd] 25))
        have hz2 : b2 < wr.heap.size := by have := hbr.size; omega
        clear hd1 hd2 hp1 hp2 hx hy
        by_cases hp : p1 = p2
        · rw [eqv_t hp] at HC
          go_wp2_with (go_at_call 19; refine (HC.out _ (hbr.trans (HX.out.mono hbr.size))).mono ?_; rintro e w5 ⟨rfl, hb5⟩)
          have hb6 := (hbr.trans (HX.out.mono hbr.size)).trans (hb5.mono (Nat.le_trans hbr.size HX.out.size))
          go_roundw
          case rel => exact ⟨k + 1, by omega, by go_num, (fun j hj => by
            rcases Nat.lt_or_ge j k with h1 | h1
            · exact hq.out j h1
            · obtain rfl : j = k := by omega
              rw [HP1.out, HP2.out, hp]), hb6⟩
          case measure => simp [intOf]; omega
        · rw [eqv_f hp] at HC
          have hf : bb = false := by
            rw [← HBB.out]
            apply eqv_f
            intro h
            apply hp
            have := HP1.out
            rw [h, HP2.out] at this
            exact (Option.some.inj this).symm
          subst hf
          clear hp
          go_wp2_with (go_at_call 19; refine (HC.out _ (hbr.trans (HX.out.mono hbr.size))).mono ?_; rintro e w5 ⟨rfl, hb5⟩)
          have hb6 := (hbr.trans (HX.out.mono hbr.size)).trans (hb5.mono (Nat.le_trans hbr.size HX.out.size))
          go_ret
          exact ⟨rfl, hb6⟩
      · obtain rfl : k = n1 := by omega
        have hf : bb = true := by rw [← HBB.out]; exact eqv_t (take_all HN1.out HN2.out rfl hq.out)
        subst hf
        go_wp2
        go_ret
        exact ⟨rfl, hbr⟩
  · have hf : bb = false := by rw [← hbb]; apply eqv_f; intro h; apply hne; rw [← hn1, ← hn2, h]
    subst hf
    have e1 : ((n1 : Int) != (n2 : Int)) = true := by rw [bne_iff_ne]; omega
    clear hbb hn1 hn2 h1 h2 hv hv2 H hne
    go_enter Try.func44, Try.ntmps44
    go_wp2
    go_ret
    exact ⟨rfl, Below.refl _ _⟩
end Go.Proofs.Ytnkpaockginooaa
