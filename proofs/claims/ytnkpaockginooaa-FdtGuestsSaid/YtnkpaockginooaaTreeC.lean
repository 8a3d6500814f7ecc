/- Device trees: which are alike; the program's, walked. -/
import Derived.Test.YtnkpaockginooaaTreeA
namespace Go.Proofs.Ytnkpaockginooaa
set_option linter.unusedVariables false
set_option linter.unusedSimpArgs false
open Go.RowKit Go.Sort

theorem baL {a b : ByteArray} (h : ¬ a = b) : (a.toList == b.toList) = false := by
  rw [beq_eq_false_iff_ne]
  intro e
  apply h
  rw [ByteArray.toList_eq, ByteArray.toList_eq] at e
  cases a; cases b
  simpa using e
theorem strOfNums_toList {l1 l2 : List Int} (h1 : BytesOk l1) (h2 : BytesOk l2) (h : strOfNums l1 = strOfNums l2) : l1 = l2 := strOfNums_inj h1 h2 (by rw [h])
set_option maxRecDepth 100000 in
set_option maxHeartbeats 2000000 in
theorem sameProp_any (p1 p2 : Pr) (cs1 cs2 : List Value) (w : World) (h1 : PrOk w w.heap.size p1 cs1) (h2 : PrOk w w.heap.size p2 cs2) :
    Calls Try.prog 42 #[.agg cs1.toArray, .agg cs2.toArray] w fun e w' => e = .returned (.bool (decide (p1 = p2))) ∧ Below w.heap.size w w' := by
  obtain ⟨n1, l1⟩ := p1
  obtain ⟨n2, l2⟩ := p2
  obtain ⟨_, hb1, A1, c1, rfl, _, _, hr1⟩ := h1
  obtain ⟨_, hb2, A2, c2, rfl, _, _, hr2⟩ := h2
  simp only at hb1 hb2 hr1 hr2 ⊢
  have hb := bal (bal (Below.refl w.heap.size w) (.cells #[.string n1, .slice A1 l1.length c1] 88)) (.cells #[.string n2, .slice A2 l2.length c2] 88)
  have s1 := conv_str (hr1.below hb) rfl c1
  have s2 := conv_str (hr2.below hb) rfl c2
  have HInj := Lib.hid (fun h => strOfNums_toList hb1 hb2 h)
  have HB := Lib.hid hb
  clear hr1 hr2 hb1 hb2 hb
  obtain ⟨bb, hbb⟩ : ∃ bb, decide ((n1, l1) = (n2, l2)) = bb := ⟨_, rfl⟩
  rw [hbb]
  by_cases hn : n1 = n2
  · by_cases hl : strOfNums l1 = strOfNums l2
    · have e : bb = true := by rw [← hbb, decide_eq_true_eq, hn, HInj.out hl]
      clear hbb
      subst e
      subst hn
      rw [← hl] at s2
      clear hl HInj
      generalize strOfNums l1 = q at *
      generalize l1.length = k1 at *
      generalize l2.length = k2 at *
      go_enter Try.func42, Try.ntmps42
      go_wp2
      go_ret
      exact ⟨rfl, HB.out⟩
    · have e : bb = false := by rw [← hbb, decide_eq_false_iff_not]; rintro h; apply hl; rw [(Prod.mk.inj h).2]
      clear hbb HInj
      subst e
      subst hn
      have hq := baL hl
      clear hl
      generalize l1.length = k1 at *
      generalize l2.length = k2 at *
      generalize strOfNums l1 = q1 at *
      generalize strOfNums l2 = q2 at *
      go_enter Try.func42, Try.ntmps42
      go_wp2
      go_ret
      exact ⟨rfl, HB.out⟩
  · have e : bb = false := by rw [← hbb, decide_eq_false_iff_not]; rintro h; apply hn; rw [(Prod.mk.inj h).1]
    clear hbb HInj s1 s2
    subst e
    have hq := baL hn
    clear hn
    generalize l1.length = k1 at *
    generalize l2.length = k2 at *
    go_enter Try.func42, Try.ntmps42
    go_wp2
    go_ret
    exact ⟨rfl, HB.out⟩
/-- Whether two things are one. -/
noncomputable def eqv {α : Type} (a b : α) : Bool := @decide (a = b) (Classical.propDecidable _)
theorem eqv_t {α : Type} {a b : α} (h : a = b) : eqv a b = true := @decide_eq_true _ (Classical.propDecidable _) h
theorem eqv_f {α : Type} {a b : α} (h : ¬ a = b) : eqv a b = false := @decide_eq_false _ (Classical.propDecidable _) h
theorem eqv_decide {α : Type} [DecidableEq α] (a b : α) : decide (a = b) = eqv a b := by
  by_cases h : a = b
  · rw [eqv_t h]; simpa using h
  · rw [eqv_f h]; simpa using h
theorem take_all {α : Type} {l1 l2 : List α} {n k : Nat} (h1 : l1.length = n) (h2 : l2.length = n) (hk : k = n) (h : ∀ j, j < k → l1[j]? = l2[j]?) : l1 = l2 := List.ext_getElem? fun j => by
  rcases Nat.lt_or_ge j n with hj | hj
  · exact h j (by omega)
  · rw [List.getElem?_eq_none (by omega), List.getElem?_eq_none (by omega)]
set_option maxRecDepth 100000 in
set_option maxHeartbeats 2000000 in
theorem eqProps_any (l1 l2 : List Pr) (A1 A2 : Option Addr) (c1 c2 n1 n2 : Nat) (f1 f2 : Nat → List Value) (F : Nat) (w : World) (hn1 : l1.length = n1) (hn2 : l2.length = n2) (hc1 : n1 ≤ maxLen) (hc2 : n2 ≤ maxLen) (h1 : RowsAt w w.heap.size 2 A1 n1 f1) (h2 : RowsAt w w.heap.size 2 A2 n2 f2)
    (hv : ∀ i, (∃ p, l1[i]? = some p) → ∃ (x1 : ByteArray) (xA : Option Addr) (xl xc : Nat), f1 i = [.string x1, .slice xA xl xc]) (hv2 : ∀ i, (∃ p, l2[i]? = some p) → ∃ (x1 : ByteArray) (xA : Option Addr) (xl xc : Nat), f2 i = [.string x1, .slice xA xl xc])
    (H : ∀ i p1 p2, l1[i]? = some p1 → l2[i]? = some p2 → ∀ W, Below w.heap.size w W → Calls Try.prog 42 #[.agg (f1 i).toArray, .agg (f2 i).toArray] W fun e w' => e = .returned (.bool (eqv p1 p2)) ∧ Below W.heap.size W w') :
    Calls Try.prog 43 #[.slice A1 n1 c1, .slice A2 n2 c2, .func (.func 42) #[] #[]] w fun e w' => e = .returned (.bool (eqv l1 l2)) ∧ Below w.heap.size w w' := by
  unfold maxLen at hc1 hc2
  obtain ⟨bb, hbb⟩ : ∃ bb, eqv l1 l2 = bb := ⟨_, rfl⟩
  rw [hbb]
  by_cases hne : n1 = n2
  · subst hne
    have HN1 := Lib.hid hn1
    have HN2 := Lib.hid hn2
    have HR1 := Lib.hid h1
    have HR2 := Lib.hid h2
    have HV1 := Lib.hid hv
    have HV2 := Lib.hid hv2
    have HH := Lib.hid H
    have HBB := Lib.hid hbb
    clear hn1 hn2 h1 h2 hv hv2 H hbb
    go_enter Try.func43, Try.ntmps43
    go_wp2
    go_loopw [17] (fun i wr => ∃ k : Nat, k ≤ n1 ∧ i = .int .i64 k ∧ Hid (∀ j, j < k → l1[j]? = l2[j]?) ∧ Below w.heap.size w wr) (fun i _ => n1 - (intOf i).toNat)
    case atStart => exact ⟨0, by omega, rfl, fun j hj => absurd hj (by omega), Below.refl _ _⟩
    case round =>
      obtain ⟨k, hk, rfl, hq, hbr⟩ := hrel
      by_cases hlt : k < n1
      · obtain ⟨p1, hp1⟩ : ∃ p, l1[k]? = some p := ⟨_, List.getElem?_eq_getElem (by rw [HN1.out]; exact hlt)⟩
        obtain ⟨p2, hp2⟩ : ∃ p, l2[k]? = some p := ⟨_, List.getElem?_eq_getElem (by rw [HN2.out]; exact hlt)⟩
        obtain ⟨x1, xA, xl, xc, hx⟩ := HV1.out k ⟨p1, hp1⟩
        obtain ⟨y1, yA, yl, yc, hy⟩ := HV2.out k ⟨p2, hp2⟩
        obtain ⟨b1, o1, rfl, hb1, hd1⟩ := HR1.out (by omega)
        obtain ⟨b2, o2, rfl, hb2, hd2⟩ := HR2.out (by omega)
        have HC := Lib.hid (HH.out k p1 p2 hp1 hp2)
        have HP1 := Lib.hid hp1
        have HP2 := Lib.hid hp2
        rw [hx, hy] at HC
        have d0 := (hbr.cell (p := ⟨b1, o1 + (k * 2 + 0), none⟩) hb1).trans (hd1 k hlt 0 (by omega))
        have d1 := (hbr.cell (p := ⟨b1, o1 + (k * 2 + 1), none⟩) hb1).trans (hd1 k hlt 1 (by omega))
        skip
        have e0 := (hbr.cell (p := ⟨b2, o2 + (k * 2 + 0), none⟩) hb2).trans (hd2 k hlt 0 (by omega))
        have e1 := (hbr.cell (p := ⟨b2, o2 + (k * 2 + 1), none⟩) hb2).trans (hd2 k hlt 1 (by omega))
        skip
        rw [hx] at d0 d1
        rw [hy] at e0 e1
        simp only [Nat.add_zero, ← Nat.add_assoc, List.getElem?_cons_zero, List.getElem?_cons_succ] at d0 d1 e0 e1
        have HX := Lib.hid (bal (bal (Below.refl wr.heap.size wr) (.cells #[.string x1, .slice xA xl xc] 88)) (.cells #[.string y1, .slice yA yl yc] 88))
        have hz2 : b2 < wr.heap.size := by have := hbr.size; omega
        clear hd1 hd2 hp1 hp2 hx hy
        by_cases hp : p1 = p2
        · rw [eqv_t hp] at HC
          go_wp2_with (go_at_call 42; refine (HC.out _ (hbr.trans (HX.out.mono hbr.size))).mono ?_; rintro e w5 ⟨rfl, hb5⟩)
          have hb6 := (hbr.trans (HX.out.mono hbr.size)).trans (hb5.mono (Nat.le_trans hbr.size HX.out.size))
          go_roundw
          case rel => exact ⟨k + 1, by omega, by go_num, (fun j hj => by
            rcases Nat.lt_or_ge j k with h1 | h1
            · exact hq.out j h1
            · obtain rfl : j = k := by omega
              rw [HP1.out, HP2.out, hp]), hb6⟩
          case measure => simp [intOf]; omega
        · rw [eqv_f hp] at HC
          have hf : bb = false := by
            rw [← HBB.out]
            apply eqv_f
            intro h
            apply hp
            have := HP1.out
            rw [h, HP2.out] at this
            exact (Option.some.inj this).symm
          subst hf
          clear hp
          go_wp2_with (go_at_call 42; refine (HC.out _ (hbr.trans (HX.out.mono hbr.size))).mono ?_; rintro e w5 ⟨rfl, hb5⟩)
          have hb6 := (hbr.trans (HX.out.mono hbr.size)).trans (hb5.mono (Nat.le_trans hbr.size HX.out.size))
          go_ret
          exact ⟨rfl, hb6⟩
      · obtain rfl : k = n1 := by omega
        have hf : bb = true := by rw [← HBB.out]; exact eqv_t (take_all HN1.out HN2.out rfl hq.out)
        subst hf
        go_wp2
        go_ret
        exact ⟨rfl, hbr⟩
  · have hf : bb = false := by rw [← hbb]; apply eqv_f; intro h; apply hne; rw [← hn1, ← hn2, h]
    subst hf
    have e1 : ((n1 : Int) != (n2 : Int)) = true := by rw [bne_iff_ne]; omega
    clear hbb hn1 hn2 h1 h2 hv hv2 H hne
    go_enter Try.func43, Try.ntmps43
    go_wp2
    go_ret
    exact ⟨rfl, Below.refl _ _⟩
set_option maxRecDepth 100000 in
set_option maxHeartbeats 2000000 in
theorem eqTrees_any (l1 l2 : List Tr) (A1 A2 : Option Addr) (c1 c2 n1 n2 : Nat) (f1 f2 : Nat → List Value) (F : Nat) (w : World) (hn1 : l1.length = n1) (hn2 : l2.length = n2) (hc1 : n1 ≤ maxLen) (hc2 : n2 ≤ maxLen) (h1 : RowsAt w w.heap.size 3 A1 n1 f1) (h2 : RowsAt w w.heap.size 3 A2 n2 f2)
    (hv : ∀ i, (∃ p, l1[i]? = some p) → ∃ (x1 : ByteArray) (xA : Option Addr) (xl xc : Nat) (xB : Option Addr) (xm xd : Nat), f1 i = [.string x1, .slice xA xl xc, .slice xB xm xd]) (hv2 : ∀ i, (∃ p, l2[i]? = some p) → ∃ (x1 : ByteArray) (xA : Option Addr) (xl xc : Nat) (xB : Option Addr) (xm xd : Nat), f2 i = [.string x1, .slice xA xl xc, .slice xB xm xd])
    (H : ∀ i p1 p2, l1[i]? = some p1 → l2[i]? = some p2 → ∀ W, Below w.heap.size w W → Calls Try.prog 19 #[.agg (f1 i).toArray, .agg (f2 i).toArray] W fun e w' => e = .returned (.bool (eqv p1 p2)) ∧ Below W.heap.size W w') :
    Calls Try.prog 44 #[.slice A1 n1 c1, .slice A2 n2 c2, .func (.func 19) #[] #[]] w fun e w' => e = .returned (.bool (eqv l1 l2)) ∧ Below w.heap.size w w' := by
  unfold maxLen at hc1 hc2
  obtain ⟨bb, hbb⟩ : ∃ bb, eqv l1 l2 = bb := ⟨_, rfl⟩
  rw [hbb]
  by_cases hne : n1 = n2
  · subst hne
    have HN1 := Lib.hid hn1
    have HN2 := Lib.hid hn2
    have HR1 := Lib.hid h1
    have HR2 := Lib.hid h2
    have HV1 := Lib.hid hv
    have HV2 := Lib.hid hv2
    have HH := Lib.hid H
    have HBB := Lib.hid hbb
    clear hn1 hn2 h1 h2 hv hv2 H hbb
    go_enter Try.func44, Try.ntmps44
    go_wp2
    go_loopw [17] (fun i wr => ∃ k : Nat, k ≤ n1 ∧ i = .int .i64 k ∧ Hid (∀ j, j < k → l1[j]? = l2[j]?) ∧ Below w.heap.size w wr) (fun i _ => n1 - (intOf i).toNat)
    case atStart => exact ⟨0, by omega, rfl, fun j hj => absurd hj (by omega), Below.refl _ _⟩
    case round =>
      obtain ⟨k, hk, rfl, hq, hbr⟩ := hrel
      by_cases hlt : k < n1
      · obtain ⟨p1, hp1⟩ : ∃ p, l1[k]? = some p := ⟨_, List.getElem?_eq_getElem (by rw [HN1.out]; exact hlt)⟩
        obtain ⟨p2, hp2⟩ : ∃ p, l2[k]? = some p := ⟨_, List.getElem?_eq_getElem (by rw [HN2.out]; exact hlt)⟩
        obtain ⟨x1, xA, xl, xc, xB, xm, xd, hx⟩ := HV1.out k ⟨p1, hp1⟩
        obtain ⟨y1, yA, yl, yc, yB, ym, yd, hy⟩ := HV2.out k ⟨p2, hp2⟩
        obtain ⟨b1, o1, rfl, hb1, hd1⟩ := HR1.out (by omega)
        obtain ⟨b2, o2, rfl, hb2, hd2⟩ := HR2.out (by omega)
        have HC := Lib.hid (HH.out k p1 p2 hp1 hp2)
        have HP1 := Lib.hid hp1
        have HP2 := Lib.hid hp2
        rw [hx, hy] at HC
        have d0 := (hbr.cell (p := ⟨b1, o1 + (k * 3 + 0), none⟩) hb1).trans (hd1 k hlt 0 (by omega))
        have d1 := (hbr.cell (p := ⟨b1, o1 + (k * 3 + 1), none⟩) hb1).trans (hd1 k hlt 1 (by omega))
        have d2 := (hbr.cell (p := ⟨b1, o1 + (k * 3 + 2), none⟩) hb1).trans (hd1 k hlt 2 (by omega))
        have e0 := (hbr.cell (p := ⟨b2, o2 + (k * 3 + 0), none⟩) hb2).trans (hd2 k hlt 0 (by omega))
        have e1 := (hbr.cell (p := ⟨b2, o2 + (k * 3 + 1), none⟩) hb2).trans (hd2 k hlt 1 (by omega))
        have e2 := (hbr.cell (p := ⟨b2, o2 + (k * 3 + 2), none⟩) hb2).trans (hd2 k hlt 2 (by omega))
        rw [hx] at d0 d1 d2
        rw [hy] at e0 e1 e2
        simp only [Nat.add_zero, ← Nat.add_assoc, List.getElem?_cons_zero, List.getElem?_cons_succ] at d0 d1 d2 e0 e1 e2
        have HX := Lib.hid (bal (bal (Below.refl wr.heap.size wr) (.cells #[.string x1, .slice xA xl xc, .slice xB xm xd] 25)) (.cells #[.string y1, .slice yA yl yc, .slice yB ym yd] 25))
        have hz2 : b2 < wr.heap.size := by have := hbr.size; omega
        clear hd1 hd2 hp1 hp2 hx hy
        by_cases hp : p1 = p2
        · rw [eqv_t hp] at HC
          go_wp2_with (go_at_call 19; refine (HC.out _ (hbr.trans (HX.out.mono hbr.size))).mono ?_; rintro e w5 ⟨rfl, hb5⟩)
          have hb6 := (hbr.trans (HX.out.mono hbr.size)).trans (hb5.mono (Nat.le_trans hbr.size HX.out.size))
          go_roundw
          case rel => exact ⟨k + 1, by omega, by go_num, (fun j hj => by
            rcases Nat.lt_or_ge j k with h1 | h1
            · exact hq.out j h1
            · obtain rfl : j = k := by omega
              rw [HP1.out, HP2.out, hp]), hb6⟩
          case measure => simp [intOf]; omega
        · rw [eqv_f hp] at HC
          have hf : bb = false := by
            rw [← HBB.out]
            apply eqv_f
            intro h
            apply hp
            have := HP1.out
            rw [h, HP2.out] at this
            exact (Option.some.inj this).symm
          subst hf
          clear hp
          go_wp2_with (go_at_call 19; refine (HC.out _ (hbr.trans (HX.out.mono hbr.size))).mono ?_; rintro e w5 ⟨rfl, hb5⟩)
          have hb6 := (hbr.trans (HX.out.mono hbr.size)).trans (hb5.mono (Nat.le_trans hbr.size HX.out.size))
          go_ret
          exact ⟨rfl, hb6⟩
      · obtain rfl : k = n1 := by omega
        have hf : bb = true := by rw [← HBB.out]; exact eqv_t (take_all HN1.out HN2.out rfl hq.out)
        subst hf
        go_wp2
        go_ret
        exact ⟨rfl, hbr⟩
  · have hf : bb = false := by rw [← hbb]; apply eqv_f; intro h; apply hne; rw [← hn1, ← hn2, h]
    subst hf
    have e1 : ((n1 : Int) != (n2 : Int)) = true := by rw [bne_iff_ne]; omega
    clear hbb hn1 hn2 h1 h2 hv hv2 H hne
    go_enter Try.func44, Try.ntmps44
    go_wp2
    go_ret
    exact ⟨rfl, Below.refl _ _⟩
end Go.Proofs.Ytnkpaockginooaa
namespace Go.Proofs.Ytnkpaockginooaa
set_option linter.unusedVariables false
set_option linter.unusedSimpArgs false
open Go.RowKit Go.Sort

theorem tr_eq {a b : Tr} (h1 : a.nm = b.nm) (h2 : a.ps = b.ps) (h3 : a.ks = b.ks) : a = b := by rw [a.eta, b.eta, h1, h2, h3]
theorem pr_form {w : World} {B : Nat} {p : Pr} {cs : List Value} (h : PrOk w B p cs) : ∃ (x1 : ByteArray) (xA : Option Addr) (xl xc : Nat), cs = [.string x1, .slice xA xl xc] := by
  obtain ⟨_, _, A, c, e, _⟩ := h
  exact ⟨_, _, _, _, e⟩
theorem tr_form {w : World} {B k : Nat} {t : Tr} {cs : List Value} (h : TrOk w B k t cs) : ∃ (x1 : ByteArray) (xA : Option Addr) (xl xc : Nat) (xB : Option Addr) (xm xd : Nat), cs = [.string x1, .slice xA xl xc, .slice xB xm xd] := by
  cases k with
  | zero => exact h.elim
  | succ k =>
    obtain ⟨_, _, _, _, _, _, _, e, _⟩ := h
    exact ⟨_, _, _, _, _, _, _, e⟩
set_option maxRecDepth 100000 in
set_option maxHeartbeats 2000000 in
theorem same_any : ∀ (k k2 : Nat) (t1 t2 : Tr) (cs1 cs2 : List Value) (w : World), TrOk w w.heap.size k t1 cs1 → TrOk w w.heap.size k2 t2 cs2 →
    Calls Try.prog 19 #[.agg cs1.toArray, .agg cs2.toArray] w fun e w' => e = .returned (.bool (eqv t1 t2)) ∧ Below w.heap.size w w'
  | 0, _, _, _, _, _, _, h, _ => h.elim
  | k + 1, 0, _, _, _, _, _, _, h => h.elim
  | k + 1, k2 + 1, t1, t2, cs1, cs2, w, h, h' => by
    have ih := same_any k k2
    obtain ⟨_, A1, c1, A2, c2, f, g, rfl, _, h3, _, h5, h6, h7, h8, h9⟩ := h
    obtain ⟨_, A1', c1', A2', c2', f', g', rfl, _, h3', _, h5', h6', h7', h8', h9'⟩ := h'
    have HPs := Lib.hid (fun W (hW : Below w.heap.size w W) => eqProps_any t1.ps t2.ps A1 A1' c1 c1' t1.ps.length t2.ps.length f f' 0 W rfl rfl (by omega) (by omega) ((h6.below hW).more hW.size) ((h6'.below hW).more hW.size)
      (fun i ⟨p, hp⟩ => pr_form (h8 i p hp)) (fun i ⟨p, hp⟩ => pr_form (h8' i p hp))
      (fun i p1 p2 hp1 hp2 W' hW' => by
        have hx := hW.trans (hW'.mono hW.size)
        have := sameProp_any p1 p2 (f i) (f' i) W' (((h8 i p1 hp1).below hx).more hx.size) (((h8' i p2 hp2).below hx).more hx.size)
        rw [eqv_decide] at this
        exact this))
    have HKs := Lib.hid (fun W (hW : Below w.heap.size w W) => eqTrees_any t1.ks t2.ks A2 A2' c2 c2' t1.ks.length t2.ks.length g g' 0 W rfl rfl (by omega) (by omega) ((h7.below hW).more hW.size) ((h7'.below hW).more hW.size)
      (fun i ⟨p, hp⟩ => tr_form (h9 i p hp)) (fun i ⟨p, hp⟩ => tr_form (h9' i p hp))
      (fun i p1 p2 hp1 hp2 W' hW' => by
        have hx := hW.trans (hW'.mono hW.size)
        exact ih p1 p2 (g i) (g' i) W' (((h9 i p1 hp1).below hx).more hx.size) (((h9' i p2 hp2).below hx).more hx.size)))
    obtain ⟨bb, hbb⟩ : ∃ bb, eqv t1 t2 = bb := ⟨_, rfl⟩
    rw [hbb]
    have HBB := Lib.hid hbb
    have HB := Lib.hid (bal (bal (Below.refl w.heap.size w) (.cells #[.string t1.nm, .slice A1 t1.ps.length c1, .slice A2 t1.ks.length c2] 25)) (.cells #[.string t2.nm, .slice A1' t2.ps.length c1', .slice A2' t2.ks.length c2'] 25))
    clear ih h3 h5 h6 h7 h8 h9 h3' h5' h6' h7' h8' h9' hbb
    generalize t1.ps.length = n1 at *
    generalize t1.ks.length = m1 at *
    generalize t2.ps.length = n2 at *
    generalize t2.ks.length = m2 at *
    obtain ⟨s1, hs1⟩ : ∃ s, t1.nm = s := ⟨_, rfl⟩
    obtain ⟨s2, hs2⟩ : ∃ s, t2.nm = s := ⟨_, rfl⟩
    rw [hs1, hs2] at HB ⊢
    by_cases hn : s1 = s2
    · by_cases hp : t1.ps = t2.ps
      · rw [eqv_t hp] at HPs
        by_cases hk : t1.ks = t2.ks
        · rw [eqv_t hk] at HKs
          have hf : bb = true := by rw [← HBB.out]; exact eqv_t (tr_eq (by rw [hs1, hs2, hn]) hp hk)
          subst hf
          clear hs1 hs2 hp hk
          subst hn
          go_enter Try.func19, Try.ntmps19
          go_wp2_with (first
            | (go_at_call 43; refine (HPs.out _ HB.out).mono ?_; rintro e w5 ⟨rfl, hb5⟩; have hb6 := HB.out.trans (hb5.mono HB.out.size); have hT1 := ((Blk.new w 25 #[.string s1, .slice A1 n1 c1, .slice A2 m1 c2]).alloc (.cells #[.string s1, .slice A1' n2 c1', .slice A2' m2 c2'] 25)).kept hb5; have hT2 : Blk w5 (w.heap.size + 1) 25 #[.string s1, .slice A1' n2 c1', .slice A2' m2 c2'] := Blk.kept (Blk.fresh (w.alloc (.cells #[.string s1, .slice A1 n1 c1, .slice A2 m1 c2] 25)) 25 #[.string s1, .slice A1' n2 c1', .slice A2' m2 c2']) hb5; have cT1 := hT1.cell; have cT2 := hT2.cell)
            | (go_at_call 44; refine (HKs.out _ hb6).mono ?_; rintro e w7 ⟨rfl, hb7⟩; have hb8 := hb6.trans (hb7.mono hb6.size)))
          go_ret
          exact ⟨rfl, hb8⟩
        · rw [eqv_f hk] at HKs
          have hf : bb = false := by rw [← HBB.out]; exact eqv_f (fun h => hk (by rw [h]))
          subst hf
          clear hs1 hs2 hp hk
          subst hn
          go_enter Try.func19, Try.ntmps19
          go_wp2_with (first
            | (go_at_call 43; refine (HPs.out _ HB.out).mono ?_; rintro e w5 ⟨rfl, hb5⟩; have hb6 := HB.out.trans (hb5.mono HB.out.size); have hT1 := ((Blk.new w 25 #[.string s1, .slice A1 n1 c1, .slice A2 m1 c2]).alloc (.cells #[.string s1, .slice A1' n2 c1', .slice A2' m2 c2'] 25)).kept hb5; have hT2 : Blk w5 (w.heap.size + 1) 25 #[.string s1, .slice A1' n2 c1', .slice A2' m2 c2'] := Blk.kept (Blk.fresh (w.alloc (.cells #[.string s1, .slice A1 n1 c1, .slice A2 m1 c2] 25)) 25 #[.string s1, .slice A1' n2 c1', .slice A2' m2 c2']) hb5; have cT1 := hT1.cell; have cT2 := hT2.cell)
            | (go_at_call 44; refine (HKs.out _ hb6).mono ?_; rintro e w7 ⟨rfl, hb7⟩; have hb8 := hb6.trans (hb7.mono hb6.size)))
          go_ret
          exact ⟨rfl, hb8⟩
      · rw [eqv_f hp] at HPs
        have hf : bb = false := by rw [← HBB.out]; exact eqv_f (fun h => hp (by rw [h]))
        subst hf
        clear hs1 hs2 hp HKs
        subst hn
        go_enter Try.func19, Try.ntmps19
        go_wp2_with (go_at_call 43; refine (HPs.out _ HB.out).mono ?_; rintro e w5 ⟨rfl, hb5⟩; have hb6 := HB.out.trans (hb5.mono HB.out.size))
        go_ret
        exact ⟨rfl, hb6⟩
    · have hf : bb = false := by rw [← HBB.out]; exact eqv_f (fun h => hn (by rw [← hs1, ← hs2, h]))
      subst hf
      have hq := baL hn
      clear hs1 hs2 hn HPs HKs
      go_enter Try.func19, Try.ntmps19
      go_wp2_with fail
      go_ret
      exact ⟨rfl, HB.out⟩
end Go.Proofs.Ytnkpaockginooaa
