/- Chapter 13: fresh counters have their values: the law CtrFormats. -/
import Derived.Test.YtpenjfkdinmgmaaCtrS
namespace Go.Proofs.Ytpenjfkdinmgmaa
set_option linter.unusedVariables false
set_option linter.unusedSimpArgs false
open Go.RowKit Go.Sort Go.ChangeShapes Go.WideShapes

theorem fmtN_at : ∀ (l : List Int) (i k : Nat) (v : Int) (j : Nat), l[k]? = some v → j < 8 → (fmtN i l).getD (8 * k + j) 0 = (fmt1 (i + k : Nat) v).getD j 0
  | [], _, k, _, _, h, _ => by simp at h
  | x :: l, i, 0, v, j, h, hj => by
    have hx : x = v := by simpa using h
    subst hx
    rw [fmtN, List.getD_eq_getElem?_getD, List.getElem?_append_left (by simp [fmt1]; omega), ← List.getD_eq_getElem?_getD]
    simp
  | x :: l, i, k + 1, v, j, h, hj => by
    have ih := fmtN_at l (i + 1) k v j (by simpa using h) hj
    rw [fmtN, List.getD_eq_getElem?_getD, List.getElem?_append_right (by simp [fmt1]; omega), ← List.getD_eq_getElem?_getD]
    rw [show 8 * (k + 1) + j - (fmt1 i x).length = 8 * k + j by simp [fmt1]; omega, ih]
    rw [show i + 1 + k = i + (k + 1) by omega]
theorem fmt_u32 {l : List Int} (hu : U32s l) : ∀ i, U32s (fmtN i l) := by
  induction l with
  | nil => intro i; intro x hx; cases hx
  | cons v l ih =>
    intro i x hx
    rw [fmtN, List.mem_append] at hx
    rcases hx with hx | hx
    · have hv := hu v (List.mem_cons_self ..)
      have hc := checkN_bd i 1 v
      simp only [fmt1, List.mem_cons, List.not_mem_nil, or_false] at hx
      rcases hx with rfl | rfl | rfl | rfl | rfl | rfl | rfl | rfl <;> omega
    · exact ih (fun y hy => hu y (List.mem_cons_of_mem _ hy)) _ x hx
theorem fmt_rec {l : List Int} {k : Nat} {v : Int} (h : l[k]? = some v) : recN (fmtN 0 l) k = finR 0 1 v := by
  have hk := (List.getElem?_eq_some_iff.1 h).1
  unfold recN
  rw [fmtN_len, if_neg (by omega)]
  have e1 : slW (fmtN 0 l) (8 * (k : Int).toNat) = ⟨3282393660, 1, v, checkN k 1 v⟩ := by
    rw [Int.toNat_natCast]
    have f0 := fmtN_at l 0 k v 0 h (by omega)
    have f1 := fmtN_at l 0 k v 1 h (by omega)
    have f2 := fmtN_at l 0 k v 2 h (by omega)
    have f3 := fmtN_at l 0 k v 3 h (by omega)
    rw [Nat.add_zero] at f0
    unfold slW
    rw [f0, f1, f2, f3]
    simp [fmt1]
  have e2 : slW (fmtN 0 l) (8 * (k : Int).toNat + 4) = ⟨0, 0, 0, 0⟩ := by
    rw [Int.toNat_natCast]
    have f0 := fmtN_at l 0 k v 4 h (by omega)
    have f1 := fmtN_at l 0 k v 5 h (by omega)
    have f2 := fmtN_at l 0 k v 6 h (by omega)
    have f3 := fmtN_at l 0 k v 7 h (by omega)
    unfold slW
    rw [f0, show 8 * k + 4 + 1 = 8 * k + 5 by omega, f1, show 8 * k + 4 + 2 = 8 * k + 6 by omega, f2, show 8 * k + 4 + 3 = 8 * k + 7 by omega, f3]
    simp [fmt1]
  rw [e1, e2]
  have h1 : ofW k ⟨3282393660, 1, v, checkN k 1 v⟩ = (1, v, true) := if_pos ⟨rfl, rfl⟩
  have h2 : ofW k ⟨0, 0, 0, 0⟩ = (0, 0, false) := by
    have hn : ¬ isRec (k : Int) 0 0 0 0 := fun h => absurd h.1 (by decide)
    unfold ofW ofN
    exact if_neg hn
  rw [h1, h2, pick_tf]
set_option maxRecDepth 100000 in
set_option maxHeartbeats 4000000 in
theorem formats_any (A : Option Addr) (n c : Nat) (l : List Int) (hl : l.length = n) (hu : U32s l) (w : World) (hr : Rd w w.heap.size 1 A n (l.flatMap encU)) :
    Calls Try.prog 4 #[.slice A n c] w fun e w' => e = .returned (.bool true) ∧ Below w.heap.size w w' := by
  by_cases hn : n ≤ 50
  · have HR := Lib.hid hr
    have HL := Lib.hid hl
    have HU := Lib.hid hu
    have HRec := Lib.hid (fun (k : Nat) (v : Int) (hk : l[k]? = some v) (g : Nat) (base : Nat → Prop) (W : World) (h : Sto W base g ⟨true, 0, [], fmtN 0 l⟩) => by
      have := rec_any g base ⟨true, 0, [], fmtN 0 l⟩ k W h (fmt_u32 hu 0) (by simp only [fmtN_len]; omega)
      simp only [fmt_rec hk] at this
      exact this)
    have HCt := Lib.hid (fun (g : Nat) (base : Nat → Prop) (W : World) (h : Sto W base g ⟨true, 0, [], fmtN 0 l⟩) => by
      have := count_any g base ⟨true, 0, [], fmtN 0 l⟩ W h (by simp only [fmtN_len]; omega)
      simp only [fmtN_len, hl, Nat.mul_div_cancel_left n (show 0 < 8 by decide)] at this
      exact this)
    have HFl := Lib.hid (show (fmtN 0 l).length = 8 * n by rw [fmtN_len, hl])
    clear hr hl hu
    go_enter Try.func4, Try.ntmps4
    go_wp2_with (first
      | (go_at_call 8; refine (awake13_any _).mono ?_; rintro e' w0 ⟨rfl, hb0⟩; have hr0 := HR.out.below hb0; have hz0 := hb0.size)
      | (go_at_call 13; refine (format_any A n _ l _ HL.out (by omega) HU.out (hr0.more hz0)).mono ?_; rintro e' w1 ⟨v1, rfl, hown1, hb1⟩; obtain ⟨A1, c1, rfl, _, hr1⟩ := own_slice hown1; have hb2 := hb0.trans (hb1.mono hz0); have hz2 := hb2.size)
      | (go_at_call 9; refine (new_any A1 _ (8 * n) c1 0 _ (fmtN 0 l) [] _ HFl.out rfl (by omega) (by decide) hr1 Rd.nil).mono ?_; rintro e' w2 ⟨g, rfl, hs2, hb3⟩; have hb4 := hb2.trans (hb3.mono hz2); have hr2 := (hr1.below hb3).more hb3.size))
    have HR2 := Lib.hid hr2
    clear hown1 hb1 hb2 hb3 hr1 hr2 hr0 hb0
    go_loopw [20] (fun i wr => ∃ k : Nat, k ≤ n ∧ i = .int .i64 k ∧ Below w2.heap.size w2 wr) (fun i _ => n - (intOf i).toNat)
    case atStart => exact ⟨0, by omega, rfl, Below.refl _ _⟩
    case round =>
      obtain ⟨k, hk, rfl, hbr⟩ := hrel
      have hbw := hb4.trans (hbr.mono hb4.size)
      have hsr := hs2.kept hbr
      by_cases hlt : k < n
      · obtain ⟨b1, o1, rfl, hbk, hc1⟩ := (HR.out.below hbw).row (fun _ => rfl) (k := k) (by rw [HL.out]; exact hlt) HL.out
        have d0 := hc1 0 (by omega)
        simp only [encU, Nat.add_zero, Nat.mul_one, List.getElem?_cons_zero] at d0
        have hg : l[k]? = some (l[k]'(by rw [HL.out]; exact hlt)) := List.getElem?_eq_getElem _
        have HK := Lib.hid (HRec.out k _ hg g _ wr hsr)
        clear hc1 hg
        generalize l[k]'(by rw [HL.out]; exact hlt) = v at *
        by_cases hv : v = 4294967295
        · subst hv
          rw [show finR 0 1 4294967295 = ⟨131, 0, 0, 0⟩ from fin_y _ rfl] at HK
          simp only at HK
          go_wp2_with (go_at_call 10; refine HK.out.mono ?_; rintro e' w4 ⟨rfl, hb5⟩)
          go_roundw
          case rel => exact ⟨k + 1, by omega, by go_num, hbr.trans (hb5.mono hbr.size)⟩
          case measure => simp [intOf]; omega
        · rw [fin_n _ (by decide) hv] at HK
          simp only at HK
          have hv1 : (v == 4294967295) = false := by simpa using hv
          have hv2 : (v != 4294967295) = true := by simpa using hv
          clear hv
          go_wp2_with (go_at_call 10; refine HK.out.mono ?_; rintro e' w4 ⟨rfl, hb5⟩)
          go_roundw
          case rel => exact ⟨k + 1, by omega, by go_num, hbr.trans (hb5.mono hbr.size)⟩
          case measure => simp [intOf]; omega
      · obtain rfl : k = n := by omega
        have hr3 := (HR2.out.below hbr).more hbr.size
        have hrA := (HR.out.below hbw).more hbw.size
        go_wp2_with (first
          | (go_at_call 15; refine (rformat_any A k _ l _ HL.out (by omega) HU.out hrA).mono ?_; rintro e' w4 ⟨v4, rfl, hown4, hb5⟩; obtain ⟨A4, c4, rfl, _, hr4⟩ := own_slice hown4; have hr5 := (hr3.below hb5).more hb5.size; have hs4 := hsr.kept hb5; have hb6 := hbw.trans (hb5.mono hbw.size))
          | (go_at_call 14; refine (sameWords_any A1 A4 (8 * k) (8 * k) c1 c4 (fmtN 0 l) (fmtN 0 l) _ HFl.out HFl.out (by omega) (by omega) hr5 hr4).mono ?_; rintro e' w5 ⟨rfl, hb7⟩; have hs5 := hs4.kept hb7; have hb8 := hb6.trans (hb7.mono hb6.size))
          | (go_at_call 16; refine (HCt.out g _ _ hs5).mono ?_; rintro e' w6 ⟨rfl, rfl⟩))
        go_ret
        exact ⟨rfl, hb8⟩
  · go_enter Try.func4, Try.ntmps4
    go_wp2_with (go_at_call 8; refine (awake13_any _).mono ?_; rintro e w0 ⟨rfl, hb0⟩)
    go_ret
    exact ⟨rfl, hb0⟩
set_option maxRecDepth 100000 in
theorem ctrFormats_law : LawWalk Try.prog 4 Try.f4 := by
  intro H enc W base args ds p hval hA hlt hfz hsz
  rw [Try.params4] at hA hval
  obtain ⟨v0, d0, rfl, rfl, h0⟩ := trodAll_one hA
  obtain ⟨A, n, c, l, rfl, hnc, hm, hl, hu, hr⟩ := open_u32s (hval 0 22 v0 rfl rfl) h0 hlt
  exact formats_any A n c l hl hu W hr
theorem ctrFormats_proved : Rows.CtrFormatsSaid :=
  OpenClaim.holds_of_wide 4 Try.f4 rfl rfl rfl rfl rfl rfl rfl ⟨rfl, rfl, rfl, rfl, rfl⟩ rfl rfl rfl rfl rfl (by kernel_rfl) Try.func4 (by kernel_rfl)
    (of_decide_eq_true (by kernel_rfl)) (by unfold Func.isWrapper; rw [if_neg (of_decide_eq_false (by kernel_rfl))]; exact ⟨rfl, rfl⟩)
    (fun os started H enc _ => law_lifted (C := Try.checked) (s := Rows.ctrFormatsSpec) started own laidOut (by kernel_rfl) Try.func4 rfl (n := 1) (by kernel_rfl) (fun ds h => by match ds, h with | [_], _ => rfl) (tb := 4) (by kernel_rfl) Try.underlying4 (by kernel_rfl)
      (ChangeSpec.witness6 (enc := enc) (C := Try.checked) false ⟨#[], #[.slice none 0 0], []⟩ 8 (by kernel_rfl) (by kernel_rfl) (by kernel_rfl) (by kernel_rfl)) ctrFormats_law)
end Go.Proofs.Ytpenjfkdinmgmaa
