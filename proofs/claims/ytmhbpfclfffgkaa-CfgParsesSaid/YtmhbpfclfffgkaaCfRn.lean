/- Chapter 14: the document's reader: a text; walked. -/
import Derived.Test.YtmhbpfclfffgkaaCfRb
import Derived.Test.YtmhbpfclfffgkaaCfV
namespace Go.Proofs.Ytmhbpfclfffgkaa
set_option linter.unusedVariables false
set_option linter.unusedSimpArgs false
open Go.RowKit Go.Sort

theorem cell_eq {w w' : World} {b : Nat} (h : w'.heap[b]? = w.heap[b]?) (o : Nat) : w'.cell? ⟨b, o, none⟩ = w.cell? ⟨b, o, none⟩ := by
  unfold World.cell?
  simp only [h]
theorem failS_two (s : RS) (x : Nat × Int) : failS (failS s x) x = failS s x := by cases s <;> rfl
/-- What is left of a state by tests. -/
def keepS (is : Bool) (s : RS) (x : Nat × Int) : RS := if is then s else failS s x
theorem keepS_and (a b : Bool) (s : RS) (x : Nat × Int) : keepS b (keepS a s x) x = keepS (a && b) s x := by
  unfold keepS
  cases a <;> cases b <;> simp [failS_two]
theorem cutN_yes {a : Int} {l : List Int} (h : a ≠ 0) : cutN (a :: l) = a :: cutN l := by simp [cutN, List.takeWhile_cons, h]
theorem cutN_no {l : List Int} : cutN (0 :: l) = [] := by simp [cutN]
theorem cut_lt : ∀ {l : List Int} {k : Nat}, k < (cutN l).length → l.getD k 0 ≠ 0
  | [], k, h => by simp [cutN] at h
  | a :: l, k, h => by
    by_cases ha : a = 0
    · subst ha
      rw [cutN_no] at h
      simp at h
    · rw [cutN_yes ha] at h
      cases k with
      | zero => simpa using ha
      | succ k =>
        have := cut_lt (l := l) (k := k) (by simpa using h)
        simpa using this
theorem cut_at : ∀ {l : List Int}, (cutN l).length < l.length → l.getD (cutN l).length 0 = 0
  | [], h => by simp at h
  | a :: l, h => by
    by_cases ha : a = 0
    · subst ha
      rw [cutN_no]
      rfl
    · rw [cutN_yes ha] at h ⊢
      have := cut_at (l := l) (by simpa using h)
      simpa using this
set_option maxRecDepth 100000 in
set_option maxHeartbeats 2000000 in
theorem rnameP_any : RCall 70 (fun x => #[.pointer (some ⟨x.g, 0, none⟩)]) nameP (fun x y v w => v = .string (strOfNums y) ∧ y.length ≤ 16 ∧ BytesOk y) := by
  intro x s t w hx hD
  have HX := Lib.hid hx
  have cB := hD.box.cell
  have HT := Lib.hid (rtake_any 16 (by decide) (by decide) x s t w hx hD)
  have HF := Lib.hid (fun s t' W (h : RD x s t' W) => rfail_any x s t' W hx h 143 t (by decide))
  have HS := Lib.hid (Step.here (b := x.b) hD.at_)
  clear hx hD
  go_enter Try.func70, Try.ntmps70
  go_upto_region 3 with (go_at_call 69; refine HT.out.mono ?_; rintro e1 w1 ⟨hn1, l, v, s1, t1, rfl, ⟨b, o, c, rfl, hbg, hbl, hnc, hcm, hl, hok, hr⟩, hD1, hS1⟩)
  have hr1 := RPart.rd (x := x) hr hbl hl
  have hcell : ∀ j, j < 16 → w1.cell? ⟨b, o + j, none⟩ = some (.int .u8 (l.getD j 0)) := fun j hj => by
    have h2 := hr j (.int .u8 (l.getD j 0)) (by rw [flatB_map, List.getElem?_map, List.getD_eq_getElem?_getD, List.getElem?_eq_getElem (by omega)]; rfl)
    exact h2
  have hq := cutN_le l
  have htk := cutN_take l
  have hrt : Rd w1 w1.heap.size 1 (some ⟨b, o, none⟩) (cutN l).length ((cutN l).flatMap encB) := by
    have := Rd.sub hr1 hl (a := 0) (m := (cutN l).length) (by omega)
    simpa [htk] using this
  have hs1 := conv_str hrt rfl c
  have hokc : BytesOk (cutN l) := fun y hy => hok y (by rw [← htk] at hy; exact List.mem_of_mem_take hy)
  have hos : strB (strOfNums (cutN l)) = cutN l := strB_of hokc
  have HN := Lib.hid (rname_any (strOfNums (cutN l)) w1 (by
    have : (strB (strOfNums (cutN l))).length = (cutN l).length := by rw [hos]
    rw [strB_len] at this
    omega))
  rw [hos] at HN
  have HCut := Lib.hid (fun k (hk : k < (cutN l).length) => cut_lt hk)
  have HCa := Lib.hid (fun (hk : (cutN l).length < l.length) => cut_at hk)
  have HC := Lib.hid hcell
  have HD1 := Lib.hid hD1
  have HS1 := Lib.hid hS1
  have HN1 := Lib.hid hn1
  have HOC := Lib.hid hokc
  have HOk : Hid (nameOk l = (nameN (cutN l) && (l.drop (cutN l).length).all fun x => x == 0)) := Lib.hid rfl
  have HL := Lib.hid hl
  obtain ⟨q, hqq⟩ : ∃ q, (cutN l).length = q := ⟨_, rfl⟩
  rw [hqq] at hs1 HCut HCa hq HOk
  have hq16 : q ≤ 16 := by omega
  have HQ := Lib.hid hqq
  clear hcell hD1 hS1 hn1 hokc hr hr1 hrt hos htk hok hq hl hqq HT cB
  go_wp2_with fail
  go_loopw [5] (fun iv wr => ∃ k : Nat, k ≤ q ∧ iv = .int .i64 k ∧ w1 = wr) (fun iv _ => q - (intOf iv).toNat)
  case atStart => exact ⟨0, by omega, rfl, rfl⟩
  case round =>
    obtain ⟨k, hk, rfl, rfl⟩ := hrel
    by_cases hlt : k < q
    · have c0 := HC.out k (by omega)
      have hne : (l.getD k 0 != 0) = true := by simpa using HCut.out k hlt
      have hd : decide ((k : Int) < 16) = true := decide_eq_true (by omega)
      generalize l.getD k 0 = y at *
      go_wp2
      go_roundw
      case rel => exact ⟨k + 1, by omega, by go_num, trivial⟩
      case measure => simp [intOf]; omega
    · obtain rfl : k = q := by omega
      obtain ⟨nm, hnm⟩ : ∃ y, nameN (cutN l) = y := ⟨_, rfl⟩
      rw [hnm] at HN HOk
      clear hnm
      by_cases h16 : k < 16
      · have c0 : w1.cell? ⟨b, o + k, none⟩ = some (.int .u8 0) := by rw [HC.out k h16, HCa.out (by rw [HL.out]; exact h16)]
        have hd : decide ((k : Int) < 16) = true := decide_eq_true (by omega)
        have e2 : ¬ c = k := by omega
        have f1 : (0 : Int) ≤ (k : Int) := by omega
        have f2 : (k : Int) ≤ 16 := by omega
        have f3 : (k : Int) ≤ (c : Int) := by omega
        go_upto_region 7 with (fail)
        cases nm
        case true =>
          go_upto_region 9 with (first
            | (go_at_call 19; refine HN.out.mono ?_; rintro e1 w2 ⟨rfl, rfl⟩)
            | fail)
          obtain ⟨s2, hs2⟩ : ∃ y, keepS true s1 (t, 143) = y := ⟨_, rfl⟩
          have hD2 : RD x (keepS true s1 (t, 143)) t1 w1 := HD1.out
          obtain ⟨w4, hw4⟩ : ∃ y, w1 = y := ⟨_, rfl⟩
          have hn4 := Near.refl (fun i => i = x.g) w1
          rw [hs2] at hD2
          have HS2 := Lib.hid hs2
          have HD2 := Lib.hid hD2
          have HN2 := Lib.hid HN1.out
          have HN4 := Lib.hid hn4
          clear hD2 hs2 hn4 hw4 w4
          go_wp2_with fail
          go_loopw [8, 40] (fun _ iv wr => ∃ j : Nat, j ≤ 16 - k ∧ iv = .int .i64 j ∧ Hid (RD x (keepS (((l.drop k).take j).all fun x => x == 0) s2 (t, 143)) t1 wr ∧ Near (fun i => i = x.g) w1 wr ∧ Near (fun i => i = x.g) w wr)) (fun _ iv _ => 16 - k - (intOf iv).toNat)
          case atStart => exact ⟨0, by omega, rfl, Lib.hid ⟨by simpa [keepS] using HD2.out, HN4.out, HN2.out⟩⟩
          case round =>
            obtain ⟨j, hj, rfl, hh⟩ := hrel
            have hgl : b < w1.heap.size := hbl
            have hfar : wr.heap[b]? = w1.heap[b]? := hh.out.2.1.far hgl hbg
            by_cases hlj : j < 16 - k
            · have cj : wr.cell? ⟨b, o + k + j, none⟩ = some (.int .u8 (l.getD (k + j) 0)) := (cell_eq hfar (o + k + j)).trans ((congrArg (fun i => w1.cell? ⟨b, i, none⟩) (Nat.add_assoc o k j)).trans (HC.out (k + j) (by omega)))
              have hdj : decide (j < 16 - k) = true := decide_eq_true hlj
              have hdj2 : decide ((j : Int) < ((16 - k : Nat) : Int)) = true := decide_eq_true (by omega)
              have HT1 := Lib.hid (show ((l.drop k).take (j + 1)).all (fun x => x == 0) = (((l.drop k).take j).all (fun x => x == 0) && (l.getD (k + j) 0 == 0)) by
                rw [List.take_add_one, List.getElem?_drop, List.all_append, List.getElem?_eq_getElem (by rw [HL.out]; omega), List.getD_eq_getElem?_getD, List.getElem?_eq_getElem (by rw [HL.out]; omega)]
                simp)
              generalize l.getD (k + j) 0 = y at *
              clear hfar
              by_cases hy : y = 0
              · subst hy
                go_wp2_with fail
                go_roundw
                case rel => exact ⟨j + 1, by omega, by go_num, Lib.hid ⟨by rw [HT1.out]; simpa using hh.out.1, hh.out.2⟩⟩
                case measure => simp [intOf]; omega
              · have hyn : (y != 0) = true := by simp [hy]
                have HY := Lib.hid (show (y == 0) = false by simp [hy])
                clear hy
                go_wp2_with (go_at_call 30; refine (HF.out _ _ _ hh.out.1).mono ?_; rintro e1 w5 ⟨rfl, hD5, hn5⟩)
                go_roundw
                case rel => exact ⟨j + 1, by omega, by go_num, Lib.hid ⟨by rw [HT1.out, HY.out, ← keepS_and]; exact hD5, hh.out.2.1.trans hn5, hh.out.2.2.trans hn5⟩⟩
                case measure => simp [intOf]; omega
            · have hdj : decide (j < 16 - k) = false := decide_eq_false hlj
              have hdj2 : decide ((j : Int) < ((16 - k : Nat) : Int)) = false := decide_eq_false (by omega)
              have hall : (l.drop k).take j = l.drop k := List.take_of_length_le (by rw [List.length_drop, HL.out]; omega)
              have HA := Lib.hid hall
              clear hfar hall
              go_wp2_with fail
              go_ret
              refine ⟨hh.out.2.2, cutN l, _, _, t1, rfl, ⟨rfl, by rw [HQ.out]; exact hq16, HOC.out⟩, hh.out.1, HS.out.bnd (HS1.out.bnd (Step.bnd (y := ()) ?_ (Step.ret _ _ _)))⟩
              have h1 := Step.must (nameOk l) t 143 x.b s1
              rw [HOk.out] at h1 ⊢
              rw [HA.out, ← HS2.out, keepS_and]
              exact h1
        case false =>
          go_upto_region 9 with (first
            | (go_at_call 19; refine HN.out.mono ?_; rintro e1 w2 ⟨rfl, rfl⟩)
            | (go_at_call 30; refine (HF.out _ _ _ HD1.out).mono ?_; rintro e1 w4 ⟨rfl, hD2, hn4⟩))
          obtain ⟨s2, hs2⟩ : ∃ y, keepS false s1 (t, 143) = y := ⟨_, rfl⟩
          have hD2 : RD x (keepS false s1 (t, 143)) t1 w4 := hD2
          rw [hs2] at hD2
          have HS2 := Lib.hid hs2
          have HD2 := Lib.hid hD2
          have HN2 := Lib.hid (HN1.out.trans hn4)
          have HN4 := Lib.hid hn4
          clear hD2 hs2 hn4
          go_wp2_with fail
          go_loopw [8, 40] (fun _ iv wr => ∃ j : Nat, j ≤ 16 - k ∧ iv = .int .i64 j ∧ Hid (RD x (keepS (((l.drop k).take j).all fun x => x == 0) s2 (t, 143)) t1 wr ∧ Near (fun i => i = x.g) w1 wr ∧ Near (fun i => i = x.g) w wr)) (fun _ iv _ => 16 - k - (intOf iv).toNat)
          case atStart => exact ⟨0, by omega, rfl, Lib.hid ⟨by simpa [keepS] using HD2.out, HN4.out, HN2.out⟩⟩
          case round =>
            obtain ⟨j, hj, rfl, hh⟩ := hrel
            have hgl : b < w1.heap.size := hbl
            have hfar : wr.heap[b]? = w1.heap[b]? := hh.out.2.1.far hgl hbg
            by_cases hlj : j < 16 - k
            · have cj : wr.cell? ⟨b, o + k + j, none⟩ = some (.int .u8 (l.getD (k + j) 0)) := (cell_eq hfar (o + k + j)).trans ((congrArg (fun i => w1.cell? ⟨b, i, none⟩) (Nat.add_assoc o k j)).trans (HC.out (k + j) (by omega)))
              have hdj : decide (j < 16 - k) = true := decide_eq_true hlj
              have hdj2 : decide ((j : Int) < ((16 - k : Nat) : Int)) = true := decide_eq_true (by omega)
              have HT1 := Lib.hid (show ((l.drop k).take (j + 1)).all (fun x => x == 0) = (((l.drop k).take j).all (fun x => x == 0) && (l.getD (k + j) 0 == 0)) by
                rw [List.take_add_one, List.getElem?_drop, List.all_append, List.getElem?_eq_getElem (by rw [HL.out]; omega), List.getD_eq_getElem?_getD, List.getElem?_eq_getElem (by rw [HL.out]; omega)]
                simp)
              generalize l.getD (k + j) 0 = y at *
              clear hfar
              by_cases hy : y = 0
              · subst hy
                go_wp2_with fail
                go_roundw
                case rel => exact ⟨j + 1, by omega, by go_num, Lib.hid ⟨by rw [HT1.out]; simpa using hh.out.1, hh.out.2⟩⟩
                case measure => simp [intOf]; omega
              · have hyn : (y != 0) = true := by simp [hy]
                have HY := Lib.hid (show (y == 0) = false by simp [hy])
                clear hy
                go_wp2_with (go_at_call 30; refine (HF.out _ _ _ hh.out.1).mono ?_; rintro e1 w5 ⟨rfl, hD5, hn5⟩)
                go_roundw
                case rel => exact ⟨j + 1, by omega, by go_num, Lib.hid ⟨by rw [HT1.out, HY.out, ← keepS_and]; exact hD5, hh.out.2.1.trans hn5, hh.out.2.2.trans hn5⟩⟩
                case measure => simp [intOf]; omega
            · have hdj : decide (j < 16 - k) = false := decide_eq_false hlj
              have hdj2 : decide ((j : Int) < ((16 - k : Nat) : Int)) = false := decide_eq_false (by omega)
              have hall : (l.drop k).take j = l.drop k := List.take_of_length_le (by rw [List.length_drop, HL.out]; omega)
              have HA := Lib.hid hall
              clear hfar hall
              go_wp2_with fail
              go_ret
              refine ⟨hh.out.2.2, cutN l, _, _, t1, rfl, ⟨rfl, by rw [HQ.out]; exact hq16, HOC.out⟩, hh.out.1, HS.out.bnd (HS1.out.bnd (Step.bnd (y := ()) ?_ (Step.ret _ _ _)))⟩
              have h1 := Step.must (nameOk l) t 143 x.b s1
              rw [HOk.out] at h1 ⊢
              rw [HA.out, ← HS2.out, keepS_and]
              exact h1
      · obtain rfl : k = 16 := by omega
        have f3 : (16 : Int) ≤ (c : Int) := by omega
        go_upto_region 7 with (fail)
        have HC2 := Lib.hid (show ∀ q : Nat, ∀ j, 16 + j < 16 → w1.cell? ⟨b, o + 16 + j, none⟩ = w1.cell? ⟨b, q + j, none⟩ from fun q j h => absurd h (by omega))
        by_cases hc16 : c = 16
        · subst hc16
          cases nm
          case true =>
            go_upto_region 9 with (first
              | (go_at_call 19; refine HN.out.mono ?_; rintro e1 w2 ⟨rfl, rfl⟩)
              | fail)
            obtain ⟨s2, hs2⟩ : ∃ y, keepS true s1 (t, 143) = y := ⟨_, rfl⟩
            have hD2 : RD x (keepS true s1 (t, 143)) t1 w1 := HD1.out
            obtain ⟨w4, hw4⟩ : ∃ y, w1 = y := ⟨_, rfl⟩
            have hn4 := Near.refl (fun i => i = x.g) w1
            rw [hs2] at hD2
            have HS2 := Lib.hid hs2
            have HD2 := Lib.hid hD2
            have HN2 := Lib.hid HN1.out
            have HN4 := Lib.hid hn4
            clear hD2 hs2 hn4 hw4 w4
            go_wp2_with fail
            go_loopw [8, 40] (fun _ iv wr => iv = .int .i64 0 ∧ Hid (RD x s2 t1 wr ∧ Near (fun i => i = x.g) w wr)) (fun _ iv _ => 0)
            case atStart => exact ⟨rfl, Lib.hid ⟨HD2.out, HN2.out⟩⟩
            case round =>
              obtain ⟨rfl, hh⟩ := hrel
              go_wp2_with fail
              go_ret
              refine ⟨hh.out.2, cutN l, _, _, t1, rfl, ⟨rfl, by rw [HQ.out]; exact hq16, HOC.out⟩, hh.out.1, HS.out.bnd (HS1.out.bnd (Step.bnd (y := ()) ?_ (Step.ret _ _ _)))⟩
              have h1 := Step.must (nameOk l) t 143 x.b s1
              have h2 : nameOk l = true := by
                rw [HOk.out, List.drop_of_length_le (by rw [HL.out]; omega)]
                rfl
              rw [h2] at h1 ⊢
              rw [← HS2.out]
              exact h1
          case false =>
            go_upto_region 9 with (first
              | (go_at_call 19; refine HN.out.mono ?_; rintro e1 w2 ⟨rfl, rfl⟩)
              | (go_at_call 30; refine (HF.out _ _ _ HD1.out).mono ?_; rintro e1 w4 ⟨rfl, hD2, hn4⟩))
            obtain ⟨s2, hs2⟩ : ∃ y, keepS false s1 (t, 143) = y := ⟨_, rfl⟩
            have hD2 : RD x (keepS false s1 (t, 143)) t1 w4 := hD2
            rw [hs2] at hD2
            have HS2 := Lib.hid hs2
            have HD2 := Lib.hid hD2
            have HN2 := Lib.hid (HN1.out.trans hn4)
            have HN4 := Lib.hid hn4
            clear hD2 hs2 hn4
            go_wp2_with fail
            go_loopw [8, 40] (fun _ iv wr => iv = .int .i64 0 ∧ Hid (RD x s2 t1 wr ∧ Near (fun i => i = x.g) w wr)) (fun _ iv _ => 0)
            case atStart => exact ⟨rfl, Lib.hid ⟨HD2.out, HN2.out⟩⟩
            case round =>
              obtain ⟨rfl, hh⟩ := hrel
              go_wp2_with fail
              go_ret
              refine ⟨hh.out.2, cutN l, _, _, t1, rfl, ⟨rfl, by rw [HQ.out]; exact hq16, HOC.out⟩, hh.out.1, HS.out.bnd (HS1.out.bnd (Step.bnd (y := ()) ?_ (Step.ret _ _ _)))⟩
              have h1 := Step.must (nameOk l) t 143 x.b s1
              have h2 : nameOk l = false := by
                rw [HOk.out, List.drop_of_length_le (by rw [HL.out]; omega)]
                rfl
              rw [h2] at h1 ⊢
              rw [← HS2.out]
              exact h1
        · cases nm
          case true =>
            go_upto_region 9 with (first
              | (go_at_call 19; refine HN.out.mono ?_; rintro e1 w2 ⟨rfl, rfl⟩)
              | fail)
            obtain ⟨s2, hs2⟩ : ∃ y, keepS true s1 (t, 143) = y := ⟨_, rfl⟩
            have hD2 : RD x (keepS true s1 (t, 143)) t1 w1 := HD1.out
            obtain ⟨w4, hw4⟩ : ∃ y, w1 = y := ⟨_, rfl⟩
            have hn4 := Near.refl (fun i => i = x.g) w1
            rw [hs2] at hD2
            have HS2 := Lib.hid hs2
            have HD2 := Lib.hid hD2
            have HN2 := Lib.hid HN1.out
            have HN4 := Lib.hid hn4
            clear hD2 hs2 hn4 hw4 w4
            go_wp2_with fail
            go_loopw [8, 40] (fun _ iv wr => iv = .int .i64 0 ∧ Hid (RD x s2 t1 wr ∧ Near (fun i => i = x.g) w wr)) (fun _ iv _ => 0)
            case atStart => exact ⟨rfl, Lib.hid ⟨HD2.out, HN2.out⟩⟩
            case round =>
              obtain ⟨rfl, hh⟩ := hrel
              go_wp2_with fail
              go_ret
              refine ⟨hh.out.2, cutN l, _, _, t1, rfl, ⟨rfl, by rw [HQ.out]; exact hq16, HOC.out⟩, hh.out.1, HS.out.bnd (HS1.out.bnd (Step.bnd (y := ()) ?_ (Step.ret _ _ _)))⟩
              have h1 := Step.must (nameOk l) t 143 x.b s1
              have h2 : nameOk l = true := by
                rw [HOk.out, List.drop_of_length_le (by rw [HL.out]; omega)]
                rfl
              rw [h2] at h1 ⊢
              rw [← HS2.out]
              exact h1
          case false =>
            go_upto_region 9 with (first
              | (go_at_call 19; refine HN.out.mono ?_; rintro e1 w2 ⟨rfl, rfl⟩)
              | (go_at_call 30; refine (HF.out _ _ _ HD1.out).mono ?_; rintro e1 w4 ⟨rfl, hD2, hn4⟩))
            obtain ⟨s2, hs2⟩ : ∃ y, keepS false s1 (t, 143) = y := ⟨_, rfl⟩
            have hD2 : RD x (keepS false s1 (t, 143)) t1 w4 := hD2
            rw [hs2] at hD2
            have HS2 := Lib.hid hs2
            have HD2 := Lib.hid hD2
            have HN2 := Lib.hid (HN1.out.trans hn4)
            have HN4 := Lib.hid hn4
            clear hD2 hs2 hn4
            go_wp2_with fail
            go_loopw [8, 40] (fun _ iv wr => iv = .int .i64 0 ∧ Hid (RD x s2 t1 wr ∧ Near (fun i => i = x.g) w wr)) (fun _ iv _ => 0)
            case atStart => exact ⟨rfl, Lib.hid ⟨HD2.out, HN2.out⟩⟩
            case round =>
              obtain ⟨rfl, hh⟩ := hrel
              go_wp2_with fail
              go_ret
              refine ⟨hh.out.2, cutN l, _, _, t1, rfl, ⟨rfl, by rw [HQ.out]; exact hq16, HOC.out⟩, hh.out.1, HS.out.bnd (HS1.out.bnd (Step.bnd (y := ()) ?_ (Step.ret _ _ _)))⟩
              have h1 := Step.must (nameOk l) t 143 x.b s1
              have h2 : nameOk l = false := by
                rw [HOk.out, List.drop_of_length_le (by rw [HL.out]; omega)]
                rfl
              rw [h2] at h1 ⊢
              rw [← HS2.out]
              exact h1
end Go.Proofs.Ytmhbpfclfffgkaa
