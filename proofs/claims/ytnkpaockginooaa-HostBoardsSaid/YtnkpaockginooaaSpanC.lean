/- Spans: whole pages; whether a board may be; walked. -/
import Derived.Test.YtnkpaockginooaaSpanB
namespace Go.Proofs.Ytnkpaockginooaa
set_option linter.unusedVariables false
set_option linter.unusedSimpArgs false
open Go.RowKit Go.Sort

set_option maxHeartbeats 2000000 in
theorem pagesFn_any (b s : Int) (hb : U64 b) (hs : U64 s) (w : World) : Calls Try.prog 113 #[.agg #[.int .u64 b, .int .u64 s]] w fun e w' => e = .returned (.bool (!pagesB b s)) ∧ Below w.heap.size w w' := by
  have HB := Lib.hid (bal (Below.refl w.heap.size w) (.cells #[.int .u64 b, .int .u64 s] 37))
  have HK := Lib.hid (Blk.new w 37 #[.int .u64 b, .int .u64 s])
  have HG := Lib.hid (fun w => good_any b s hb hs w)
  have HO := or_pages b s hb hs
  go_enter Try.func113, Try.ntmps113
  rcases hg : goodB b s with _ | _
  · go_wp2_with (go_at_call 114; refine (HG.out _).mono ?_; rw [hg]; rintro e w5 ⟨rfl, hb5⟩)
    go_ret
    refine ⟨?_, HB.out.trans (hb5.mono HB.out.size)⟩
    simp [pagesB, hg]
  · go_wp2_with (go_at_call 114; refine (HG.out _).mono ?_; rw [hg]; rintro e w5 ⟨rfl, hb5⟩; have hc0 := (HK.out.kept hb5).cell 0; have hc1 := (HK.out.kept hb5).cell 1; simp only [List.getElem?_toArray, List.getElem?_cons_zero, List.getElem?_cons_succ] at hc0 hc1)
    go_ret
    refine ⟨?_, HB.out.trans (hb5.mono HB.out.size)⟩
    simp [pagesB, hg]
set_option maxHeartbeats 2000000 in
theorem refPages_any (b s : Int) (hb : U64 b) (hs : U64 s) (w : World) : Calls Try.prog 77 #[.agg #[.int .u64 b, .int .u64 s]] w fun e w' => e = .returned (.bool (pagesB b s)) ∧ Below w.heap.size w w' := by
  have HB := Lib.hid (bal (Below.refl w.heap.size w) (.cells #[.int .u64 b, .int .u64 s] 37))
  have HK := Lib.hid (Blk.new w 37 #[.int .u64 b, .int .u64 s])
  have HG := Lib.hid (fun w => refGood_any b s hb hs w)
  go_enter Try.func77, Try.ntmps77
  rcases hg : goodB b s with _ | _
  · go_wp2_with (go_at_call 103; refine (HG.out _).mono ?_; rw [hg]; rintro e w5 ⟨rfl, hb5⟩)
    go_ret
    refine ⟨?_, HB.out.trans (hb5.mono HB.out.size)⟩
    simp [pagesB, hg]
  · have hbn := Lib.hid hb
    have hsn := Lib.hid hs
    obtain ⟨hb0, hb1⟩ := hb
    obtain ⟨hs0, hs1⟩ := hs
    by_cases h1 : b % 4096 = 0
    all_goals
      go_wp2_with (go_at_call 103; refine (HG.out _).mono ?_; rw [hg]; rintro e w5 ⟨rfl, hb5⟩; have hc0 := (HK.out.kept hb5).cell 0; have hc1 := (HK.out.kept hb5).cell 1; simp only [List.getElem?_toArray, List.getElem?_cons_zero, List.getElem?_cons_succ] at hc0 hc1)
      go_ret
      refine ⟨?_, HB.out.trans (hb5.mono HB.out.size)⟩
      simp [pagesB, hg, h1]
      try rw [Bool.eq_iff_iff, beq_iff_eq, decide_eq_true_iff]
/-- Two spans of which both must be whole pages. -/
def encSp (x : Int × Int) : List Value := [.int .u64 x.1, .int .u64 x.2]
set_option maxRecDepth 100000 in
set_option maxHeartbeats 2000000 in
theorem indexSp_any (A : Option Addr) (n c : Nat) (l : List (Int × Int)) (hl : l.length = n) (hn : n ≤ 1000000000) (hu : ∀ x ∈ l, U64 x.1 ∧ U64 x.2) (w : World) (hr : Rd w w.heap.size 2 A n (l.flatMap encSp)) :
    Calls Try.prog 118 #[.slice A n c, .func (.func 113) #[] #[]] w fun e w' => (∃ r : Int, e = .returned (.int .i64 r) ∧ decide (0 ≤ r) = l.any fun x => !pagesB x.1 x.2) ∧ Below w.heap.size w w' := by
  have HL := Lib.hid hl
  have HU := Lib.hid hu
  have HR := Lib.hid hr
  clear hl hu hr
  go_enter Try.func118, Try.ntmps118
  go_wp2_with fail
  go_loopw [8] (fun i wr => ∃ k : Nat, k ≤ n ∧ i = .int .i64 k ∧ Hid (∀ j, j < k → ∀ x, l[j]? = some x → pagesB x.1 x.2 = true) ∧ Below w.heap.size w wr) (fun i _ => n - (intOf i).toNat)
  case atStart => exact ⟨0, by omega, rfl, fun j hj => absurd hj (by omega), Below.refl _ _⟩
  case round =>
    obtain ⟨k, hk, rfl, hq, hbr⟩ := hrel
    by_cases hlt : k < n
    · obtain ⟨⟨b, s⟩, hp⟩ : ∃ p, l[k]? = some p := ⟨_, List.getElem?_eq_getElem (by rw [HL.out]; exact hlt)⟩
      have hux := HU.out _ (List.mem_of_getElem? hp)
      obtain ⟨b1, o1, rfl, hb1, hd1⟩ := (HR.out.keep (fun p hp => hbr.cell hp)).row (enc := encSp) (fun _ => rfl) (k := k) (by rw [HL.out]; exact hlt) HL.out
      have hg1 : l[k]'(by rw [HL.out]; exact hlt) = (b, s) := (List.getElem?_eq_some_iff.1 hp).2
      rw [hg1] at hd1
      have d0 := hd1 0 (by omega)
      have d1 := hd1 1 (by omega)
      clear hd1 hg1
      simp only [encSp, Nat.add_zero, List.getElem?_cons_zero, List.getElem?_cons_succ] at d0 d1
      have HC := Lib.hid (fun w => pagesFn_any b s hux.1 hux.2 w)
      have HP := Lib.hid hp
      rcases hpg : pagesB b s with _ | _
      · go_wp2_with (go_at_call 113; refine (HC.out _).mono ?_; rw [hpg]; rintro e w5 ⟨rfl, hb5⟩)
        go_ret
        refine ⟨⟨k, rfl, ?_⟩, hbr.trans (hb5.mono hbr.size)⟩
        have : (l.any fun x => !pagesB x.1 x.2) = true := List.any_eq_true.2 ⟨(b, s), List.mem_of_getElem? HP.out, by simp [hpg]⟩
        rw [this]
        simp
      · go_wp2_with (go_at_call 113; refine (HC.out _).mono ?_; rw [hpg]; rintro e w5 ⟨rfl, hb5⟩)
        go_roundw
        case rel =>
          refine ⟨k + 1, by omega, by go_num, fun j hj x hx => ?_, hbr.trans (hb5.mono hbr.size)⟩
          rcases Nat.lt_or_ge j k with h | h
          · exact hq j h x hx
          · obtain rfl : j = k := by omega
            rw [HP.out] at hx
            cases hx
            exact hpg
        case measure => simp [intOf]; omega
    · obtain rfl : k = n := by omega
      go_wp2_with fail
      go_ret
      refine ⟨⟨-1, rfl, ?_⟩, hbr⟩
      have : (l.any fun x => !pagesB x.1 x.2) = false := by
        rw [List.any_eq_false]
        intro x hx
        obtain ⟨j, hj⟩ := List.mem_iff_getElem?.1 hx
        have hjl := (List.getElem?_eq_some_iff.1 hj).1
        rw [HL.out] at hjl
        rw [hq j hjl x hj]
        simp
      rw [this]
      simp
theorem pages_any (A : Option Addr) (c : Nat) (b s b' s' : Int) (h1 : U64 b) (h2 : U64 s) (h3 : U64 b') (h4 : U64 s') (w : World) (hr : Rd w w.heap.size 2 A 2 [.int .u64 b, .int .u64 s, .int .u64 b', .int .u64 s']) :
    Calls Try.prog 99 #[.slice A 2 c] w fun e w' => e = .returned (.bool (pagesB b s && pagesB b' s')) ∧ Below w.heap.size w w' := by
  have HI := Lib.hid (indexSp_any A 2 c [(b, s), (b', s')] rfl (by decide) (by
    intro x hx
    simp at hx
    rcases hx with rfl | rfl
    · exact ⟨h1, h2⟩
    · exact ⟨h3, h4⟩) w hr)
  clear hr
  have HC : Hid (Calls Try.prog 112 #[.slice A 2 c, .func (.func 113) #[] #[]] w fun e w' => e = .returned (.bool (!(pagesB b s && pagesB b' s'))) ∧ Below w.heap.size w w') := by
    refine Lib.hid ?_
    go_enter Try.func112, Try.ntmps112
    go_wp2_with (go_at_call 118; refine HI.out.mono ?_; rintro e w5 ⟨⟨r, rfl, hr⟩, hb5⟩)
    go_ret
    refine ⟨?_, hb5⟩
    simp at hr
    simp [hr]
  go_enter Try.func99, Try.ntmps99
  go_wp2_with (go_at_call 112; refine HC.out.mono ?_; rintro e w5 ⟨rfl, hb5⟩)
  go_ret
  exact ⟨by simp, hb5⟩
end Go.Proofs.Ytnkpaockginooaa
