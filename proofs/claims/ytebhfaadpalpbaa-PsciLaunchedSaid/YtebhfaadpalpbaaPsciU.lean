/- Chapter 29, the law PsciLaunched. -/
import Derived.Test.YtebhfaadpalpbaaPsciT
namespace Go.Proofs.Ytebhfaadpalpbaa
set_option linter.unusedVariables false
open Go.RowKit Go.Sort Go.ChangeShapes Go.WideShapes

set_option maxRecDepth 100000 in
set_option maxHeartbeats 4000000 in
theorem psciLaunched_any (x e d a : Int) (hx0 : 0 ≤ x) (hx1 : x < 4294967296) (ha : 0 ≤ a) (w : World) :
    Calls Try.prog 3 #[.int .u32 x, .int .u64 e, .int .u64 d, .int .u64 a] w fun e' w' => e' = .returned (.bool true) ∧ Below w.heap.size w w' := by
  have HV := Lib.hid (fun W => vcpus_any x e d hx0 hx1 W)
  have hvl := vsN_len x e d 32
  have hvn := vsN_new x e d 32 (Nat.le_refl _)
  by_cases hx : x = 0
  · subst hx
    have hnil := vsN_nil 0 e d 32 (fun j _ => by simp [bitN])
    rw [hnil] at HV
    go_enter Try.func3, Try.ntmps3
    go_wp2_with (first
      | (go_at_call 12; refine (awake29_any _).mono ?_; rintro e1 w0 ⟨rfl, hb0⟩)
      | (go_at_call 14; refine (HV.out _).mono ?_; rintro e1 w1 ⟨⟨A, c, rfl, hr1⟩, hb1⟩)
      | (go_at_call 13; refine (new_any A 0 c [] _ rfl (by decide) hr1).mono ?_; rintro e1 w2 ⟨g, rfl, hp2, hb2⟩)
      | (go_at_call 15; refine (call_any g _ ⟨newN [], 0⟩ _ _ _ _ _ _ hp2 (by decide)).mono ?_; rw [show newN [] = [] from rfl, launched_none]; rintro e1 w3 ⟨rfl, hp3, hn3⟩))
    go_ret
    exact ⟨rfl, hb0.trans ((hb1.trans ((hb2.trans (hn3.below (fun _ h => h) hb2.size)).mono hb1.size)).mono hb0.size)⟩
  · obtain ⟨f, hf, hbf, hlf⟩ := bit_some x (by omega) hx1
    have HT := Lib.hid (launched_tells x e d f hf hbf hlf a ha)
    have hne : (x == 0) = false := by simpa using hx
    have HB := Lib.hid (fun k : Nat => show bits .and .u32 (x / 2 ^ k) 1 = if bitN x k = true then 1 else 0 by rw [bit_and x hx0 hx1 k]; unfold bitN; by_cases h : x / 2 ^ k % 2 = 1 <;> simp [h]; omega)
    have HBF := Lib.hid hbf
    have HLF := Lib.hid hlf
    generalize vsN x e d 32 = vs at *
    have HVN := Lib.hid hvn
    have HVL := Lib.hid hvl
    clear hx hbf hlf hx0 hx1 hvn hvl
    go_enter Try.func3, Try.ntmps3
    go_wp2_with (first
      | (go_at_call 12; refine (awake29_any _).mono ?_; rintro e1 w0 ⟨rfl, hb0⟩)
      | (go_at_call 14; refine (HV.out _).mono ?_; rintro e1 w1 ⟨⟨A, c, rfl, hr1⟩, hb1⟩)
      | (go_at_call 13; refine (new_any A vs.length c vs _ rfl (Nat.le_trans HVL.out (by decide)) hr1).mono ?_; rw [HVN.out]; rintro e1 w2 ⟨g, rfl, hp2, hb2⟩))
    have hb3 := hb0.trans ((hb1.trans (hb2.mono hb1.size)).mono hb0.size)
    have hbz := Nat.le_trans hb0.size hb1.size
    go_loop [10] (fun i => ∃ k : Nat, k ≤ f ∧ i = .int .i64 k) (fun i => f - (intOf i).toNat)
    case atStart => exact ⟨0, by omega, rfl⟩
    case round =>
      obtain ⟨k, hk, rfl⟩ := hrel
      have hbk := HB.out k
      by_cases hlt : k < f
      · rw [HLF.out k hlt] at hbk
        simp only [Bool.false_eq_true, if_false] at hbk
        go_wp2
        go_round
        case rel => exact ⟨k + 1, by omega, by go_num⟩
        case measure => simp [intOf]; omega
      · obtain rfl : k = f := by omega
        rw [HBF.out] at hbk
        simp only [if_true] at hbk
        by_cases ha32 : a < 32
        · obtain ⟨j, rfl⟩ := Int.eq_ofNat_of_zero_le ha
          have hbj := HB.out j
          have ht := HT.out
          rw [Int.toNat_natCast] at ht
          by_cases hbit : bitN x j = true
          · rw [hbit] at hbj
            simp only [if_true] at hbj
            rw [if_pos ⟨ha32, hbit⟩] at ht
            clear hbit
            have HT2 := Lib.hid ht
            clear ht HT
            by_cases hjf : j = k
            · subst hjf
              simp only [if_true] at HT2
              go_wp2_with (go_at_call 15; refine (call_any g _ ⟨vs, 0⟩ _ _ _ _ _ _ hp2 (Nat.le_trans HVL.out (by decide))).mono ?_; rw [HT2.out]; rintro e1 w3 ⟨rfl, hp3, hn3⟩)
              go_ret
              exact ⟨rfl, hb3.trans (hn3.below (fun i h => Nat.le_trans hbz h) hb3.size)⟩
            · have hjf' : ((j : Int) = (k : Int)) = False := eq_false (by omega)
              have hjf2 : ((j : Int) == (k : Int)) = false := by rw [beq_eq_false_iff_ne]; omega
              simp only [hjf', if_false] at HT2
              clear hjf hjf'
              go_wp2_with (go_at_call 15; refine (call_any g _ ⟨vs, 0⟩ _ _ _ _ _ _ hp2 (Nat.le_trans HVL.out (by decide))).mono ?_; rw [HT2.out]; rintro e1 w3 ⟨rfl, hp3, hn3⟩)
              go_ret
              exact ⟨rfl, hb3.trans (hn3.below (fun i h => Nat.le_trans hbz h) hb3.size)⟩
          · rw [if_neg hbit] at hbj
            rw [if_neg (fun h => hbit h.2)] at ht
            clear hbit
            have HT2 := Lib.hid ht
            clear ht HT
            go_wp2_with (go_at_call 15; refine (call_any g _ ⟨vs, 0⟩ _ _ _ _ _ _ hp2 (Nat.le_trans HVL.out (by decide))).mono ?_; rw [HT2.out]; rintro e1 w3 ⟨rfl, hp3, hn3⟩)
            go_ret
            exact ⟨rfl, hb3.trans (hn3.below (fun i h => Nat.le_trans hbz h) hb3.size)⟩
        · have ht := HT.out
          rw [if_neg (fun h => ha32 h.1)] at ht
          have HT2 := Lib.hid ht
          clear ht HT
          go_wp2_with (go_at_call 15; refine (call_any g _ ⟨vs, 0⟩ _ _ _ _ _ _ hp2 (Nat.le_trans HVL.out (by decide))).mono ?_; rw [HT2.out]; rintro e1 w3 ⟨rfl, hp3, hn3⟩)
          go_ret
          exact ⟨rfl, hb3.trans (hn3.below (fun i h => Nat.le_trans hbz h) hb3.size)⟩

set_option maxRecDepth 100000 in
theorem psciLaunched_law : LawWalk Try.prog 3 Try.f3 := by
  intro H enc W base args ds p hval hA hlt hfz hsz
  rw [Try.params3] at hA hval
  obtain ⟨v0, v1, v2, v3, d0, d1, d2, d3, p0, p1, p2, p3, rfl, rfl, rfl, h0, h1, h2, h3⟩ := trodAll_four hA
  obtain ⟨x, rfl, rfl, rfl, wx⟩ := open_int Try.underlying22 (hval 0 22 v0 rfl rfl) h0
  obtain ⟨e, rfl, rfl, rfl, we⟩ := open_int Try.underlying23 (hval 1 23 v1 rfl rfl) h1
  obtain ⟨d, rfl, rfl, rfl, wd⟩ := open_int Try.underlying23 (hval 2 23 v2 rfl rfl) h2
  obtain ⟨a, rfl, rfl, rfl, wa⟩ := open_int Try.underlying23 (hval 3 23 v3 rfl rfl) h3
  have hx : 0 ≤ x ∧ x < 4294967296 := by simp [Lit.wf, IntKind.min, IntKind.max, IntKind.signed, IntKind.bits] at wx; omega
  exact psciLaunched_any x e d a hx.1 hx.2 (wf_nonneg wa) W
theorem psciLaunched_proved : Rows.PsciLaunchedSaid :=
  OpenClaim.holds_of_wide 3 Try.f3 rfl rfl rfl rfl rfl rfl rfl ⟨rfl, rfl, rfl, rfl, rfl⟩ rfl rfl rfl rfl rfl (by kernel_rfl) Try.func3 (by kernel_rfl)
    (of_decide_eq_true (by kernel_rfl)) (by unfold Func.isWrapper; rw [if_neg (of_decide_eq_false (by kernel_rfl))]; exact ⟨rfl, rfl⟩)
    (fun os started H enc _ => law_lifted (C := Try.checked) (s := Rows.psciLaunchedSpec) started own laidOut (by kernel_rfl) Try.func3 rfl (n := 4) (by kernel_rfl) (fun ds h => by match ds, h with | [_, _, _, _], _ => rfl) (tb := 4) (by kernel_rfl) Try.underlying4 (by kernel_rfl)
      (ChangeSpec.witness6 (enc := enc) (C := Try.checked) false ⟨#[], #[.int .u32 0, .int .u64 0, .int .u64 0, .int .u64 0], []⟩ 8 (by kernel_rfl) (by kernel_rfl) (by kernel_rfl) (by kernel_rfl)) psciLaunched_law)
end Go.Proofs.Ytebhfaadpalpbaa
