/- Chapter 29, the processors of a guest: a call. -/
import Derived.Test.YtebhfaadpalpbaaPsciF
namespace Go.Proofs.Ytebhfaadpalpbaa
set_option linter.unusedVariables false
open Go.RowKit Go.Sort

set_option maxHeartbeats 1000000 in
theorem callNone_any (cpu fn a b c : Int) (w : World) :
    Calls Try.prog 15 #[.pointer none, .int .i64 cpu, .int .u32 fn, .int .u64 a, .int .u64 b, .int .u64 c] w fun e w' => e = .returned (.int .i64 (-3)) ∧ w = w' := by
  go_enter Try.func15, Try.ntmps15
  go_wp2
  go_ret
  exact ⟨rfl, rfl⟩

set_option maxHeartbeats 4000000 in
theorem call_any (g : Nat) (S : Nat → Prop) (s : Pst) (cpu fn a b c : Int) (w : World) (h : PSto w 89 S g s) (hn : s.cs.length ≤ 1000) :
    Calls Try.prog 15 #[.pointer (some ⟨g, 0, none⟩), .int .i64 cpu, .int .u32 fn, .int .u64 a, .int .u64 b, .int .u64 c] w fun e w' => e = .returned (.int .i64 (callN s cpu fn a b c).1) ∧ PSto w' 89 S g (callN s cpu fn a b c).2 ∧ Near S w w' := by
  have HF := Lib.hid (fun W hW => find_any g S s (IntKind.u64.wrap cpu) W hW hn)
  have HP := Lib.hid h
  obtain ⟨v0, hB, hg, ho⟩ := h
  have hcl := hB.cell
  clear ho hB
  obtain ⟨r, hr⟩ : ∃ r, callN s cpu fn a b c = r := ⟨_, rfl⟩
  rw [hr]
  have HR := Lib.hid hr.symm
  clear hr
  unfold callN at HR
  by_cases hd : s.down = 0
  case neg =>
    have HR2 := Lib.hid (show r = (-3, s) by rw [HR.out, if_pos hd])
    clear HR
    go_enter Try.func15, Try.ntmps15
    go_wp2
    go_ret
    rw [HR2.out]
    exact ⟨rfl, HP.out, Near.refl S _⟩
  case pos =>
    simp only [hd, ne_eq, not_true_eq_false, if_false] at HR
    rw [hd] at hcl
    clear hd
    cases hx : findN s.cs (IntKind.u64.wrap cpu) with
    | none =>
      rw [hx] at HF HR
      simp only [coreV] at HF
      clear hx
      have HR2 := Lib.hid (show r = (-3, s) by rw [HR.out])
      clear HR
      go_enter Try.func15, Try.ntmps15
      go_wp2_with (go_at_call 32; refine (HF.out _ HP.out).mono ?_; rintro e w1 ⟨rfl, hb1⟩)
      go_ret
      rw [HR2.out]
      exact ⟨rfl, HP.out.kept (bal hb1 _), Near.of_below S (bal hb1 _)⟩
    | some own =>
      have hi := findN_lt hx
      rw [hx] at HF
      simp only [hx] at HR
      simp only [coreV_some] at HF
      clear hx
      have HSet := Lib.hid (fun W hW => set_any g S s own false 0 0 W hW hi hn)
      clear hi
      generalize s.cs.getD own zV = v at *
      cases hv : v.on
      case false =>
        rw [hv] at HF HR
        clear hv
        have HR2 := Lib.hid (show r = (-3, s) by rw [HR.out] ; rfl)
        clear HR
        go_enter Try.func15, Try.ntmps15
        go_wp2_with (go_at_call 32; refine (HF.out _ HP.out).mono ?_; rintro e w1 ⟨rfl, hb1⟩)
        go_ret
        rw [HR2.out]
        exact ⟨rfl, HP.out.kept (bal hb1 _), Near.of_below S (bal hb1 _)⟩
      case true =>
        rw [hv] at HF HR
        clear hv
        by_cases h0 : fn = 2214592512
        · subst h0
          have HR2 := Lib.hid (show r = (65537, s) by rw [HR.out] ; rfl)
          clear HR
          go_enter Try.func15, Try.ntmps15
          go_wp2_with (go_at_call 32; refine (HF.out _ HP.out).mono ?_; rintro e w1 ⟨rfl, hb1⟩)
          go_ret
          rw [HR2.out]
          exact ⟨rfl, HP.out.kept (bal hb1 _), Near.of_below S (bal hb1 _)⟩
        by_cases h1 : fn = 2214592522
        · subst h1
          have HK := Lib.hid (fun W => features_any a W)
          have HR2 := Lib.hid (show r = (if knownFn a then 0 else -1, s) by rw [HR.out]; rfl)
          clear HR h0
          generalize (if knownFn a = true then (0 : Int) else -1) = y at *
          go_enter Try.func15, Try.ntmps15
          go_wp2_with (first
            | (go_at_call 32; refine (HF.out _ HP.out).mono ?_; rintro e w1 ⟨rfl, hb1⟩)
            | (go_at_call 33; refine (HK.out _).mono ?_; rintro e w2 ⟨rfl, hb2⟩))
          go_ret
          rw [HR2.out]
          have hb := (bal hb1 _).trans (hb2.mono (bal hb1 _).size)
          exact ⟨rfl, HP.out.kept hb, Near.of_below S hb⟩
        by_cases h2 : fn = 2214592514
        · subst h2
          clear h0 h1
          have HR2 := Lib.hid (show r = (0, setN s own false 0 0) by rw [HR.out] ; rfl)
          clear HR
          go_enter Try.func15, Try.ntmps15
          go_wp2_with (first
            | (go_at_call 32; refine (HF.out _ HP.out).mono ?_; rintro e w1 ⟨rfl, hb1⟩)
            | (go_at_call 34; refine (HSet.out _ (HP.out.kept (bal hb1 _))).mono ?_; rintro e w2 ⟨rfl, hp2, hn2⟩))
          go_ret
          rw [HR2.out]
          exact ⟨rfl, hp2, (Near.of_below S (bal hb1 _)).trans hn2⟩
        by_cases h3 : fn = 3288334339
        · subst h3
          clear h0 h1 h2
          have HS := Lib.hid (fun W hW => start_any g S s a b c W hW hn)
          have HR2 := Lib.hid (show r = startN s a b c by rw [HR.out] ; rfl)
          clear HR
          go_enter Try.func15, Try.ntmps15
          go_wp2_with (first
            | (go_at_call 32; refine (HF.out _ HP.out).mono ?_; rintro e w1 ⟨rfl, hb1⟩)
            | (go_at_call 35; refine (HS.out _ (HP.out.kept (bal hb1 _))).mono ?_; rintro e w2 ⟨rfl, hp2, hn2⟩))
          go_ret
          rw [HR2.out]
          exact ⟨rfl, hp2, (Near.of_below S (bal hb1 _)).trans hn2⟩
        by_cases h4 : fn = 3288334340
        · subst h4
          clear h0 h1 h2 h3
          have HS := Lib.hid (fun W hW => look_any g S s a b W hW hn)
          have HR2 := Lib.hid (show r = (lookN s a b, s) by rw [HR.out]; rfl)
          clear HR
          go_enter Try.func15, Try.ntmps15
          go_wp2_with (first
            | (go_at_call 32; refine (HF.out _ HP.out).mono ?_; rintro e w1 ⟨rfl, hb1⟩)
            | (go_at_call 36; refine (HS.out _ (HP.out.kept (bal hb1 _))).mono ?_; rintro e w2 ⟨rfl, hb2⟩))
          go_ret
          rw [HR2.out]
          have hb := (bal hb1 _).trans (hb2.mono (bal hb1 _).size)
          exact ⟨rfl, HP.out.kept hb, Near.of_below S hb⟩
        by_cases h5 : fn = 2214592520
        · subst h5
          clear h0 h1 h2 h3 h4
          have HS := Lib.hid (fun W hW => end_any g S s 1 W hW hn)
          have HR2 := Lib.hid (show r = (0, endN s 1) by rw [HR.out] ; rfl)
          clear HR
          go_enter Try.func15, Try.ntmps15
          go_wp2_with (first
            | (go_at_call 32; refine (HF.out _ HP.out).mono ?_; rintro e w1 ⟨rfl, hb1⟩)
            | (go_at_call 37; refine (HS.out _ (HP.out.kept (bal hb1 _))).mono ?_; rintro e w2 ⟨rfl, hp2, hn2⟩))
          go_ret
          rw [HR2.out]
          exact ⟨rfl, hp2, (Near.of_below S (bal hb1 _)).trans hn2⟩
        by_cases h6 : fn = 2214592521
        · subst h6
          clear h0 h1 h2 h3 h4 h5
          have HS := Lib.hid (fun W hW => end_any g S s 2 W hW hn)
          have HR2 := Lib.hid (show r = (0, endN s 2) by rw [HR.out] ; rfl)
          clear HR
          go_enter Try.func15, Try.ntmps15
          go_wp2_with (first
            | (go_at_call 32; refine (HF.out _ HP.out).mono ?_; rintro e w1 ⟨rfl, hb1⟩)
            | (go_at_call 37; refine (HS.out _ (HP.out.kept (bal hb1 _))).mono ?_; rintro e w2 ⟨rfl, hp2, hn2⟩))
          go_ret
          rw [HR2.out]
          exact ⟨rfl, hp2, (Near.of_below S (bal hb1 _)).trans hn2⟩
        · have HR2 := Lib.hid (show r = (-1, s) by rw [HR.out]; simp [h0, h1, h2, h3, h4, h5, h6])
          clear HR
          go_enter Try.func15, Try.ntmps15
          go_wp2_with (go_at_call 32; refine (HF.out _ HP.out).mono ?_; rintro e w1 ⟨rfl, hb1⟩)
          go_ret
          rw [HR2.out]
          exact ⟨rfl, HP.out.kept (bal hb1 _), Near.of_below S (bal hb1 _)⟩
end Go.Proofs.Ytebhfaadpalpbaa
