/- Chapter 29, the document's processors: a call. -/
import Derived.Test.YtebhfaadpalpbaaPsciI
namespace Go.Proofs.Ytebhfaadpalpbaa
set_option linter.unusedVariables false
open Go.RowKit Go.Sort

/-- What processors are in memory, and one of them, written out. -/
theorem PSto.at {w : World} {T : TypeId} {S : Nat → Prop} {g : Nat} {s : Pst} (h : PSto w T S g s) (hT : 76 ≠ T) (hn : 0 < s.cs.length) :
    ∃ gw cap, Blk w g T #[.slice (some ⟨gw, 0, none⟩) s.cs.length cap, .int .i64 s.down] ∧ s.cs.length ≤ cap ∧
      (∀ w2, Below w.heap.size w w2 → ∀ i, i < s.cs.length → (∀ k, w2.frozen? ⟨gw, k, none⟩ = false) ∧ w2.cell? ⟨gw, i * 5 + 1, none⟩ = some (.bool (s.cs.getD i zV).on) ∧ w2.cell? ⟨gw, i * 5 + 2, none⟩ = some (.int .u64 (s.cs.getD i zV).pc) ∧ w2.cell? ⟨gw, i * 5 + 3, none⟩ = some (.int .u64 (s.cs.getD i zV).x0)) ∧
      (∀ w2, Below w.heap.size w w2 → ∀ i, i < s.cs.length → ∀ (on : Bool) (pc x0 : Int), PSto (((w2.setCell ⟨gw, i * 5 + 1, none⟩ (.bool on)).setCell ⟨gw, i * 5 + 2, none⟩ (.int .u64 pc)).setCell ⟨gw, i * 5 + 3, none⟩ (.int .u64 x0)) T S g (setN s i on pc x0) ∧
        Near S w2 (((w2.setCell ⟨gw, i * 5 + 1, none⟩ (.bool on)).setCell ⟨gw, i * 5 + 2, none⟩ (.int .u64 pc)).setCell ⟨gw, i * 5 + 3, none⟩ (.int .u64 x0))) := by
  obtain ⟨gw, cap, cur, hB, hg, ho, hgw, hne, hW, hcap⟩ := h.open hT hn
  refine ⟨gw, cap, hB, hcap, fun w2 hb i hi => ?_, fun w2 hb i hi on pc x0 => psto_set (hB.kept hb) hg (own_kept ho hb) hgw hne i hi on pc x0⟩
  have ho2 := own_kept ho hb
  have e1 := flatMap_get (enc := encV) (s := 5) (fun _ => rfl) s.cs i 1 (by omega) hi
  have e2 := flatMap_get (enc := encV) (s := 5) (fun _ => rfl) s.cs i 2 (by omega) hi
  have e3 := flatMap_get (enc := encV) (s := 5) (fun _ => rfl) s.cs i 3 (by omega) hi
  refine ⟨ho2.frozenAt, ?_, ?_, ?_⟩
  · rw [ho2.cellAt (i * 5 + 1) (by omega), e1]
    simp [encV, List.getD_eq_getElem?_getD, hi]
  · rw [ho2.cellAt (i * 5 + 2) (by omega), e2]
    simp [encV, List.getD_eq_getElem?_getD, hi]
  · rw [ho2.cellAt (i * 5 + 3) (by omega), e3]
    simp [encV, List.getD_eq_getElem?_getD, hi]

set_option maxRecDepth 100000 in
set_option maxHeartbeats 4000000 in
theorem rcall_any (g : Nat) (S : Nat → Prop) (s : Pst) (cpu fn a b c : Int) (w : World) (h : PSto w 71 S g s) (hn : s.cs.length ≤ 1000) :
    Calls Try.prog 24 #[.pointer (some ⟨g, 0, none⟩), .int .i64 cpu, .int .u32 fn, .int .u64 a, .int .u64 b, .int .u64 c] w fun e w' => e = .returned (.int .i64 (callN s cpu fn a b c).1) ∧ PSto w' 71 S g (callN s cpu fn a b c).2 ∧ Near S w w' := by
  have HF := Lib.hid (fun W hW => refFind_any g S s (IntKind.u64.wrap cpu) W hW hn)
  have HF2 := Lib.hid (fun W hW => refFind_any g S s a W hW hn)
  have HP := Lib.hid h
  obtain ⟨r, hr⟩ : ∃ r, callN s cpu fn a b c = r := ⟨_, rfl⟩
  rw [hr]
  have HR := Lib.hid hr.symm
  clear hr
  unfold callN at HR
  cases hx : findN s.cs (IntKind.u64.wrap cpu) with
  | none =>
    obtain ⟨v0, hB, hg, ho⟩ := h
    have hcl := hB.cell
    clear ho hB HF2
    rw [hx] at HF
    simp only [hx, idxN] at HR HF
    by_cases hd : s.down = 0
    · rw [hd] at hcl
      have HR2 := Lib.hid (show r = (-3, s) by rw [HR.out]; simp)
      clear HR
      go_enter Try.func24, Try.ntmps24
      go_wp2_with (go_at_call 41; first | (with_reducible (refine (HF.out _ HP.out).mono ?_); rintro e w1 ⟨rfl, rfl⟩) | (with_reducible (refine (HF2.out _ HP.out).mono ?_); rintro e w1 ⟨rfl, rfl⟩))
      all_goals go_ret
      all_goals rw [HR2.out]
      all_goals exact ⟨rfl, HP.out, Near.refl S _⟩
    ·
      have HR2 := Lib.hid (show r = (-3, s) by rw [HR.out]; simp)
      clear HR
      go_enter Try.func24, Try.ntmps24
      go_wp2_with (go_at_call 41; first | (with_reducible (refine (HF.out _ HP.out).mono ?_); rintro e w1 ⟨rfl, rfl⟩) | (with_reducible (refine (HF2.out _ HP.out).mono ?_); rintro e w1 ⟨rfl, rfl⟩))
      all_goals go_ret
      all_goals rw [HR2.out]
      all_goals exact ⟨rfl, HP.out, Near.refl S _⟩
  | some own =>
    have hi := findN_lt hx
    obtain ⟨gw, cap, hcl, hcap, hcA, hcS⟩ := h.at (by decide) (by omega)
    have hc1 := (hcA w (Below.refl _ _) own hi).2.1
    have HCA := Lib.hid hcA
    have HCS := Lib.hid hcS
    clear hcA hcS
    simp only [hx, idxN] at HR HF
    clear h
    by_cases hd : s.down = 0
    case neg =>
      have hcl := hcl.cell
      clear HF2
      have HR2 := Lib.hid (show r = (-3, s) by rw [HR.out]; simp [hd])
      clear HR
      go_enter Try.func24, Try.ntmps24
      go_wp2_with (go_at_call 41; first | (with_reducible (refine (HF.out _ HP.out).mono ?_); rintro e w1 ⟨rfl, rfl⟩) | (with_reducible (refine (HF2.out _ HP.out).mono ?_); rintro e w1 ⟨rfl, rfl⟩))
      all_goals go_ret
      all_goals rw [HR2.out]
      all_goals exact ⟨rfl, HP.out, Near.refl S _⟩
    case pos =>
      simp only [hd, ne_eq, not_true_eq_false, if_false] at HR
      rw [hd] at hcl
      have HOff := Lib.hid (fun W hW => off_any g S s own W hW hi hn)
      generalize s.cs.getD own zV = v at *
      cases hv : v.on
      case false =>
        rw [hv] at hc1 HR
        have hcl := hcl.cell
        clear hv HF2 hd
        have HR2 := Lib.hid (show r = (-3, s) by rw [HR.out] ; rfl)
        clear HR
        go_enter Try.func24, Try.ntmps24
        go_wp2_with (go_at_call 41; first | (with_reducible (refine (HF.out _ HP.out).mono ?_); rintro e w1 ⟨rfl, rfl⟩) | (with_reducible (refine (HF2.out _ HP.out).mono ?_); rintro e w1 ⟨rfl, rfl⟩))
        all_goals go_ret
        all_goals rw [HR2.out]
        all_goals exact ⟨rfl, HP.out, Near.refl S _⟩
      case true =>
        rw [hv] at hc1
        simp only [hv, Bool.true_eq_false, if_false] at HR
        clear hv hd
        by_cases h0 : fn = 2214592512
        · subst h0
          have hcl := hcl.cell
          generalize findN s.cs a = o at *
          cases o
          all_goals
            have HR2 := Lib.hid (show r = (65537, s) by rw [HR.out] ; rfl)
            clear HR
            go_enter Try.func24, Try.ntmps24
            go_wp2_with (go_at_call 41; first | (with_reducible (refine (HF.out _ HP.out).mono ?_); rintro e w1 ⟨rfl, rfl⟩) | (with_reducible (refine (HF2.out _ HP.out).mono ?_); rintro e w1 ⟨rfl, rfl⟩))
            all_goals go_ret
            all_goals rw [HR2.out]
            all_goals exact ⟨rfl, HP.out, Near.refl S _⟩
        by_cases h1 : fn = 2214592522
        · subst h1
          have hcl := hcl.cell
          have HR3 := Lib.hid (show r = (if knownFn a then 0 else -1, s) by rw [HR.out]; rfl)
          clear HR h0
          have HR := HR3
          clear HR3
          obtain ⟨z, hz⟩ : ∃ z : Int, idxN (findN s.cs a) = z := ⟨_, rfl⟩
          rw [hz] at HF2
          clear hz
          by_cases k0 : a = 2214592512
          · subst k0
            have HR2 := Lib.hid (show r = (0, s) by rw [HR.out] ; rfl)
            clear HR
            go_enter Try.func24, Try.ntmps24
            go_wp2_with (go_at_call 41; first | (with_reducible (refine (HF.out _ HP.out).mono ?_); rintro e w1 ⟨rfl, rfl⟩) | (with_reducible (refine (HF2.out _ HP.out).mono ?_); rintro e w1 ⟨rfl, rfl⟩))
            all_goals go_ret
            all_goals rw [HR2.out]
            all_goals exact ⟨rfl, HP.out, Near.refl S _⟩
          by_cases k1 : a = 2214592522
          · subst k1
            have HR2 := Lib.hid (show r = (0, s) by rw [HR.out] ; rfl)
            clear HR
            go_enter Try.func24, Try.ntmps24
            go_wp2_with (go_at_call 41; first | (with_reducible (refine (HF.out _ HP.out).mono ?_); rintro e w1 ⟨rfl, rfl⟩) | (with_reducible (refine (HF2.out _ HP.out).mono ?_); rintro e w1 ⟨rfl, rfl⟩))
            all_goals go_ret
            all_goals rw [HR2.out]
            all_goals exact ⟨rfl, HP.out, Near.refl S _⟩
          by_cases k2 : a = 2214592514
          · subst k2
            have HR2 := Lib.hid (show r = (0, s) by rw [HR.out] ; rfl)
            clear HR
            go_enter Try.func24, Try.ntmps24
            go_wp2_with (go_at_call 41; first | (with_reducible (refine (HF.out _ HP.out).mono ?_); rintro e w1 ⟨rfl, rfl⟩) | (with_reducible (refine (HF2.out _ HP.out).mono ?_); rintro e w1 ⟨rfl, rfl⟩))
            all_goals go_ret
            all_goals rw [HR2.out]
            all_goals exact ⟨rfl, HP.out, Near.refl S _⟩
          by_cases k3 : a = 3288334339
          · subst k3
            have HR2 := Lib.hid (show r = (0, s) by rw [HR.out] ; rfl)
            clear HR
            go_enter Try.func24, Try.ntmps24
            go_wp2_with (go_at_call 41; first | (with_reducible (refine (HF.out _ HP.out).mono ?_); rintro e w1 ⟨rfl, rfl⟩) | (with_reducible (refine (HF2.out _ HP.out).mono ?_); rintro e w1 ⟨rfl, rfl⟩))
            all_goals go_ret
            all_goals rw [HR2.out]
            all_goals exact ⟨rfl, HP.out, Near.refl S _⟩
          by_cases k4 : a = 3288334340
          · subst k4
            have HR2 := Lib.hid (show r = (0, s) by rw [HR.out] ; rfl)
            clear HR
            go_enter Try.func24, Try.ntmps24
            go_wp2_with (go_at_call 41; first | (with_reducible (refine (HF.out _ HP.out).mono ?_); rintro e w1 ⟨rfl, rfl⟩) | (with_reducible (refine (HF2.out _ HP.out).mono ?_); rintro e w1 ⟨rfl, rfl⟩))
            all_goals go_ret
            all_goals rw [HR2.out]
            all_goals exact ⟨rfl, HP.out, Near.refl S _⟩
          by_cases k5 : a = 2214592520
          · subst k5
            have HR2 := Lib.hid (show r = (0, s) by rw [HR.out] ; rfl)
            clear HR
            go_enter Try.func24, Try.ntmps24
            go_wp2_with (go_at_call 41; first | (with_reducible (refine (HF.out _ HP.out).mono ?_); rintro e w1 ⟨rfl, rfl⟩) | (with_reducible (refine (HF2.out _ HP.out).mono ?_); rintro e w1 ⟨rfl, rfl⟩))
            all_goals go_ret
            all_goals rw [HR2.out]
            all_goals exact ⟨rfl, HP.out, Near.refl S _⟩
          by_cases k6 : a = 2214592521
          · subst k6
            have HR2 := Lib.hid (show r = (0, s) by rw [HR.out] ; rfl)
            clear HR
            go_enter Try.func24, Try.ntmps24
            go_wp2_with (go_at_call 41; first | (with_reducible (refine (HF.out _ HP.out).mono ?_); rintro e w1 ⟨rfl, rfl⟩) | (with_reducible (refine (HF2.out _ HP.out).mono ?_); rintro e w1 ⟨rfl, rfl⟩))
            all_goals go_ret
            all_goals rw [HR2.out]
            all_goals exact ⟨rfl, HP.out, Near.refl S _⟩
          · have HR2 := Lib.hid (show r = (-1, s) by rw [HR.out]; simp [knownFn, k0, k1, k2, k3, k4, k5, k6])
            clear HR
            go_enter Try.func24, Try.ntmps24
            go_wp2_with (go_at_call 41; first | (with_reducible (refine (HF.out _ HP.out).mono ?_); rintro e w1 ⟨rfl, rfl⟩) | (with_reducible (refine (HF2.out _ HP.out).mono ?_); rintro e w1 ⟨rfl, rfl⟩))
            go_ret
            rw [HR2.out]
            exact ⟨rfl, HP.out, Near.refl S _⟩
        by_cases h2 : fn = 2214592514
        · subst h2
          clear h0 h1
          have hcl := hcl.cell
          obtain ⟨z, hz⟩ : ∃ z : Int, idxN (findN s.cs a) = z := ⟨_, rfl⟩
          rw [hz] at HF2
          clear hz
          have HR2 := Lib.hid (show r = (0, setN s own false 0 0) by rw [HR.out]; rfl)
          clear HR
          go_enter Try.func24, Try.ntmps24
          go_wp2_with (first
            | (go_at_call 41; first | (with_reducible (refine (HF.out _ HP.out).mono ?_); rintro e w1 ⟨rfl, rfl⟩) | (with_reducible (refine (HF2.out _ HP.out).mono ?_); rintro e w1 ⟨rfl, rfl⟩))
            | (go_at_call 42; refine (HOff.out _ HP.out).mono ?_; rintro e w2 ⟨rfl, hp2, hn2⟩))
          go_ret
          rw [HR2.out]
          exact ⟨rfl, hp2, hn2⟩
        by_cases h3 : fn = 3288334339
        · subst h3
          clear h0 h1 h2
          have HR2 := Lib.hid (show r = startN s a b c by rw [HR.out]; rfl)
          clear HR
          cases hy : findN s.cs a with
          | none =>
            have HR3 := Lib.hid (show r = (-2, s) by rw [HR2.out, startN, hy])
            have hcl := hcl.cell
            clear HR2
            simp only [hy, idxN] at HF2
            have HR := HR3
            clear HR3
            have HR2 := Lib.hid (show r = (-2, s) by rw [HR.out])
            clear HR
            go_enter Try.func24, Try.ntmps24
            go_wp2_with (go_at_call 41; first | (with_reducible (refine (HF.out _ HP.out).mono ?_); rintro e w1 ⟨rfl, rfl⟩) | (with_reducible (refine (HF2.out _ HP.out).mono ?_); rintro e w1 ⟨rfl, rfl⟩))
            all_goals go_ret
            all_goals rw [HR2.out]
            all_goals exact ⟨rfl, HP.out, Near.refl S _⟩
          | some j =>
            have hj := findN_lt hy
            have hc2 := (HCA.out w (Below.refl _ _) j hj).2.1
            have HR3 := Lib.hid (show r = if (s.cs.getD j zV).on then (-4, s) else if Int.tmod b 4 ≠ 0 then (-9, s) else (0, setN s j true b c) by rw [HR2.out, startN, hy])
            clear HR2
            simp only [hy, idxN] at HF2
            have HR := HR3
            have HC3 := Lib.hid (fun w2 hb => HCA.out w2 hb j hj)
            have HS3 := Lib.hid (fun w2 hb => HCS.out w2 hb j hj true b c)
            clear HR3 hy HCA HCS
            generalize s.cs.getD j zV = u at *
            cases hu : u.on
            case true =>
              rw [hu] at hc2
              simp only [hu] at HR
              have hcl := hcl.cell
              clear hu
              have HR2 := Lib.hid (show r = (-4, s) by rw [HR.out]; rfl)
              clear HR
              go_enter Try.func24, Try.ntmps24
              go_wp2_with (go_at_call 41; first | (with_reducible (refine (HF.out _ HP.out).mono ?_); rintro e w1 ⟨rfl, rfl⟩) | (with_reducible (refine (HF2.out _ HP.out).mono ?_); rintro e w1 ⟨rfl, rfl⟩))
              all_goals go_ret
              all_goals rw [HR2.out]
              all_goals exact ⟨rfl, HP.out, Near.refl S _⟩
            case false =>
              rw [hu] at hc2
              simp only [hu] at HR
              clear hu
              by_cases ht : Int.tmod b 4 = 0
              · have HR2 := Lib.hid (show r = (0, setN s j true b c) by rw [HR.out]; simp [ht])
                have ht' : (Int.tmod b 4 != 0) = false := by simp [ht]
                have hB := hcl
                have hcl := hcl.cell
                clear ht HR HOff
                go_enter Try.func24, Try.ntmps24
                go_wp2_with (go_at_call 41; first | (with_reducible (refine (HF.out _ HP.out).mono ?_); rintro e w1 ⟨rfl, rfl⟩) | (with_reducible (refine (HF2.out _ HP.out).mono ?_); rintro e w1 ⟨rfl, rfl⟩))
                obtain ⟨hf2, d1, d2, d3⟩ := HC3.out w (Below.refl _ _)
                go_region
                go_wp2
                go_ret
                rw [HR2.out]
                exact ⟨rfl, (HS3.out w (Below.refl _ _)).1.kept (below_drewN (Below.refl _ _) 1), (HS3.out w (Below.refl _ _)).2.drew⟩
              · have ht' : (Int.tmod b 4 != 0) = true := by simp [ht]
                have HR2 := Lib.hid (show r = (-9, s) by rw [HR.out]; simp [ht])
                clear HR ht
                have HR := HR2
                have hcl := hcl.cell
                clear HR2
                have HR2 := Lib.hid (show r = (-9, s) by rw [HR.out])
                clear HR
                go_enter Try.func24, Try.ntmps24
                go_wp2_with (go_at_call 41; first | (with_reducible (refine (HF.out _ HP.out).mono ?_); rintro e w1 ⟨rfl, rfl⟩) | (with_reducible (refine (HF2.out _ HP.out).mono ?_); rintro e w1 ⟨rfl, rfl⟩))
                all_goals go_ret
                all_goals rw [HR2.out]
                all_goals exact ⟨rfl, HP.out, Near.refl S _⟩
        by_cases h4 : fn = 3288334340
        · subst h4
          clear h0 h1 h2 h3
          have HR2 := Lib.hid (show r = (lookN s a b, s) by rw [HR.out]; rfl)
          clear HR
          by_cases hb : b = 0
          · subst hb
            cases hy : findN s.cs a with
            | none =>
              have HR := Lib.hid (show r = (-2, s) by rw [HR2.out, lookN, hy]; rfl)
              have hcl := hcl.cell
              clear HR2
              simp only [hy, idxN] at HF2
              have HR2 := Lib.hid (show r = (-2, s) by rw [HR.out])
              clear HR
              go_enter Try.func24, Try.ntmps24
              go_wp2_with (go_at_call 41; first | (with_reducible (refine (HF.out _ HP.out).mono ?_); rintro e w1 ⟨rfl, rfl⟩) | (with_reducible (refine (HF2.out _ HP.out).mono ?_); rintro e w1 ⟨rfl, rfl⟩))
              all_goals go_ret
              all_goals rw [HR2.out]
              all_goals exact ⟨rfl, HP.out, Near.refl S _⟩
            | some j =>
              have hj := findN_lt hy
              have hc2 := (HCA.out w (Below.refl _ _) j hj).2.1
              have HR := Lib.hid (show r = (if (s.cs.getD j zV).on then 0 else 1, s) by rw [HR2.out, lookN, hy]; rfl)
              clear HR2
              simp only [hy, idxN] at HF2
              have hcl := hcl.cell
              clear hy HCA HCS
              generalize s.cs.getD j zV = u at *
              cases hu : u.on
              case true =>
                rw [hu] at hc2
                simp only [hu] at HR
                clear hu
                have HR2 := Lib.hid (show r = (0, s) by rw [HR.out]; rfl)
                clear HR
                go_enter Try.func24, Try.ntmps24
                go_wp2_with (go_at_call 41; first | (with_reducible (refine (HF.out _ HP.out).mono ?_); rintro e w1 ⟨rfl, rfl⟩) | (with_reducible (refine (HF2.out _ HP.out).mono ?_); rintro e w1 ⟨rfl, rfl⟩))
                all_goals go_ret
                all_goals rw [HR2.out]
                all_goals exact ⟨rfl, HP.out, Near.refl S _⟩
              case false =>
                rw [hu] at hc2
                simp only [hu] at HR
                clear hu
                have HR2 := Lib.hid (show r = (1, s) by rw [HR.out]; rfl)
                clear HR
                go_enter Try.func24, Try.ntmps24
                go_wp2_with (go_at_call 41; first | (with_reducible (refine (HF.out _ HP.out).mono ?_); rintro e w1 ⟨rfl, rfl⟩) | (with_reducible (refine (HF2.out _ HP.out).mono ?_); rintro e w1 ⟨rfl, rfl⟩))
                all_goals go_ret
                all_goals rw [HR2.out]
                all_goals exact ⟨rfl, HP.out, Near.refl S _⟩
          · have HR := Lib.hid (show r = (-2, s) by rw [HR2.out, lookN, if_pos hb])
            have hcl := hcl.cell
            obtain ⟨z, hz⟩ : ∃ z : Int, idxN (findN s.cs a) = z := ⟨_, rfl⟩
            rw [hz] at HF2
            clear hz HR2
            have HR2 := Lib.hid (show r = (-2, s) by rw [HR.out])
            clear HR
            go_enter Try.func24, Try.ntmps24
            go_wp2_with (go_at_call 41; first | (with_reducible (refine (HF.out _ HP.out).mono ?_); rintro e w1 ⟨rfl, rfl⟩) | (with_reducible (refine (HF2.out _ HP.out).mono ?_); rintro e w1 ⟨rfl, rfl⟩))
            all_goals go_ret
            all_goals rw [HR2.out]
            all_goals exact ⟨rfl, HP.out, Near.refl S _⟩
        by_cases h5 : fn = 2214592520
        · subst h5
          clear h0 h1 h2 h3 h4 HOff
          obtain ⟨z, hz⟩ : ∃ z : Int, idxN (findN s.cs a) = z := ⟨_, rfl⟩
          rw [hz] at HF2
          clear hz
          have HD := Lib.hid (HP.out.down (by decide) 1)
          have HR2 := Lib.hid (show r = (0, ⟨offTo s.cs s.cs.length, 1⟩) by rw [offTo_all]; rw [HR.out]; rfl)
          have HL := Lib.hid (fun k => offTo_len s.cs k)
          clear HR
          obtain ⟨l, dn⟩ := s
          simp only at *
          have hfz := hcl.frozen
          have hcl := hcl.cell
          generalize hl : l.length = n at *
          clear hl
          go_enter Try.func24, Try.ntmps24
          go_wp2_with (go_at_call 41; first | (with_reducible (refine (HF.out _ HP.out).mono ?_); rintro e w1 ⟨rfl, rfl⟩) | (with_reducible (refine (HF2.out _ HP.out).mono ?_); rintro e w1 ⟨rfl, rfl⟩))
          refine wp_name ?_
          intro w1 hw1
          have HD1 : PSto w1 71 S g ⟨l, 1⟩ ∧ Near S w w1 := by rw [hw1]; exact HD.out
          clear hw1 hcl hfz hc1 HF HF2
          go_loopw [15, 132] (fun _ i wr => ∃ k : Nat, k ≤ n ∧ i = .int .i64 k ∧ PSto wr 71 S g ⟨offTo l k, 1⟩ ∧ Near S w wr) (fun _ i _ => n - (intOf i).toNat)
          case atStart => exact ⟨0, by omega, rfl, HD1.1, HD1.2⟩
          case round =>
            obtain ⟨k, hk, rfl, hp, hnr⟩ := hrel
            clear HD HD1
            by_cases hlt : k < n
            · have HSet := Lib.hid (fun W hW => off_any g S ⟨offTo l k, 1⟩ k W hW (by rw [HL.out]; exact hlt) (by rw [HL.out]; exact hn))
              rw [offTo_step] at HSet
              go_wp2_with (go_at_call 42; refine (HSet.out _ hp).mono ?_; rintro e w2 ⟨rfl, hp2, hn2⟩)
              go_roundw
              case rel => exact ⟨k + 1, by omega, by go_num, hp2, hnr.trans hn2⟩
              case measure => simp [intOf]; omega
            · obtain rfl : k = n := by omega
              go_wp2
              go_ret
              rw [HR2.out]
              exact ⟨rfl, hp, hnr⟩
        by_cases h6 : fn = 2214592521
        · subst h6
          clear h0 h1 h2 h3 h4 h5 HOff
          obtain ⟨z, hz⟩ : ∃ z : Int, idxN (findN s.cs a) = z := ⟨_, rfl⟩
          rw [hz] at HF2
          clear hz
          have HD := Lib.hid (HP.out.down (by decide) 1)
          have HR2 := Lib.hid (show r = (0, ⟨offTo s.cs s.cs.length, 2⟩) by rw [offTo_all]; rw [HR.out]; rfl)
          have HL := Lib.hid (fun k => offTo_len s.cs k)
          clear HR
          obtain ⟨l, dn⟩ := s
          simp only at *
          have hfz := hcl.frozen
          have hcl := hcl.cell
          generalize hl : l.length = n at *
          clear hl
          go_enter Try.func24, Try.ntmps24
          go_wp2_with (go_at_call 41; first | (with_reducible (refine (HF.out _ HP.out).mono ?_); rintro e w1 ⟨rfl, rfl⟩) | (with_reducible (refine (HF2.out _ HP.out).mono ?_); rintro e w1 ⟨rfl, rfl⟩))
          refine wp_name ?_
          intro w1 hw1
          have HD1 : PSto w1 71 S g ⟨l, 2⟩ ∧ Near S w w1 := by rw [hw1]; exact ⟨(HD.out.1.down (by decide) 2).1, HD.out.2.trans (HD.out.1.down (by decide) 2).2⟩
          clear hw1 hcl hfz hc1 HF HF2
          go_loopw [15, 132] (fun _ i wr => ∃ k : Nat, k ≤ n ∧ i = .int .i64 k ∧ PSto wr 71 S g ⟨offTo l k, 2⟩ ∧ Near S w wr) (fun _ i _ => n - (intOf i).toNat)
          case atStart => exact ⟨0, by omega, rfl, HD1.1, HD1.2⟩
          case round =>
            obtain ⟨k, hk, rfl, hp, hnr⟩ := hrel
            clear HD HD1
            by_cases hlt : k < n
            · have HSet := Lib.hid (fun W hW => off_any g S ⟨offTo l k, 2⟩ k W hW (by rw [HL.out]; exact hlt) (by rw [HL.out]; exact hn))
              rw [offTo_step] at HSet
              go_wp2_with (go_at_call 42; refine (HSet.out _ hp).mono ?_; rintro e w2 ⟨rfl, hp2, hn2⟩)
              go_roundw
              case rel => exact ⟨k + 1, by omega, by go_num, hp2, hnr.trans hn2⟩
              case measure => simp [intOf]; omega
            · obtain rfl : k = n := by omega
              go_wp2
              go_ret
              rw [HR2.out]
              exact ⟨rfl, hp, hnr⟩
        · have HR2 := Lib.hid (show r = (-1, s) by rw [HR.out]; simp [h0, h1, h2, h3, h4, h5, h6])
          have hcl := hcl.cell
          clear HR
          obtain ⟨z, hz⟩ : ∃ z : Int, idxN (findN s.cs a) = z := ⟨_, rfl⟩
          rw [hz] at HF2
          clear hz
          go_enter Try.func24, Try.ntmps24
          go_wp2_with (go_at_call 41; first | (with_reducible (refine (HF.out _ HP.out).mono ?_); rintro e w1 ⟨rfl, rfl⟩) | (with_reducible (refine (HF2.out _ HP.out).mono ?_); rintro e w1 ⟨rfl, rfl⟩))
          go_ret
          rw [HR2.out]
          exact ⟨rfl, HP.out, Near.refl S _⟩
end Go.Proofs.Ytebhfaadpalpbaa
