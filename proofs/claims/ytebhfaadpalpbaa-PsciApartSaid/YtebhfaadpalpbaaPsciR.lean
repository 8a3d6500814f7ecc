/- Chapter 29, the law PsciApart: its walk. -/
import Derived.Test.YtebhfaadpalpbaaPsciQ
import Derived.Deep.CutRange
namespace Go.Proofs.Ytebhfaadpalpbaa
set_option linter.unusedVariables false
open Go.RowKit Go.Sort Go.ChangeShapes Go.WideShapes

set_option maxRecDepth 100000 in
set_option maxHeartbeats 8000000 in
theorem psciApart_any (A A2 : Option Addr) (n c m c2 : Nat) (l : List Vc) (l2 : List Kl) (q : Kl) (hl : l.length = n) (hl2 : l2.length = m) (hv : ∀ v ∈ l, Vin v) (hq : (Lit.int .i64 q.cpu).wf = true) (w : World) (hr : Rd w w.heap.size 5 A n (l.flatMap encV)) (hr2 : Rd w w.heap.size 5 A2 m (l2.flatMap encK))
    (hm : n ≤ 9223372036854775807) (hm2 : m ≤ 9223372036854775807) :
    Calls Try.prog 8 #[.slice A n c, .slice A2 m c2, .agg #[.int .i64 q.cpu, .int .u32 q.fn, .int .u64 q.a, .int .u64 q.b, .int .u64 q.c]] w fun e w' => e = .returned (.bool true) ∧ Below w.heap.size w w' := by
  have HL := Lib.hid hl
  have HL2 := Lib.hid hl2
  have HR := Lib.hid hr
  have HR2 := Lib.hid hr2
  have HV := Lib.hid hv
  have HQ := Lib.hid hq
  clear hl hl2 hr hr2 hv hq
  by_cases h : n ≤ 40 ∧ m ≤ 40
  · obtain ⟨h40, h41⟩ := h
    have HLN := Lib.hid (show (newN l).length ≤ 1000 from Nat.le_trans (newN_len l) (by rw [HL.out]; omega))
    have hX := Blk.new w 68 #[.int .i64 q.cpu, .int .u32 q.fn, .int .u64 q.a, .int .u64 q.b, .int .u64 q.c]
    have hbX := bal (Below.refl w.heap.size w) (.cells #[.int .i64 q.cpu, .int .u32 q.fn, .int .u64 q.a, .int .u64 q.b, .int .u64 q.c] 68)
    have hzX : w.heap.size < (w.alloc (.cells #[.int .i64 q.cpu, .int .u32 q.fn, .int .u64 q.a, .int .u64 q.b, .int .u64 q.c] 68)).heap.size := by simp
    have HX := Lib.hid hX
    have HbX := Lib.hid hbX
    have HzX := Lib.hid hzX
    clear hX hbX hzX
    go_enter Try.func8, Try.ntmps8
    go_wp2_with (first
      | (go_at_call 12; refine (awake29_any _).mono ?_; rintro e w0 ⟨rfl, hb0⟩; have hr0 := (HR.out.below (HbX.out.trans (hb0.mono (Nat.le_of_lt HzX.out)))).more (HbX.out.trans (hb0.mono (Nat.le_of_lt HzX.out))).size)
      | (go_at_call 13; refine (new_any A n _ l _ HL.out (by omega) hr0).mono ?_; rintro e w1 ⟨g, rfl, hp1, hb1⟩))
    have hX0 := HX.out.kept hb0
    have hbw0 := HbX.out.trans (hb0.mono (Nat.le_of_lt HzX.out))
    have hX1 := hX0.kept hb1
    have hbw1 := hbw0.trans (hb1.mono hbw0.size)
    have hp3 := hp1.bound
    have hB0 : w.heap.size < w0.heap.size := Nat.lt_of_lt_of_le HzX.out hb0.size
    clear hp1 hb1 hr0 hb0
    generalize w0.heap.size = B0 at *
    generalize hB1' : w1.heap.size = B1 at hp3
    clear hX0 hbw0
    go_loopw [32] (fun i wr => ∃ k : Nat, k ≤ m ∧ i = .int .i64 k ∧ ∃ s : Pst, s.cs.map keyV = (newN l).map keyV ∧ PSto wr 89 (fun i => B0 ≤ i ∧ i < B1) g s ∧ Below w.heap.size w wr ∧ B1 ≤ wr.heap.size ∧ Blk wr w.heap.size 68 #[.int .i64 q.cpu, .int .u32 q.fn, .int .u64 q.a, .int .u64 q.b, .int .u64 q.c]) (fun i _ => m - (intOf i).toNat)
    case atStart => exact ⟨0, by omega, rfl, _, rfl, hp3, hbw1, Nat.le_of_eq hB1'.symm, hX1⟩
    case round =>
      obtain ⟨k, hk, rfl, s, hs, hp, hb, hz, hX⟩ := hrel
      clear hp3 hbw1 hB1' hX1
      have HLs := Lib.hid (show s.cs.length ≤ 1000 by rw [key_len hs]; exact HLN.out)
      have HS := Lib.hid hs
      clear hs
      by_cases hlt : k < m
      · obtain ⟨b, o, rfl, hbB, hcx⟩ := (HR2.out.below hb).row (fun _ => rfl) (k := k) (by rw [HL2.out]; exact hlt) HL2.out
        have d0 := hcx 0 (by omega)
        have d1 := hcx 1 (by omega)
        have d2 := hcx 2 (by omega)
        have d3 := hcx 3 (by omega)
        have d4 := hcx 4 (by omega)
        simp only [encK, Nat.add_zero, List.getElem?_cons_zero, List.getElem?_cons_succ] at d0 d1 d2 d3 d4
        generalize l2[k]'(by rw [HL2.out]; exact hlt) = x at *
        clear hcx
        go_wp2_with (go_at_call 15; refine (call_any g _ s x.cpu x.fn x.a x.b x.c _ (hp.kept (bal (Below.refl _ _) _)) HLs.out).mono ?_; rintro e w2 ⟨rfl, hp2, hn2⟩; have hX2 := (hX.alloc (.cells #[.int .i64 x.cpu, .int .u32 x.fn, .int .u64 x.a, .int .u64 x.b, .int .u64 x.c] 68)).same (hn2.block _ (hX.alloc _).lt (by omega)); have hb3 := (bal hb _).trans (hn2.below (fun i h => by have := h.1; omega) (bal hb _).size); have hz3 := Nat.le_trans (Nat.le_trans hz (by simp)) hn2.size)
        go_roundw
        case rel => exact ⟨k + 1, by omega, by go_num, _, (callN_key ..).trans HS.out, hp2, hb3, hz3, hX2⟩
        case measure => simp [intOf]; omega
      · obtain rfl : k = m := by omega
        clear HL2 HR2 hk hlt
        have HVs := Lib.hid (key_in HS.out (fun v hv => HV.out v (newN_sub l v hv)))
        have HA := Lib.hid (fun i hi hne => callN_apart s q.cpu q.fn q.a q.b q.c HVs.out HQ.out i hi hne)
        have HW := Lib.hid (callN_who s q.cpu q.fn q.a q.b q.c HVs.out HQ.out)
        have HK := Lib.hid (callN_key s q.cpu q.fn q.a q.b q.c)
        have HLr := Lib.hid (key_len HK.out)
        generalize hr : callN s q.cpu q.fn q.a q.b q.c = r at *
        have HRr := Lib.hid hr
        clear hr
        have hcx := hX.cell
        go_wp2_with (first
          | (go_at_call 27; first
            | (refine (cpus_any g _ r.2 _ hp5 (by rw [HLr.out]; exact HLs.out)).mono ?_; rintro e w6 ⟨v6, rfl, hown6, hb6⟩; rw [HLr.out] at hown6; obtain ⟨A6, c6, rfl, hc6, hr6⟩ := own_slice hown6)
            | (refine (cpus_any g _ s _ hp HLs.out).mono ?_; rintro e w4 ⟨v4, rfl, hown4, hb4⟩; obtain ⟨A4, c4, rfl, hc4, hr4⟩ := own_slice hown4))
          | (go_at_call 25; refine (down_any g _ _ _ (hp.kept hb4)).mono ?_; rintro e w4' ⟨rfl, rfl⟩; have hX4 := hX.kept hb4; have hcx4 := hX4.cell)
          | (go_at_call 15; refine (call_any g _ s q.cpu q.fn q.a q.b q.c _ (hp.kept hb4) HLs.out).mono ?_; rw [HRr.out]; rintro e w5 ⟨rfl, hp5, hn5⟩))
        have hX6 := (hX4.same (hn5.block _ hX4.lt (by omega))).kept hb6
        have hs4 := Nat.le_trans hz hb4.size
        have hown5 := own_same hown4 (fun k hk => hn5.block k (own_lt hown4 hk).2 (by have := (own_lt hown4 hk).1; omega))
        have hown7 := own_kept hown5 hb6
        have hb7 := (hb.trans (hb4.mono hb.size)).trans ((hn5.below (fun i h => by have := h.1; omega) (hb.trans (hb4.mono hb.size)).size).trans (hb6.mono (Nat.le_trans (hb.trans (hb4.mono hb.size)).size hn5.size)))
        have HRa := Lib.hid (Rd.of_own hown7)
        have HRb := Lib.hid hr6
        have HX6 := Lib.hid hX6
        have hxl := hX6.lt
        obtain ⟨F, hF0, hFs, hFe⟩ := any_fold s.cs fun v => v.id == q.cpu && v.on
        have HF := Lib.hid hFs
        have HFe := Lib.hid hFe
        clear hFs hFe hX hX4 hX6 hcx hcx4 hown4 hown5 hown6 hown7 hr4 hr6 hp hp5 hn5 hb4 hb6 hb hs4 hz HLN HV HL HR h40 h41 hm2 hm
        have hnn := HLs.out
        generalize hn : s.cs.length = nc at *
        have HN := Lib.hid hn
        clear hn
        go_loopw [14, 15, 74] (fun s14 _ i wr => ∃ k : Nat, k ≤ nc ∧ i = .int .i64 k ∧ s14 = .bool (F k) ∧ Below w6.heap.size w6 wr) (fun _ _ i _ => nc - (intOf i).toNat)
        case atStart => exact ⟨0, by omega, rfl, by rw [hF0], Below.refl _ _⟩
        case round =>
          obtain ⟨k, hk, rfl, rfl, hb⟩ := hrel
          by_cases hlt : k < nc
          · obtain ⟨b1, o1, rfl, hb1, hc1⟩ := (HRa.out.below hb).row (fun _ => rfl) (k := k) (by rw [HN.out]; exact hlt) HN.out
            obtain ⟨b2, o2, rfl, hb2, hc2⟩ := (HRb.out.below hb).row (fun _ => rfl) (k := k) (by rw [HLr.out]; exact hlt) HLr.out
            have hky := key_at HK.out k (by rw [HN.out]; exact hlt)
            have hap := HA.out k hlt
            have hfs := HF.out k hlt
            have g1 : s.cs.getD k zV = s.cs[k]'(by rw [HN.out]; exact hlt) := by rw [List.getD_eq_getElem?_getD, List.getElem?_eq_getElem (by rw [HN.out]; exact hlt)]; rfl
            have g2 : r.2.cs.getD k zV = r.2.cs[k]'(by rw [HLr.out]; exact hlt) := by rw [List.getD_eq_getElem?_getD, List.getElem?_eq_getElem (by rw [HLr.out]; exact hlt)]; rfl
            rw [g1, g2] at hky
            simp only [g1, g2] at hap
            rw [g1] at hfs
            have HC1 := Lib.hid (fun W (hW : Below wr.heap.size wr W) j (hj : j < 5) => (hW.cell (p := ⟨b1, o1 + k * 5 + j, none⟩) (Nat.lt_of_lt_of_le hb1 hb.size)).trans (hc1 j hj))
            have HC2 := Lib.hid (fun W (hW : Below wr.heap.size wr W) j (hj : j < 5) => (hW.cell (p := ⟨b2, o2 + k * 5 + j, none⟩) (Nat.lt_of_lt_of_le hb2 hb.size)).trans (hc2 j hj))
            have HCx := Lib.hid (fun W (hW : Below wr.heap.size wr W) => ((HX6.out.below hb hxl).kept hW).cell)
            clear hc1 hc2 g1 g2
            generalize s.cs[k]'(by rw [HN.out]; exact hlt) = v at *
            generalize r.2.cs[k]'(by rw [HLr.out]; exact hlt) = u at *
            obtain ⟨uid, uon, upc, ux0, usp⟩ := u
            obtain ⟨vid, von, vpc, vx0, vsp⟩ := v
            simp only at hky hap hfs HC1 HC2
            obtain ⟨rfl, rfl⟩ := hky
            have HFs := Lib.hid hfs
            have HAp := Lib.hid hap
            clear hfs hap
            simp only [encV] at HC1 HC2
            go_upto_region 20 with fail
            go_cut [14] from 77 to 94 (fun s14 wx => s14 = .bool (F (k + 1)) ∧ Below wr.heap.size wr wx)
            case first =>
              have d10 := HC1.out wr (Below.refl _ _) 0 (by omega)
              have d11 := HC1.out wr (Below.refl _ _) 1 (by omega)
              have d12 := HC1.out wr (Below.refl _ _) 2 (by omega)
              have d13 := HC1.out wr (Below.refl _ _) 3 (by omega)
              have d14 := HC1.out wr (Below.refl _ _) 4 (by omega)
              have d20 := HC2.out wr (Below.refl _ _) 0 (by omega)
              have d21 := HC2.out wr (Below.refl _ _) 1 (by omega)
              have d22 := HC2.out wr (Below.refl _ _) 2 (by omega)
              have d23 := HC2.out wr (Below.refl _ _) 3 (by omega)
              have d24 := HC2.out wr (Below.refl _ _) 4 (by omega)
              simp only [Nat.add_zero, List.getElem?_cons_zero, List.getElem?_cons_succ] at d10 d11 d12 d13 d14 d20 d21 d22 d23 d24
              have dx := HCx.out wr (Below.refl _ _)
              by_cases hI : uid = q.cpu
              · have e1 : (uid == q.cpu) = true := by simpa using hI
                simp only [e1] at HFs
                generalize F k = B at HFs ⊢
                clear hI
                cases B
                all_goals
                  go_quiet (fail)
                  go_wp2_with fail
                  go_meet
                all_goals exact ⟨by rw [HFs.out]; rfl, below_drewN (Below.refl _ _) _⟩
              · have e1 : (uid == q.cpu) = false := by simpa using hI
                simp only [e1] at HFs
                generalize F k = B at HFs ⊢
                clear hI
                cases B
                all_goals
                  go_quiet (fail)
                  go_wp2_with fail
                  go_meet
                all_goals exact ⟨by rw [HFs.out]; rfl, below_drewN (Below.refl _ _) _⟩
            case rest =>
              obtain ⟨rfl, hbc⟩ := hcut
              have d10 := HC1.out wc hbc 0 (by omega)
              have d11 := HC1.out wc hbc 1 (by omega)
              have d12 := HC1.out wc hbc 2 (by omega)
              have d13 := HC1.out wc hbc 3 (by omega)
              have d14 := HC1.out wc hbc 4 (by omega)
              have d20 := HC2.out wc hbc 0 (by omega)
              have d21 := HC2.out wc hbc 1 (by omega)
              have d22 := HC2.out wc hbc 2 (by omega)
              have d23 := HC2.out wc hbc 3 (by omega)
              have d24 := HC2.out wc hbc 4 (by omega)
              simp only [Nat.add_zero, List.getElem?_cons_zero, List.getElem?_cons_succ] at d10 d11 d12 d13 d14 d20 d21 d22 d23 d24
              have dx := HCx.out wc hbc
              go_wp2_with fail
              go_quiet (fail)
              have hbd := below_drewN hbc nq
              generalize wc.drewN nq = wd at *
              clear d10 d11 d12 d13 d14 d20 d21 d22 d23 d24 dx hbc
              obtain ⟨O, hO⟩ : ∃ O : Bool, O = ((uid == q.cpu) && (q.fn == 2214592514)) := ⟨_, rfl⟩
              obtain ⟨T, hT⟩ : ∃ T : Bool, T = ((IntKind.u64.wrap uid == q.a) && (q.fn == 3288334339)) := ⟨_, rfl⟩
              have HO := Lib.hid hO
              have HT := Lib.hid hT
              clear hO hT
              go_upto_region 23 with fail
              go_cut [16] from 119 to 131 (fun s16 wx => s16 = .bool O ∧ Below wr.heap.size wr wx)
              case first =>
                have d10 := HC1.out wd hbd 0 (by omega)
                have d11 := HC1.out wd hbd 1 (by omega)
                have d12 := HC1.out wd hbd 2 (by omega)
                have d13 := HC1.out wd hbd 3 (by omega)
                have d14 := HC1.out wd hbd 4 (by omega)
                have d20 := HC2.out wd hbd 0 (by omega)
                have d21 := HC2.out wd hbd 1 (by omega)
                have d22 := HC2.out wd hbd 2 (by omega)
                have d23 := HC2.out wd hbd 3 (by omega)
                have d24 := HC2.out wd hbd 4 (by omega)
                simp only [Nat.add_zero, List.getElem?_cons_zero, List.getElem?_cons_succ] at d10 d11 d12 d13 d14 d20 d21 d22 d23 d24
                have dx := HCx.out wd hbd
                by_cases hI : uid = q.cpu
                · have e1 : (uid == q.cpu) = true := by simpa using hI
                  simp only [e1] at HO
                  clear hI
                  go_quiet (fail)
                  go_wp2_with fail
                  go_meet
                  exact ⟨by rw [HO.out]; rfl, below_drewN hbd _⟩
                · have e1 : (uid == q.cpu) = false := by simpa using hI
                  simp only [e1] at HO
                  clear hI
                  go_quiet (fail)
                  go_wp2_with fail
                  go_meet
                  exact ⟨by rw [HO.out]; rfl, below_drewN hbd _⟩
              case rest =>
                obtain ⟨rfl, hbc⟩ := hcut
                clear hbd
                go_upto_region 24 with fail
                go_cut [17] from 132 to 145 (fun s17 wx => s17 = .bool T ∧ Below wr.heap.size wr wx)
                case first =>
                  have d10 := HC1.out wc hbc 0 (by omega)
                  have d11 := HC1.out wc hbc 1 (by omega)
                  have d12 := HC1.out wc hbc 2 (by omega)
                  have d13 := HC1.out wc hbc 3 (by omega)
                  have d14 := HC1.out wc hbc 4 (by omega)
                  have d20 := HC2.out wc hbc 0 (by omega)
                  have d21 := HC2.out wc hbc 1 (by omega)
                  have d22 := HC2.out wc hbc 2 (by omega)
                  have d23 := HC2.out wc hbc 3 (by omega)
                  have d24 := HC2.out wc hbc 4 (by omega)
                  simp only [Nat.add_zero, List.getElem?_cons_zero, List.getElem?_cons_succ] at d10 d11 d12 d13 d14 d20 d21 d22 d23 d24
                  have dx := HCx.out wc hbc
                  by_cases hI : IntKind.u64.wrap uid = q.a
                  · have e1 : (IntKind.u64.wrap uid == q.a) = true := by simpa using hI
                    simp only [e1] at HT
                    clear hI
                    go_quiet (fail)
                    go_wp2_with fail
                    go_meet
                    exact ⟨by rw [HT.out]; rfl, below_drewN hbc _⟩
                  · have e1 : (IntKind.u64.wrap uid == q.a) = false := by simpa using hI
                    simp only [e1] at HT
                    clear hI
                    go_quiet (fail)
                    go_wp2_with fail
                    go_meet
                    exact ⟨by rw [HT.out]; rfl, below_drewN hbc _⟩
                case rest =>
                  obtain ⟨rfl, hbe⟩ := hcut
                  clear hbc
                  have hq2 := fun w => vcpu_neq w ⟨uid, uon, upc, ux0, usp⟩ ⟨uid, von, vpc, vx0, usp⟩
                  have d10 := HC1.out _ hbe 0 (by omega)
                  have d11 := HC1.out _ hbe 1 (by omega)
                  have d12 := HC1.out _ hbe 2 (by omega)
                  have d13 := HC1.out _ hbe 3 (by omega)
                  have d14 := HC1.out _ hbe 4 (by omega)
                  have d20 := HC2.out _ hbe 0 (by omega)
                  have d21 := HC2.out _ hbe 1 (by omega)
                  have d22 := HC2.out _ hbe 2 (by omega)
                  have d23 := HC2.out _ hbe 3 (by omega)
                  have d24 := HC2.out _ hbe 4 (by omega)
                  simp only [Nat.add_zero, List.getElem?_cons_zero, List.getElem?_cons_succ] at d10 d11 d12 d13 d14 d20 d21 d22 d23 d24
                  have dx := HCx.out _ hbe
                  by_cases hD : (⟨uid, uon, upc, ux0, usp⟩ : Vc) = ⟨uid, von, vpc, vx0, usp⟩
                  · rw [decide_eq_true hD] at hq2
                    clear hD
                    go_wp2_with fail
                    go_quiet (fail)
                    go_wp2_with fail
                    go_roundw
                    case rel => exact ⟨k + 1, by omega, by go_num, rfl, hb.trans ((below_drewN hbe _).mono hb.size)⟩
                    case measure => simp [intOf]; omega
                  · rw [decide_eq_false hD] at hq2
                    have hap := HAp.out hD
                    clear hD
                    cases O
                    case true =>
                      clear hap
                      go_wp2_with fail
                      go_quiet (fail)
                      go_wp2_with fail
                      go_roundw
                      case rel => exact ⟨k + 1, by omega, by go_num, rfl, hb.trans ((below_drewN hbe _).mono hb.size)⟩
                      case measure => simp [intOf]; omega
                    case false =>
                      cases T
                      case true =>
                        clear hap
                        go_wp2_with fail
                        go_quiet (fail)
                        go_wp2_with fail
                        go_roundw
                        case rel => exact ⟨k + 1, by omega, by go_num, rfl, hb.trans ((below_drewN hbe _).mono hb.size)⟩
                        case measure => simp [intOf]; omega
                      case false =>
                        have hff : (q.fn = 2214592520 ∨ q.fn = 2214592521) := by
                          rcases hap with ⟨h1, h2⟩ | ⟨h1, h2⟩ | h
                          · have := HO.out
                            simp [h1, h2] at this
                          · have := HT.out
                            simp [h1, h2] at this
                          · exact h
                        clear hap
                        rcases hff with hf | hf
                        · rw [hf] at dx
                          clear hf
                          go_wp2_with fail
                          go_quiet (fail)
                          go_wp2_with fail
                          go_roundw
                          case rel => exact ⟨k + 1, by omega, by go_num, rfl, hb.trans ((below_drewN hbe _).mono hb.size)⟩
                          case measure => simp [intOf]; omega
                        · rw [hf] at dx
                          clear hf
                          go_wp2_with fail
                          go_quiet (fail)
                          go_wp2_with fail
                          go_roundw
                          case rel => exact ⟨k + 1, by omega, by go_num, rfl, hb.trans ((below_drewN hbe _).mono hb.size)⟩
                          case measure => simp [intOf]; omega
          · obtain rfl : k = nc := by omega
            have HRa2 := (HRa.out.below hb).more hb.size
            have HRb2 := (HRb.out.below hb).more hb.size
            have HbZ := Lib.hid (hb7.trans (hb.mono hb7.size))
            rw [HFe.out]
            have hw := HW.out
            generalize (s.cs.any fun v => v.id == q.cpu && v.on) = B at *
            rcases hw with ⟨hd, hB⟩ | hre
            · subst hB
              rw [hd]
              clear hd
              go_wp2_with fail
              go_ret
              exact ⟨rfl, HbZ.out⟩
            · rw [hre] at HRb2 HLr ⊢
              clear hre
              simp only at HRb2 ⊢
              generalize s.down = d at *
              by_cases hd : d = 0
              · subst hd
                cases B
                all_goals
                  go_wp2_with (go_at_call 26; refine (sameVcpus_any A4 A6 k k c4 c6 s.cs s.cs _ HN.out HN.out (by omega) (by omega) HRa2 HRb2).mono ?_; rintro e w7 ⟨rfl, hb8⟩; have HbZ := Lib.hid (HbZ.out.trans (hb8.mono HbZ.out.size)))
                  go_ret
                  exact ⟨by simp, HbZ.out⟩
              · have hd' : (d == 0) = false := by simpa using hd
                cases B
                all_goals
                  go_wp2_with (go_at_call 26; refine (sameVcpus_any A4 A6 k k c4 c6 s.cs s.cs _ HN.out HN.out (by omega) (by omega) HRa2 HRb2).mono ?_; rintro e w7 ⟨rfl, hb8⟩; have HbZ := Lib.hid (HbZ.out.trans (hb8.mono HbZ.out.size)))
                  go_ret
                  exact ⟨by simp, HbZ.out⟩
  · have H := Lib.hid h
    clear h
    go_enter Try.func8, Try.ntmps8
    go_wp2_with (first
      | (go_at_call 12; refine (awake29_any _).mono ?_; rintro e w0 ⟨rfl, hb0⟩)
      | (go_at_call 13; exfalso; refine H.out ?_; omega))
    all_goals (go_ret; exact ⟨rfl, (bal (Below.refl _ _) _).trans (hb0.mono (by simp))⟩)

set_option maxRecDepth 100000 in
theorem psciApart_law : LawWalk Try.prog 8 Try.f8 := by
  intro H enc W base args ds p hval hA hlt hfz hsz
  rw [Try.params8] at hA hval
  obtain ⟨v0, v1, v2, d0, d1, d2, p0, p1, p2, rfl, rfl, rfl, h0, h1, h2⟩ := trodAll_three hA
  obtain ⟨A, n, c, xss, rfl, hnc, hm, hx, hok, hr⟩ := open_rows Try.underlying27 flat_vcpu (by kernel_rfl) (by decide) (hval 0 27 v0 rfl rfl) h0 (fun x hx => hlt x (by simp [hx]))
  obtain ⟨l, hl, hf, hv⟩ := list_of_rows (enc := encV) (ok := Vin) xss (fun xs hxs => by obtain ⟨p, rfl, hp⟩ := flat_v (hok xs hxs); exact ⟨p, rfl, hp⟩)
  rw [hf] at hr
  obtain ⟨A2, n2, c2, yss, rfl, hnc2, hcm2, hx2, hok2, hr2⟩ := open_rows Try.underlying64 flat_call (by kernel_rfl) (by decide) (hval 1 64 v1 rfl rfl) h1 (fun x hx => hlt x (by simp [hx]))
  obtain ⟨l2, hl2, hf2, _⟩ := list_of_rows (enc := encK) (ok := fun _ => True) yss (fun xs hxs => by obtain ⟨p, rfl⟩ := flat_k (hok2 xs hxs); exact ⟨p, rfl, trivial⟩)
  rw [hf2] at hr2
  obtain ⟨cs, rfl, hc⟩ := open_flat flat_call (by kernel_rfl) (hval 2 68 v2 rfl rfl) h2
  obtain ⟨q, rfl, hq⟩ : ∃ p : Kl, cs = encK p ∧ (Lit.int .i64 p.cpu).wf = true := by
    match cs, hc with
    | [.int _ a, .int _ b, .int _ c, .int _ d, .int _ e], ⟨rfl, wa, rfl, wb, rfl, wc, rfl, wd, rfl, we, _⟩ => exact ⟨⟨a, b, c, d, e⟩, rfl, wa⟩
  exact psciApart_any A A2 n c n2 c2 l l2 q (hl.trans hx) (hl2.trans hx2) hv hq W hr hr2 (maxLen_le (Nat.le_trans hnc hm)) (maxLen_le (Nat.le_trans hnc2 hcm2))
theorem psciApart_proved : Rows.PsciApartSaid :=
  OpenClaim.holds_of_wide 8 Try.f8 rfl rfl rfl rfl rfl rfl rfl ⟨rfl, rfl, rfl, rfl, rfl⟩ rfl rfl rfl rfl rfl (by kernel_rfl) Try.func8 (by kernel_rfl)
    (of_decide_eq_true (by kernel_rfl)) (by unfold Func.isWrapper; rw [if_neg (of_decide_eq_false (by kernel_rfl))]; exact ⟨rfl, rfl⟩)
    (fun os started H enc _ => law_lifted (C := Try.checked) (s := Rows.psciApartSpec) started own laidOut (by kernel_rfl) Try.func8 rfl (n := 3) (by kernel_rfl) (fun ds h => by match ds, h with | [_, _, _], _ => rfl) (tb := 4) (by kernel_rfl) Try.underlying4 (by kernel_rfl)
      (ChangeSpec.witness6 (enc := enc) (C := Try.checked) false ⟨#[], #[.slice none 0 0, .slice none 0 0, .agg #[.int .i64 0, .int .u32 0, .int .u64 0, .int .u64 0, .int .u64 0]], []⟩ 8 (by kernel_rfl) (by kernel_rfl) (by kernel_rfl) (by kernel_rfl)) psciApart_law)
end Go.Proofs.Ytebhfaadpalpbaa
