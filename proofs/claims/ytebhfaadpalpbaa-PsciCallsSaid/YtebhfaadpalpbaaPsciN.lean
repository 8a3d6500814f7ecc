/- Chapter 29, the law PsciDown: its walk. -/
import Derived.Test.YtebhfaadpalpbaaPsciM
namespace Go.Proofs.Ytebhfaadpalpbaa
set_option linter.unusedVariables false
open Go.RowKit Go.Sort Go.ChangeShapes Go.WideShapes

/-- A call of a processor. -/
structure Kl where
  cpu : Int
  fn : Int
  a : Int
  b : Int
  c : Int
def encK (x : Kl) : List Value := [.int .i64 x.cpu, .int .u32 x.fn, .int .u64 x.a, .int .u64 x.b, .int .u64 x.c]
theorem callN_off (cs : List Vc) (cpu a b c : Int) : callN ⟨cs, 0⟩ cpu 2214592520 a b c = (-3, ⟨cs, 0⟩) ∨ callN ⟨cs, 0⟩ cpu 2214592520 a b c = (0, ⟨cs.map offV, 1⟩) := by
  unfold callN
  simp only [ne_eq, not_true_eq_false, if_false]
  split
  · exact .inl rfl
  · split
    · exact .inl rfl
    · exact .inr rfl
theorem callN_reset (cs : List Vc) (cpu a b c : Int) : callN ⟨cs, 0⟩ cpu 2214592521 a b c = (-3, ⟨cs, 0⟩) ∨ callN ⟨cs, 0⟩ cpu 2214592521 a b c = (0, ⟨cs.map offV, 2⟩) := by
  unfold callN
  simp only [ne_eq, not_true_eq_false, if_false]
  split
  · exact .inl rfl
  · split
    · exact .inl rfl
    · exact .inr rfl
theorem callN_down (cs : List Vc) (d cpu fn a b c : Int) (hd : d ≠ 0) : callN ⟨cs, d⟩ cpu fn a b c = (-3, ⟨cs, d⟩) := by
  unfold callN
  rw [if_pos hd]
theorem flat_k {cs : List Value} (h : FlatOk [.int .i64, .int .u32, .int .u64, .int .u64, .int .u64] cs) : ∃ p : Kl, cs = encK p := by
  match cs, h with
  | [.int _ a, .int _ b, .int _ c, .int _ d, .int _ e], ⟨rfl, wa, rfl, wb, rfl, wc, rfl, wd, rfl, we, _⟩ => exact ⟨⟨a, b, c, d, e⟩, rfl⟩
theorem flat_v {cs : List Value} (h : FlatOk [.int .i64, .bool, .int .u64, .int .u64, .int .u64] cs) : ∃ p : Vc, cs = encV p ∧ (Lit.int .i64 p.id).wf = true := by
  match cs, h with
  | [.int _ a, .bool b, .int _ c, .int _ d, .int _ e], ⟨rfl, wa, rfl, wc, rfl, wd, rfl, we, _⟩ => exact ⟨⟨a, b, c, d, e⟩, rfl, wa⟩
theorem flat_call : flatOf Try.prog 5 68 = some [.int .i64, .int .u32, .int .u64, .int .u64, .int .u64] := by kernel_rfl

set_option maxRecDepth 100000 in
set_option maxHeartbeats 4000000 in
theorem psciDown_any (A A2 : Option Addr) (n c m c2 : Nat) (l : List Vc) (l2 : List Kl) (cpu : Int) (again : Bool) (hl : l.length = n) (hl2 : l2.length = m) (w : World) (hr : Rd w w.heap.size 5 A n (l.flatMap encV)) (hr2 : Rd w w.heap.size 5 A2 m (l2.flatMap encK))
    (hm : n ≤ 9223372036854775807) (hm2 : m ≤ 9223372036854775807) :
    Calls Try.prog 9 #[.slice A n c, .int .i64 cpu, .bool again, .slice A2 m c2] w fun e w' => e = .returned (.bool true) ∧ Below w.heap.size w w' := by
  have HL := Lib.hid hl
  have HL2 := Lib.hid hl2
  have HR := Lib.hid hr
  have HR2 := Lib.hid hr2
  clear hl hl2 hr hr2
  by_cases h : n ≤ 40 ∧ m ≤ 40
  · obtain ⟨h40, h41⟩ := h
    have HLN := Lib.hid (show (newN l).length ≤ 1000 from Nat.le_trans (newN_len l) (by rw [HL.out]; omega))
    cases again
    · have hc := callN_off (newN l) cpu 0 0 0
      rcases hc with hc | hc
      · have HC := Lib.hid hc
        clear hc
        go_enter Try.func9, Try.ntmps9
        go_wp2_with (first
          | (go_at_call 12; refine (awake29_any _).mono ?_; rintro e w0 ⟨rfl, hb0⟩; have hr0 := (HR.out.below hb0).more hb0.size)
          | (go_at_call 13; refine (new_any A n _ l _ HL.out (by omega) hr0).mono ?_; rintro e w1 ⟨g, rfl, hp1, hb1⟩)
          | (go_at_call 15; refine (call_any g _ ⟨newN l, 0⟩ cpu _ _ _ _ _ hp1 HLN.out).mono ?_; rw [HC.out]; rintro e w2 ⟨rfl, hp2, hn2⟩; have hb2 := hb0.trans ((hb1.trans (hn2.below (fun _ h => h) hb1.size)).mono hb0.size))
          | (go_at_call 25; refine (down_any g _ _ _ hp2).mono ?_; rintro e w3 ⟨rfl, rfl⟩))
        go_ret
        exact ⟨rfl, hb2⟩
      · have HC := Lib.hid hc
        clear hc
        go_enter Try.func9, Try.ntmps9
        go_wp2_with (first
          | (go_at_call 12; refine (awake29_any _).mono ?_; rintro e w0 ⟨rfl, hb0⟩; have hr0 := (HR.out.below hb0).more hb0.size)
          | (go_at_call 13; refine (new_any A n _ l _ HL.out (by omega) hr0).mono ?_; rintro e w1 ⟨g, rfl, hp1, hb1⟩)
          | (go_at_call 15; refine (call_any g _ ⟨newN l, 0⟩ cpu _ _ _ _ _ hp1 HLN.out).mono ?_; rw [HC.out]; rintro e w2 ⟨rfl, hp2, hn2⟩; have hb2 := hb0.trans ((hb1.trans (hn2.below (fun _ h => h) hb1.size)).mono hb0.size))
          | (go_at_call 25; refine (down_any g _ _ _ hp2).mono ?_; rintro e w3 ⟨rfl, rfl⟩))
        have hd : (1 : Int) ≠ 0 := by decide
        have hp3 := hp2.bound
        have hB0 := hb0.size
        generalize w0.heap.size = B0 at *
        generalize hB1' : w2.heap.size = B1 at hp3
        clear hp1 hp2 hn2 hb1 hb0
        go_loopw [40] (fun i wr => ∃ k : Nat, k ≤ m ∧ i = .int .i64 k ∧ PSto wr 89 (fun i => B0 ≤ i ∧ i < B1) g ⟨(newN l).map offV, 1⟩ ∧ Below w.heap.size w wr ∧ B1 ≤ wr.heap.size ∧ w.heap.size ≤ B0) (fun i _ => m - (intOf i).toNat)
        case atStart => exact ⟨0, by omega, rfl, hp3, hb2, Nat.le_of_eq hB1'.symm, hB0⟩
        case round =>
          obtain ⟨k, hk, rfl, hp, hb, hz, hB0'⟩ := hrel
          clear hp3 hb2 hB1' hB0
          by_cases hlt : k < m
          · obtain ⟨b, o, rfl, hbB, hcx⟩ := (HR2.out.below hb).row (fun _ => rfl) (k := k) (by rw [HL2.out]; exact hlt) HL2.out
            have d0 := hcx 0 (by omega)
            have d1 := hcx 1 (by omega)
            have d2 := hcx 2 (by omega)
            have d3 := hcx 3 (by omega)
            have d4 := hcx 4 (by omega)
            simp only [encK, Nat.add_zero, List.getElem?_cons_zero, List.getElem?_cons_succ] at d0 d1 d2 d3 d4
            generalize l2[k]'(by rw [HL2.out]; exact hlt) = x at *
            clear hcx
            have HCa := Lib.hid (fun (W : World) (hW : PSto W 89 (fun i => B0 ≤ i ∧ i < B1) g ⟨(newN l).map offV, 1⟩) => call_any g (fun i => B0 ≤ i ∧ i < B1) ⟨(newN l).map offV, 1⟩ x.cpu x.fn x.a x.b x.c W hW (by simpa using HLN.out))
            rw [callN_down _ _ _ _ _ _ _ hd] at HCa
            go_wp2_with (go_at_call 15; first
              | (with_reducible (refine (callNone_any _ _ _ _ _ _).mono ?_); rintro e w3 ⟨rfl, rfl⟩)
              | (with_reducible (refine (HCa.out _ (hp.kept (bal (Below.refl _ _) _))).mono ?_); rintro e w2 ⟨rfl, hp2, hn2⟩; have hBx := (Blk.new wr 68 #[.int .i64 x.cpu, .int .u32 x.fn, .int .u64 x.a, .int .u64 x.b, .int .u64 x.c]).same (hn2.block _ (by simp) (by omega)); have hcx := hBx.cell; have hb3 := (bal hb _).trans (hn2.below (fun i h => by have := h.1; omega) (bal hb _).size); have hz3 := Nat.le_trans (Nat.le_trans hz (by simp)) hn2.size))
            go_roundw
            case rel => exact ⟨k + 1, by omega, by go_num, hp2, hb3, hz3, hB0'⟩
            case measure => simp [intOf]; omega
          · obtain rfl : k = m := by omega
            have hLo : ((newN l).map offV).length ≤ 1000 := by simpa using HLN.out
            generalize hcs : (newN l).map offV = cs at *
            have HOff := Lib.hid (show ∀ v ∈ cs, v.on = false ∧ v.pc = 0 ∧ v.x0 = 0 from fun v hv => by
              rw [← hcs] at hv
              obtain ⟨u, _, rfl⟩ := List.mem_map.1 hv
              exact ⟨rfl, rfl, rfl⟩)
            clear hcs
            generalize hnc : cs.length = nc at *
            have HNC := Lib.hid hnc
            go_wp2_with (go_at_call 27; refine (cpus_any g _ _ _ hp (by show cs.length ≤ 1000; omega)).mono ?_; rintro e w4 ⟨v4, rfl, hown4, hb4⟩; simp only [HNC.out] at hown4; obtain ⟨A4, c4, rfl, hc4, hr4⟩ := own_slice hown4)
            have HR4 := Lib.hid hr4
            have hp4 := hp.kept hb4
            have hb5 := hb.trans (hb4.mono hb.size)
            clear hr4 hown4 hp hb hb4 hz hnc
            go_loopw [76] (fun i wr => ∃ k : Nat, k ≤ nc ∧ i = .int .i64 k ∧ Below w4.heap.size w4 wr) (fun i _ => nc - (intOf i).toNat)
            case atStart => exact ⟨0, by omega, rfl, Below.refl _ _⟩
            case round =>
              obtain ⟨k, hk, rfl, hb⟩ := hrel
              by_cases hlt : k < nc
              · obtain ⟨b, o, rfl, hbB, hcx⟩ := (HR4.out.below hb).row (fun _ => rfl) (k := k) (by rw [HNC.out]; exact hlt) HNC.out
                have hm := HOff.out _ (List.getElem_mem (l := cs) (n := k) (by rw [HNC.out]; exact hlt))
                have d0 := hcx 0 (by omega)
                have d1 := hcx 1 (by omega)
                have d2 := hcx 2 (by omega)
                have d3 := hcx 3 (by omega)
                have d4 := hcx 4 (by omega)
                simp only [encV, Nat.add_zero, List.getElem?_cons_zero, List.getElem?_cons_succ, hm.1, hm.2.1, hm.2.2] at d0 d1 d2 d3 d4
                clear hm hcx
                generalize cs[k]'(by rw [HNC.out]; exact hlt) = v at *
                go_wp2
                go_roundw
                case rel => exact ⟨k + 1, by omega, by go_num, bal hb _⟩
                case measure => simp [intOf]; omega
              · obtain rfl : k = nc := by omega
                go_wp2_with (first
                  | (go_at_call 25; first
                    | (with_reducible (refine (downNone_any _).mono ?_); rintro e w7 ⟨rfl, rfl⟩)
                    | (refine (down_any g _ _ _ (hp4.kept hb)).mono ?_; rintro e w6 ⟨rfl, rfl⟩))
                  | (go_at_call 27; refine (cpusNone_any _).mono ?_; rintro e w8 ⟨rfl, rfl⟩))
                go_ret
                exact ⟨rfl, hb5.trans (hb.mono hb5.size)⟩
    · have hc := callN_reset (newN l) cpu 0 0 0
      rcases hc with hc | hc
      · have HC := Lib.hid hc
        clear hc
        go_enter Try.func9, Try.ntmps9
        go_wp2_with (first
          | (go_at_call 12; refine (awake29_any _).mono ?_; rintro e w0 ⟨rfl, hb0⟩; have hr0 := (HR.out.below hb0).more hb0.size)
          | (go_at_call 13; refine (new_any A n _ l _ HL.out (by omega) hr0).mono ?_; rintro e w1 ⟨g, rfl, hp1, hb1⟩)
          | (go_at_call 15; refine (call_any g _ ⟨newN l, 0⟩ cpu _ _ _ _ _ hp1 HLN.out).mono ?_; rw [HC.out]; rintro e w2 ⟨rfl, hp2, hn2⟩; have hb2 := hb0.trans ((hb1.trans (hn2.below (fun _ h => h) hb1.size)).mono hb0.size))
          | (go_at_call 25; refine (down_any g _ _ _ hp2).mono ?_; rintro e w3 ⟨rfl, rfl⟩))
        go_ret
        exact ⟨rfl, hb2⟩
      · have HC := Lib.hid hc
        clear hc
        go_enter Try.func9, Try.ntmps9
        go_wp2_with (first
          | (go_at_call 12; refine (awake29_any _).mono ?_; rintro e w0 ⟨rfl, hb0⟩; have hr0 := (HR.out.below hb0).more hb0.size)
          | (go_at_call 13; refine (new_any A n _ l _ HL.out (by omega) hr0).mono ?_; rintro e w1 ⟨g, rfl, hp1, hb1⟩)
          | (go_at_call 15; refine (call_any g _ ⟨newN l, 0⟩ cpu _ _ _ _ _ hp1 HLN.out).mono ?_; rw [HC.out]; rintro e w2 ⟨rfl, hp2, hn2⟩; have hb2 := hb0.trans ((hb1.trans (hn2.below (fun _ h => h) hb1.size)).mono hb0.size))
          | (go_at_call 25; refine (down_any g _ _ _ hp2).mono ?_; rintro e w3 ⟨rfl, rfl⟩))
        have hd : (2 : Int) ≠ 0 := by decide
        have hp3 := hp2.bound
        have hB0 := hb0.size
        generalize w0.heap.size = B0 at *
        generalize hB1' : w2.heap.size = B1 at hp3
        clear hp1 hp2 hn2 hb1 hb0
        go_loopw [40] (fun i wr => ∃ k : Nat, k ≤ m ∧ i = .int .i64 k ∧ PSto wr 89 (fun i => B0 ≤ i ∧ i < B1) g ⟨(newN l).map offV, 2⟩ ∧ Below w.heap.size w wr ∧ B1 ≤ wr.heap.size ∧ w.heap.size ≤ B0) (fun i _ => m - (intOf i).toNat)
        case atStart => exact ⟨0, by omega, rfl, hp3, hb2, Nat.le_of_eq hB1'.symm, hB0⟩
        case round =>
          obtain ⟨k, hk, rfl, hp, hb, hz, hB0'⟩ := hrel
          clear hp3 hb2 hB1' hB0
          by_cases hlt : k < m
          · obtain ⟨b, o, rfl, hbB, hcx⟩ := (HR2.out.below hb).row (fun _ => rfl) (k := k) (by rw [HL2.out]; exact hlt) HL2.out
            have d0 := hcx 0 (by omega)
            have d1 := hcx 1 (by omega)
            have d2 := hcx 2 (by omega)
            have d3 := hcx 3 (by omega)
            have d4 := hcx 4 (by omega)
            simp only [encK, Nat.add_zero, List.getElem?_cons_zero, List.getElem?_cons_succ] at d0 d1 d2 d3 d4
            generalize l2[k]'(by rw [HL2.out]; exact hlt) = x at *
            clear hcx
            have HCa := Lib.hid (fun (W : World) (hW : PSto W 89 (fun i => B0 ≤ i ∧ i < B1) g ⟨(newN l).map offV, 2⟩) => call_any g (fun i => B0 ≤ i ∧ i < B1) ⟨(newN l).map offV, 2⟩ x.cpu x.fn x.a x.b x.c W hW (by simpa using HLN.out))
            rw [callN_down _ _ _ _ _ _ _ hd] at HCa
            go_wp2_with (go_at_call 15; first
              | (with_reducible (refine (callNone_any _ _ _ _ _ _).mono ?_); rintro e w3 ⟨rfl, rfl⟩)
              | (with_reducible (refine (HCa.out _ (hp.kept (bal (Below.refl _ _) _))).mono ?_); rintro e w2 ⟨rfl, hp2, hn2⟩; have hBx := (Blk.new wr 68 #[.int .i64 x.cpu, .int .u32 x.fn, .int .u64 x.a, .int .u64 x.b, .int .u64 x.c]).same (hn2.block _ (by simp) (by omega)); have hcx := hBx.cell; have hb3 := (bal hb _).trans (hn2.below (fun i h => by have := h.1; omega) (bal hb _).size); have hz3 := Nat.le_trans (Nat.le_trans hz (by simp)) hn2.size))
            go_roundw
            case rel => exact ⟨k + 1, by omega, by go_num, hp2, hb3, hz3, hB0'⟩
            case measure => simp [intOf]; omega
          · obtain rfl : k = m := by omega
            have hLo : ((newN l).map offV).length ≤ 1000 := by simpa using HLN.out
            generalize hcs : (newN l).map offV = cs at *
            have HOff := Lib.hid (show ∀ v ∈ cs, v.on = false ∧ v.pc = 0 ∧ v.x0 = 0 from fun v hv => by
              rw [← hcs] at hv
              obtain ⟨u, _, rfl⟩ := List.mem_map.1 hv
              exact ⟨rfl, rfl, rfl⟩)
            clear hcs
            generalize hnc : cs.length = nc at *
            have HNC := Lib.hid hnc
            go_wp2_with (go_at_call 27; refine (cpus_any g _ _ _ hp (by show cs.length ≤ 1000; omega)).mono ?_; rintro e w4 ⟨v4, rfl, hown4, hb4⟩; simp only [HNC.out] at hown4; obtain ⟨A4, c4, rfl, hc4, hr4⟩ := own_slice hown4)
            have HR4 := Lib.hid hr4
            have hp4 := hp.kept hb4
            have hb5 := hb.trans (hb4.mono hb.size)
            clear hr4 hown4 hp hb hb4 hz hnc
            go_loopw [76] (fun i wr => ∃ k : Nat, k ≤ nc ∧ i = .int .i64 k ∧ Below w4.heap.size w4 wr) (fun i _ => nc - (intOf i).toNat)
            case atStart => exact ⟨0, by omega, rfl, Below.refl _ _⟩
            case round =>
              obtain ⟨k, hk, rfl, hb⟩ := hrel
              by_cases hlt : k < nc
              · obtain ⟨b, o, rfl, hbB, hcx⟩ := (HR4.out.below hb).row (fun _ => rfl) (k := k) (by rw [HNC.out]; exact hlt) HNC.out
                have hm := HOff.out _ (List.getElem_mem (l := cs) (n := k) (by rw [HNC.out]; exact hlt))
                have d0 := hcx 0 (by omega)
                have d1 := hcx 1 (by omega)
                have d2 := hcx 2 (by omega)
                have d3 := hcx 3 (by omega)
                have d4 := hcx 4 (by omega)
                simp only [encV, Nat.add_zero, List.getElem?_cons_zero, List.getElem?_cons_succ, hm.1, hm.2.1, hm.2.2] at d0 d1 d2 d3 d4
                clear hm hcx
                generalize cs[k]'(by rw [HNC.out]; exact hlt) = v at *
                go_wp2
                go_roundw
                case rel => exact ⟨k + 1, by omega, by go_num, bal hb _⟩
                case measure => simp [intOf]; omega
              · obtain rfl : k = nc := by omega
                go_wp2_with (first
                  | (go_at_call 25; first
                    | (with_reducible (refine (downNone_any _).mono ?_); rintro e w7 ⟨rfl, rfl⟩)
                    | (refine (down_any g _ _ _ (hp4.kept hb)).mono ?_; rintro e w6 ⟨rfl, rfl⟩))
                  | (go_at_call 27; refine (cpusNone_any _).mono ?_; rintro e w8 ⟨rfl, rfl⟩))
                go_ret
                exact ⟨rfl, hb5.trans (hb.mono hb5.size)⟩
  · have H := Lib.hid h
    clear h
    go_enter Try.func9, Try.ntmps9
    go_wp2_with (first
      | (go_at_call 12; refine (awake29_any _).mono ?_; rintro e w0 ⟨rfl, hb0⟩)
      | (go_at_call 13; exfalso; refine H.out ?_; omega))
    all_goals (go_ret; exact ⟨rfl, hb0⟩)

theorem maxLen_le {n : Nat} (h : n ≤ maxLen) : n ≤ 9223372036854775807 := by unfold maxLen at h; exact h
set_option maxRecDepth 100000 in
theorem psciDown_law : LawWalk Try.prog 9 Try.f9 := by
  intro H enc W base args ds p hval hA hlt hfz hsz
  rw [Try.params9] at hA hval
  obtain ⟨v0, v1, v2, v3, d0, d1, d2, d3, p0, p1, p2, p3, rfl, rfl, rfl, h0, h1, h2, h3⟩ := trodAll_four hA
  obtain ⟨A, n, c, xss, rfl, hnc, hm, hx, hok, hr⟩ := open_rows Try.underlying27 flat_vcpu (by kernel_rfl) (by decide) (hval 0 27 v0 rfl rfl) h0 (fun x hx => hlt x (by simp [hx]))
  obtain ⟨l, hl, hf, _⟩ := list_of_rows (enc := encV) (ok := fun _ => True) xss (fun xs hxs => by obtain ⟨p, rfl, _⟩ := flat_v (hok xs hxs); exact ⟨p, rfl, trivial⟩)
  rw [hf] at hr
  obtain ⟨i, rfl, rfl, rfl, wi⟩ := open_int Try.underlying3 (hval 1 3 v1 rfl rfl) h1
  obtain ⟨b, rfl, rfl, rfl⟩ := open_bool Try.underlying4 (hval 2 4 v2 rfl rfl) h2
  obtain ⟨A2, n2, c2, yss, rfl, hnc2, hcm2, hx2, hok2, hr2⟩ := open_rows Try.underlying64 flat_call (by kernel_rfl) (by decide) (hval 3 64 v3 rfl rfl) h3 (fun x hx => hlt x (by simp [hx]))
  obtain ⟨l2, hl2, hf2, _⟩ := list_of_rows (enc := encK) (ok := fun _ => True) yss (fun xs hxs => by obtain ⟨p, rfl⟩ := flat_k (hok2 xs hxs); exact ⟨p, rfl, trivial⟩)
  rw [hf2] at hr2
  exact psciDown_any A A2 n c n2 c2 l l2 i b (hl.trans hx) (hl2.trans hx2) W hr hr2 (maxLen_le (Nat.le_trans hnc hm)) (maxLen_le (Nat.le_trans hnc2 hcm2))
theorem psciDown_proved : Rows.PsciDownSaid :=
  OpenClaim.holds_of_wide 9 Try.f9 rfl rfl rfl rfl rfl rfl rfl ⟨rfl, rfl, rfl, rfl, rfl⟩ rfl rfl rfl rfl rfl (by kernel_rfl) Try.func9 (by kernel_rfl)
    (of_decide_eq_true (by kernel_rfl)) (by unfold Func.isWrapper; rw [if_neg (of_decide_eq_false (by kernel_rfl))]; exact ⟨rfl, rfl⟩)
    (fun os started H enc _ => law_lifted (C := Try.checked) (s := Rows.psciDownSpec) started own laidOut (by kernel_rfl) Try.func9 rfl (n := 4) (by kernel_rfl) (fun ds h => by match ds, h with | [_, _, _, _], _ => rfl) (tb := 4) (by kernel_rfl) Try.underlying4 (by kernel_rfl)
      (ChangeSpec.witness6 (enc := enc) (C := Try.checked) false ⟨#[], #[.slice none 0 0, .int .i64 0, .bool false, .slice none 0 0], []⟩ 8 (by kernel_rfl) (by kernel_rfl) (by kernel_rfl) (by kernel_rfl)) psciDown_law)
end Go.Proofs.Ytebhfaadpalpbaa
