/- Chapter 10, the law NvDoes: its walk. -/
import Derived.Test.YtdkhkpjepnmjnaaNvJ
import Derived.Deep.RegionHeld3
namespace Go.Proofs.Ytdkhkpjepnmjnaa
set_option linter.unusedVariables false
open Go.RowKit Go.Sort Go.ChangeShapes Go.WideShapes

def encD (p : Int × Int × Int) : List Value := [.int .i64 p.1, .int .i64 p.2.1, .int .u32 p.2.2]
def NvInv (W : World) (B1 B2 B3 g1 g2 n : Nat) (k : Int) (wr : World) : Prop :=
  ∃ s : Stt, s.ws.length = n ∧ 0 ≤ s.k ∧ s.k ≤ k ∧ OnOk s ∧ Sto wr (fun i => B1 ≤ i ∧ i < B2) g1 s ∧ RSto wr W.heap.size (fun i => B2 ≤ i ∧ i < B3) g2 s ∧ Below W.heap.size W wr ∧ B3 ≤ wr.heap.size ∧ W.heap.size ≤ B1 ∧ B1 ≤ B2 ∧ B2 ≤ B3
theorem RSto.bound {w : World} {base : Nat → Prop} {b0 g : Nat} {s : Stt} (h : RSto w b0 base g s) : RSto w b0 (fun k => base k ∧ k < w.heap.size) g s := by
  obtain ⟨A, c, wv, hB, h0, hg, hc, hr, ho⟩ := h
  exact ⟨A, c, wv, hB, fun k hk => h0 k hk.1, ⟨hg, hB.lt⟩, hc, hr, ho.bound⟩


theorem nv_setup {w w0 w1 w2 : World} {g n nc cc cw : Nat} {Aw A1 : Option Addr} {ws : List Int} {cs : List (Int × Int)} (hb0 : Below w.heap.size w w0) (hs1 : Sto w1 (fun x => w0.heap.size ≤ x) g ⟨true, 0, cs, ws⟩) (hb1 : Below w0.heap.size w0 w1)
    (hown2 : w2.ownsRow w1.heap.size 37 1 (.slice Aw n cw) n (ws.flatMap encU)) (hb2 : Below w1.heap.size w1 w2) (HW : ws.length = n) (HC : cs.length = nc) (hcc : nc ≤ cc) (HR1 : Rd w w.heap.size 2 A1 nc (cs.flatMap encC)) :
    NvInv w w0.heap.size w1.heap.size (w2.alloc (.cells #[.slice Aw n cw, .slice A1 nc cc, .int .i64 0, .bool false] 81)).heap.size g w2.heap.size n 0 (w2.alloc (.cells #[.slice Aw n cw, .slice A1 nc cc, .int .i64 0, .bool false] 81)) := by
  subst HW HC
  have hB := Blk.new w2 81 #[.slice Aw ws.length cw, .slice A1 cs.length cc, .int .i64 0, .bool false]
  have hown3 := (OwnS.of (S := fun i => w1.heap.size ≤ i) hown2 (fun k h => h)).alloc (.cells #[.slice Aw ws.length cw, .slice A1 cs.length cc, .int .i64 0, .bool false] 81)
  have hb3 : Below w1.heap.size w1 (w2.alloc (.cells #[.slice Aw ws.length cw, .slice A1 cs.length cc, .int .i64 0, .bool false] 81)) := hb2.alloc hb2.size _
  generalize w2.alloc (.cells #[.slice Aw ws.length cw, .slice A1 cs.length cc, .int .i64 0, .bool false] 81) = w3 at *
  have s0 := hb0.size
  have s1 := hb1.size
  have hb4 : Below w.heap.size w w3 := hb0.trans ((hb1.trans (hb3.mono s1)).mono s0)
  exact ⟨_, rfl, Int.le_refl _, Int.le_refl _, .inl rfl, hs1.bound.kept hb3, RSto.bound (s := ⟨true, 0, cs, ws⟩) ⟨A1, cc, _, hB, fun k hk => by omega, hb2.size, hcc, HR1.below hb4, hown3⟩, hb4, Nat.le_refl _, s0, s1, hb3.size⟩


set_option maxRecDepth 100000 in
set_option maxHeartbeats 4000000 in
theorem nvDoes_any (A A1 A2 : Option Addr) (n c nc cc nl cl : Nat) (ws : List Int) (cs : List (Int × Int)) (l : List (Int × Int × Int)) (hws : ws.length = n) (hcs : cs.length = nc) (hl : l.length = nl) (hm : n ≤ 9223372036854775807) (hm1 : nc ≤ 9223372036854775807) (hm2 : nl ≤ 9223372036854775807)
    (hcc : nc ≤ cc) (w : World) (hr : Rd w w.heap.size 1 A n (ws.flatMap encU)) (hr1 : Rd w w.heap.size 2 A1 nc (cs.flatMap encC)) (hr2 : Rd w w.heap.size 3 A2 nl (l.flatMap encD)) :
    Calls Try.prog 14 #[.slice A n c, .slice A1 nc cc, .slice A2 nl cl] w fun e w' => e = .returned (.bool true) ∧ Below w.heap.size w w' := by
  have HW := Lib.hid hws
  have HC := Lib.hid hcs
  have HL := Lib.hid hl
  have HR := Lib.hid hr
  have HR1 := Lib.hid hr1
  have HR2 := Lib.hid hr2
  clear hws hcs hl hr hr1 hr2
  by_cases h : n ≤ 100 ∧ nc ≤ 10 ∧ nl ≤ 60
  · obtain ⟨h100, h10, h60⟩ := h
    have h1000 : n ≤ 1000 := by omega
    have h1001 : nc ≤ 1000 := by omega
    have HM4 := Lib.hid (show (0 + n) * 4 ≤ 140737488355328 by omega)
    have HM := Lib.hid (show 0 + n ≤ maxLen by unfold maxLen; omega)
    go_enter Try.func14, Try.ntmps14
    go_wp2_with (first
      | (go_at_call 32; refine (awake10_any _).mono ?_; rintro e w0 ⟨rfl, hb0⟩; have hr0 := HR.out.below hb0; have hr01 := HR1.out.below hb0)
      | (go_at_call 33; refine (new_any A A1 n _ nc _ ws cs _ HW.out HC.out h1000 h1001 (hr0.more hb0.size) (hr01.more hb0.size)).mono ?_; rintro e w1 ⟨g, rfl, hs1, hb1⟩)
      | (at_builtin; refine wpList_app u32_elem rfl (.const (.slice none 0 0)) (.tmp 32) rfl w1.heap.size (World.ownsRow_nil _ _ _ _) rfl rfl (HR.out.below (hb0.trans (hb1.mono hb0.size))) (one_u ws) HM.out HM4.out (by simp) ?_; intro v2 w2 hown2 hb2 _; simp only [Nat.zero_add, List.nil_append] at hown2; obtain ⟨Aw, cw, rfl, _, _⟩ := own_slice hown2))
    have hI0 := nv_setup hb0 hs1 hb1 hown2 hb2 HW.out HC.out hcc HR1.out
    generalize hB3 : (w2.alloc (.cells #[.slice Aw n cw, .slice A1 nc cc, .int .i64 0, .bool false] 81)).heap.size = B3 at hI0
    clear hB3 hb2 hb1 hs1 hown2 hr0 hr01 hb0
    generalize w0.heap.size = B1 at hI0
    generalize w1.heap.size = B2 at hI0
    generalize w2.alloc (.cells #[.slice Aw n cw, .slice A1 nc cc, .int .i64 0, .bool false] 81) = w3 at *
    generalize w2.heap.size = g2 at *
    go_loopw [41] (fun i wr => ∃ k : Nat, k ≤ nl ∧ i = .int .i64 k ∧ NvInv w B1 B2 B3 g g2 n k wr) (fun i _ => nl - (intOf i).toNat)
    case atStart => exact ⟨0, by omega, rfl, hI0⟩
    case round =>
      obtain ⟨k, hk, rfl, hInv⟩ := hrel
      clear hI0
      obtain ⟨s, hlen, hk0, hk1, hon, hs, hrr, hb, hz, hB1, hB12, hB2⟩ := hInv
      have HLen := Lib.hid hlen
      clear hlen
      by_cases hlt : k < nl
      · obtain ⟨b, o, rfl, hbB, hcx⟩ := (HR2.out.below hb).row (fun _ => rfl) (k := k) (by rw [HL.out]; exact hlt) HL.out
        have d0 := hcx 0 (by omega)
        have d1 := hcx 1 (by omega)
        have d2 := hcx 2 (by omega)
        simp only [encD, Nat.add_zero, List.getElem?_cons_zero, List.getElem?_cons_succ] at d0 d1 d2
        generalize l[k]'(by rw [HL.out]; exact hlt) = p at *
        obtain ⟨kd, i, x⟩ := p
        simp only at d0 d1 d2
        clear hcx
        have hkm : s.k < 1000000 := by omega
        have hs1 := hs.alloc (.cells #[.int .i64 kd, .int .i64 i, .int .u32 x] 83)
        have hr1 := hrr.kept (bal (Below.refl _ _) (.cells #[.int .i64 kd, .int .i64 i, .int .u32 x] 83))
        have hBx := Blk.new wr 83 #[.int .i64 kd, .int .i64 i, .int .u32 x]
        have hb1 := bal hb (.cells #[.int .i64 kd, .int .i64 i, .int .u32 x] 83)
        by_cases h0 : kd = 0
        · subst h0
          go_wp2_with fail
          have hs2 := hs1.kept (Below.refl _ _).drew
          have hr2 := hr1.kept (Below.refl _ _).drew
          have cBx := hBx.cell
          go_region_held3 (fun w' => ∀ j, w'.cell? ⟨wr.heap.size, j, none⟩ = (#[.int .i64 0, .int .i64 i, .int .u32 x] : Array Value)[j]?) (first | exact hBx.drew.cell | exact hBx4.cell | exact hBx5.cell)
            (first
              | (go_at_call 34; refine (write_any g _ s i x _ hs2 hk0 hkm).mono ?_; rintro e w4 ⟨rfl, hs4, hn4⟩; have hBx4 : Blk w4 wr.heap.size 83 #[.int .i64 0, .int .i64 i, .int .u32 x] := hBx.drew.same (hn4.block _ hBx.lt (by omega)); have hr4 := hr2.near hn4 (by omega) (by omega) (Nat.le_trans hb.size (by simp)); have hb4 := hb1.drew.trans (hn4.below (by omega) hb1.drew.size))
              | (go_at_call 45; refine (rwrite_any g2 _ _ s i x _ hr4 hk0 hkm).mono ?_; rintro e w5 ⟨rfl, hr5, hn5⟩; have hBx5 : Blk w5 wr.heap.size 83 #[.int .i64 0, .int .i64 i, .int .u32 x] := hBx4.same (hn5.block _ hBx4.lt (by omega)); have hs5 := hs4.near hn5 (by omega); have hb5 := hb4.trans (hn5.below (by omega) hb4.size)))
          have hInv : NvInv w B1 B2 B3 g g2 n (k + 1) w5 := by
            have hk1' := writeN_k s i x
            exact ⟨_, (writeN_len s i x).trans HLen.out, by omega, by omega, writeN_on s i x hon, hs5, hr5, hb5, Nat.le_trans hz (Nat.le_trans (by simp) (Nat.le_trans hn4.size hn5.size)), hB1, hB12, hB2⟩
          clear hs hrr hb hs1 hr1 hBx hb1 hs2 hr2 cBx hBx4 hr4 hb4 hBx5 hs5 hb5 hn4 hn5 hs4 hr5 d0 d1 d2 hk0 hk1 hkm hon hz hB1 hB12 hB2
          generalize w5 = wn at *
          go_wp2_with fail
          -- the answers' comparison at the round's end, and the round's end
          obtain ⟨s', hlen', hk0', hk1', hon', hs', hr', hb', hz', hB1, hB12, hB2⟩ := hInv
          have hI : NvInv w B1 B2 B3 g g2 n (k + 1) wn := ⟨s', hlen', hk0', hk1', hon', hs', hr', hb', hz', hB1, hB12, hB2⟩
          have HI := Lib.hid hI
          obtain ⟨cvP, wvP, hBP, _, _, _⟩ := hs'
          obtain ⟨cA, cc, wvR, hBR, _, _, _, _, _⟩ := hr'
          clear hI hlen' hk0' hk1' hon' hb'
          refine wp_region_quiet_below (by kernel_rfl) (by kernel_rfl) ?_
          have e0 := blk_regrown hBR
          repeat (go_big_quiet_step (first
            | (go_at_call 41; exact regrown_same (writes_any g _ _ _ _ _ (hBP.kept (below_regrown _ _ _))))
            | (go_at_call 36; exact regrown_same (dead_any g _ _ _ _ _ (hBP.kept (below_regrown _ _ _))))))
          refine wpQuiet_nil ?_
          rintro w7 ⟨p7, rfl⟩
          have hb7 := below_regrown wn p7.d p7.os
          generalize grow (redrawn wn p7.d) p7.os = w7 at hb7 ⊢
          clear e0 hBP hBR
          go_wp2
          go_roundw
          case rel =>
            obtain ⟨s', hlen', hk0', hk1', hon', hs', hr', hb', hz', hB1, hB12, hB2⟩ := HI.out
            exact ⟨k + 1, by omega, by go_num, s', hlen', hk0', by simpa using hk1', hon', hs'.kept hb7, hr'.kept hb7, hb'.trans (hb7.mono hb'.size), Nat.le_trans hz' hb7.size, hB1, hB12, hB2⟩
          case measure => simp [intOf]; omega
        · have e0 : (kd == 0) = false := by simpa using h0
          by_cases h1 : kd = 1
          · subst h1
            clear h0
            have hz1 : B3 ≤ (wr.alloc (.cells #[.int .i64 1, .int .i64 i, .int .u32 x] 83)).heap.size := Nat.le_trans hz (by simp)
            have HNil : Hid ((s.ws.length : Int) = n) := Lib.hid (by rw [HLen.out])
            by_cases hi : i < 0 ∨ (n : Int) ≤ i
            · have HI2 : Hid (i < 0 ∨ (s.ws.length : Int) ≤ i) := Lib.hid (by rw [HNil.out]; exact hi)
              obtain ⟨A3, c3, wv3, hBR, _, _, _, _, ho3⟩ := id hr1
              obtain ⟨Aw3, cw3, rfl, _, _⟩ := own_slice ho3.1
              rw [HLen.out] at hBR
              clear ho3
              rcases hi with hi | hi
              · have f1 : decide (0 ≤ i) = false := by simpa using hi
                go_wp2_with (go_at_call 42; refine (read_out g _ s i _ hs1 HI2.out).mono ?_; rintro e w4 ⟨rfl, rfl⟩)
                refine wp_name ?_
                intro wq hwq
                rw [← hwq] at hs1 hr1 hBx hBR hb1 hz1
                clear hwq
                have e0 := blk_regrown hBR
                have e1 := blk_regrown hBx
                refine wp_region_quiet_below (by kernel_rfl) (by kernel_rfl) ?_
                repeat (go_big_quiet_step (fail))
                refine wpQuiet_nil ?_
                rintro w7 ⟨p7, rfl⟩
                have hb7 := below_regrown wq p7.d p7.os
                generalize grow (redrawn wq p7.d) p7.os = w7 at hb7 ⊢
                clear e0 e1
                go_wp2_with fail
                have e0 := blk_regrown (hBR.kept hb7)
                have e1 := blk_regrown (hBx.kept hb7)
                refine wp_region_quiet_below (by kernel_rfl) (by kernel_rfl) ?_
                repeat (go_big_quiet_step (fail))
                refine wpQuiet_nil ?_
                rintro wn ⟨p8, rfl⟩
                have hb8 := hb7.trans ((below_regrown w7 p8.d p8.os).mono hb7.size)
                generalize grow (redrawn w7 p8.d) p8.os = wn at hb8 ⊢
                have hInv : NvInv w B1 B2 B3 g g2 n (k + 1) wn :=
                  ⟨_, HLen.out, hk0, by omega, hon, hs1.kept hb8, hr1.kept hb8, hb1.trans (hb8.mono hb1.size), Nat.le_trans hz1 hb8.size, hB1, hB12, hB2⟩
                clear hs hrr hb hs1 hr1 hBx hb1 d0 d1 d2 hk0 hk1 hkm hon hz hz1 hB1 hB12 hB2 e0 e1 hb7 hb8 hBR hi
                go_wp2_with fail
                -- the answers' comparison at the round's end, and the round's end
                obtain ⟨s', hlen', hk0', hk1', hon', hs', hr', hb', hz', hB1, hB12, hB2⟩ := hInv
                have hI : NvInv w B1 B2 B3 g g2 n (k + 1) wn := ⟨s', hlen', hk0', hk1', hon', hs', hr', hb', hz', hB1, hB12, hB2⟩
                have HI := Lib.hid hI
                obtain ⟨cvP, wvP, hBP, _, _, _⟩ := hs'
                obtain ⟨cA, cc, wvR, hBR, _, _, _, _, _⟩ := hr'
                clear hI hlen' hk0' hk1' hon' hb'
                refine wp_region_quiet_below (by kernel_rfl) (by kernel_rfl) ?_
                have e0 := blk_regrown hBR
                repeat (go_big_quiet_step (first
                  | (go_at_call 41; exact regrown_same (writes_any g _ _ _ _ _ (hBP.kept (below_regrown _ _ _))))
                  | (go_at_call 36; exact regrown_same (dead_any g _ _ _ _ _ (hBP.kept (below_regrown _ _ _))))))
                refine wpQuiet_nil ?_
                rintro w7 ⟨p7, rfl⟩
                have hb7 := below_regrown wn p7.d p7.os
                generalize grow (redrawn wn p7.d) p7.os = w7 at hb7 ⊢
                clear e0 hBP hBR
                go_wp2
                go_roundw
                case rel =>
                  obtain ⟨s', hlen', hk0', hk1', hon', hs', hr', hb', hz', hB1, hB12, hB2⟩ := HI.out
                  exact ⟨k + 1, by omega, by go_num, s', hlen', hk0', by simpa using hk1', hon', hs'.kept hb7, hr'.kept hb7, hb'.trans (hb7.mono hb'.size), Nat.le_trans hz' hb7.size, hB1, hB12, hB2⟩
                case measure => simp [intOf]; omega
              · have f1 : decide (0 ≤ i) = true := by simp; omega
                have f2 : decide (i < (n : Int)) = false := by simpa using hi
                have f3 : (0 : Int) ≤ i := by omega
                go_wp2_with (go_at_call 42; refine (read_out g _ s i _ hs1 HI2.out).mono ?_; rintro e w4 ⟨rfl, rfl⟩)
                refine wp_name ?_
                intro wq hwq
                rw [← hwq] at hs1 hr1 hBx hBR hb1 hz1
                clear hwq
                have e0 := blk_regrown hBR
                have e1 := blk_regrown hBx
                refine wp_region_quiet_below (by kernel_rfl) (by kernel_rfl) ?_
                repeat (go_big_quiet_step (fail))
                refine wpQuiet_nil ?_
                rintro w7 ⟨p7, rfl⟩
                have hb7 := below_regrown wq p7.d p7.os
                generalize grow (redrawn wq p7.d) p7.os = w7 at hb7 ⊢
                clear e0 e1
                go_wp2_with fail
                have e0 := blk_regrown (hBR.kept hb7)
                have e1 := blk_regrown (hBx.kept hb7)
                refine wp_region_quiet_below (by kernel_rfl) (by kernel_rfl) ?_
                repeat (go_big_quiet_step (fail))
                refine wpQuiet_nil ?_
                rintro wn ⟨p8, rfl⟩
                have hb8 := hb7.trans ((below_regrown w7 p8.d p8.os).mono hb7.size)
                generalize grow (redrawn w7 p8.d) p8.os = wn at hb8 ⊢
                have hInv : NvInv w B1 B2 B3 g g2 n (k + 1) wn :=
                  ⟨_, HLen.out, hk0, by omega, hon, hs1.kept hb8, hr1.kept hb8, hb1.trans (hb8.mono hb1.size), Nat.le_trans hz1 hb8.size, hB1, hB12, hB2⟩
                clear hs hrr hb hs1 hr1 hBx hb1 d0 d1 d2 hk0 hk1 hkm hon hz hz1 hB1 hB12 hB2 e0 e1 hb7 hb8 hBR hi
                go_wp2_with fail
                -- the answers' comparison at the round's end, and the round's end
                obtain ⟨s', hlen', hk0', hk1', hon', hs', hr', hb', hz', hB1, hB12, hB2⟩ := hInv
                have hI : NvInv w B1 B2 B3 g g2 n (k + 1) wn := ⟨s', hlen', hk0', hk1', hon', hs', hr', hb', hz', hB1, hB12, hB2⟩
                have HI := Lib.hid hI
                obtain ⟨cvP, wvP, hBP, _, _, _⟩ := hs'
                obtain ⟨cA, cc, wvR, hBR, _, _, _, _, _⟩ := hr'
                clear hI hlen' hk0' hk1' hon' hb'
                refine wp_region_quiet_below (by kernel_rfl) (by kernel_rfl) ?_
                have e0 := blk_regrown hBR
                repeat (go_big_quiet_step (first
                  | (go_at_call 41; exact regrown_same (writes_any g _ _ _ _ _ (hBP.kept (below_regrown _ _ _))))
                  | (go_at_call 36; exact regrown_same (dead_any g _ _ _ _ _ (hBP.kept (below_regrown _ _ _))))))
                refine wpQuiet_nil ?_
                rintro w7 ⟨p7, rfl⟩
                have hb7 := below_regrown wn p7.d p7.os
                generalize grow (redrawn wn p7.d) p7.os = w7 at hb7 ⊢
                clear e0 hBP hBR
                go_wp2
                go_roundw
                case rel =>
                  obtain ⟨s', hlen', hk0', hk1', hon', hs', hr', hb', hz', hB1, hB12, hB2⟩ := HI.out
                  exact ⟨k + 1, by omega, by go_num, s', hlen', hk0', by simpa using hk1', hon', hs'.kept hb7, hr'.kept hb7, hb'.trans (hb7.mono hb'.size), Nat.le_trans hz' hb7.size, hB1, hB12, hB2⟩
                case measure => simp [intOf]; omega
            · obtain ⟨j, rfl⟩ := Int.eq_ofNat_of_zero_le (show 0 ≤ i by omega)
              have hj : j < n := by omega
              have f2 : decide (j < n) = true := by simpa using hj
              obtain ⟨A3, c3, gw, cap, hBR, _, _, _, _, ho3, _, _, hgw, hcap, cur3, hB3⟩ := hr1.open (by rw [HLen.out]; omega)
              have hd := ho3.cellAt j (by rw [HLen.out]; omega)
              rw [flat_get _ _ (by rw [HLen.out]; omega)] at hd
              rw [HLen.out] at hBR hcap
              clear ho3 hi
              have HR3 := read_n g n _ s j _ (wr.alloc (.cells #[.int .i64 1, .int .i64 j, .int .u32 x] 83)) hs1 HLen.out hj rfl
              have HR3' := Lib.hid HR3
              clear HR3
              generalize s.ws.getD j 0 = y at *
              have hgw' := hgw
              have hd' : ∀ W : World, Below (wr.alloc (.cells #[.int .i64 1, .int .i64 j, .int .u32 x] 83)).heap.size (wr.alloc (.cells #[.int .i64 1, .int .i64 j, .int .u32 x] 83)) W → W.cell? ⟨gw, j, none⟩ = some (.int .u32 y) := fun W h => (h.cell (p := ⟨gw, j, none⟩) hgw).trans hd
              have HD := Lib.hid hd'
              clear hd' hd hB3
              go_wp2_with (go_at_call 42; refine (HR3'.out).mono ?_; rintro e w4 ⟨rfl, rfl⟩)
              refine wp_name ?_
              intro wq hwq
              rw [← hwq] at hs1 hr1 hBx hBR hb1 hz1
              have HD2 := HD.out
              rw [← hwq] at HD2
              have HD := Lib.hid HD2
              clear HD2
              clear hwq
              have e0 := blk_regrown hBR
              have e1 := blk_regrown hBx
              refine wp_region_quiet_below (by kernel_rfl) (by kernel_rfl) ?_
              repeat (go_big_quiet_step (fail))
              refine wpQuiet_nil ?_
              rintro w7 ⟨p7, rfl⟩
              have hb7 := below_regrown wq p7.d p7.os
              generalize grow (redrawn wq p7.d) p7.os = w7 at hb7 ⊢
              clear e0 e1
              go_wp2_with fail
              have e0 := blk_regrown (hBR.kept hb7)
              have e1 := blk_regrown (hBx.kept hb7)
              have e2 : ∀ (d : Nat) (os : Array Obj), (grow (redrawn w7 d) os).cell? ⟨gw, j, none⟩ = some (.int .u32 y) := fun d os => HD.out _ (hb7.trans ((below_regrown w7 d os).mono hb7.size))
              refine wp_region_quiet_below (by kernel_rfl) (by kernel_rfl) ?_
              repeat (go_big_quiet_step (fail))
              refine wpQuiet_nil ?_
              rintro wn ⟨p8, rfl⟩
              have hb8 := hb7.trans ((below_regrown w7 p8.d p8.os).mono hb7.size)
              generalize grow (redrawn w7 p8.d) p8.os = wn at hb8 ⊢
              have hInv : NvInv w B1 B2 B3 g g2 n (k + 1) wn :=
                ⟨_, HLen.out, hk0, by omega, hon, hs1.kept hb8, hr1.kept hb8, hb1.trans (hb8.mono hb1.size), Nat.le_trans hz1 hb8.size, hB1, hB12, hB2⟩
              clear e2 hs hrr hb hs1 hr1 hBx hb1 d0 d1 d2 hk0 hk1 hkm hon hz hz1 hB1 hB12 hB2 e0 e1 hb7 hb8 hBR hgw
              go_wp2_with fail
              -- the answers' comparison at the round's end, and the round's end
              obtain ⟨s', hlen', hk0', hk1', hon', hs', hr', hb', hz', hB1, hB12, hB2⟩ := hInv
              have hI : NvInv w B1 B2 B3 g g2 n (k + 1) wn := ⟨s', hlen', hk0', hk1', hon', hs', hr', hb', hz', hB1, hB12, hB2⟩
              have HI := Lib.hid hI
              obtain ⟨cvP, wvP, hBP, _, _, _⟩ := hs'
              obtain ⟨cA, cc, wvR, hBR, _, _, _, _, _⟩ := hr'
              clear hI hlen' hk0' hk1' hon' hb'
              refine wp_region_quiet_below (by kernel_rfl) (by kernel_rfl) ?_
              have e0 := blk_regrown hBR
              repeat (go_big_quiet_step (first
                | (go_at_call 41; exact regrown_same (writes_any g _ _ _ _ _ (hBP.kept (below_regrown _ _ _))))
                | (go_at_call 36; exact regrown_same (dead_any g _ _ _ _ _ (hBP.kept (below_regrown _ _ _))))))
              refine wpQuiet_nil ?_
              rintro w7 ⟨p7, rfl⟩
              have hb7 := below_regrown wn p7.d p7.os
              generalize grow (redrawn wn p7.d) p7.os = w7 at hb7 ⊢
              clear e0 hBP hBR
              go_wp2
              go_roundw
              case rel =>
                obtain ⟨s', hlen', hk0', hk1', hon', hs', hr', hb', hz', hB1, hB12, hB2⟩ := HI.out
                exact ⟨k + 1, by omega, by go_num, s', hlen', hk0', by simpa using hk1', hon', hs'.kept hb7, hr'.kept hb7, hb'.trans (hb7.mono hb'.size), Nat.le_trans hz' hb7.size, hB1, hB12, hB2⟩
              case measure => simp [intOf]; omega
          · have e1 : (kd == 1) = false := by simpa using h1
            clear h0 h1
            go_wp2_with (first
              | (go_at_call 46; refine (reboot_any g _ s _ hs1 hon).mono ?_; rintro e w4 ⟨rfl, hs4, hn4⟩; have hr4 := hr1.near hn4 (by omega) (by omega) (Nat.le_trans hb.size (by simp)); have hb4 := hb1.trans (hn4.below (by omega) hb1.size))
              | (go_at_call 47; refine (rreboot_any g2 _ _ s _ hr4).mono ?_; rintro e w5 ⟨rfl, hr5, hn5⟩; have hs5 := hs4.near hn5 (by omega); have hb5 := hb4.trans (hn5.below (by omega) hb4.size)))
            have hInv : NvInv w B1 B2 B3 g g2 n (k + 1) w5 :=
              ⟨upN s, HLen.out, Int.le_refl _, by show (0 : Int) ≤ _; omega, .inl rfl, hs5, hr5, hb5, Nat.le_trans hz (Nat.le_trans (by simp) (Nat.le_trans hn4.size hn5.size)), hB1, hB12, hB2⟩
            clear hs hrr hb hs1 hr1 hBx hb1 hr4 hb4 hs5 hb5 hn4 hn5 hs4 hr5 d0 d1 d2 hk0 hk1 hkm hon hz hB1 hB12 hB2
            generalize w5 = wn at *
            -- the answers' comparison at the round's end, and the round's end
            obtain ⟨s', hlen', hk0', hk1', hon', hs', hr', hb', hz', hB1, hB12, hB2⟩ := hInv
            have hI : NvInv w B1 B2 B3 g g2 n (k + 1) wn := ⟨s', hlen', hk0', hk1', hon', hs', hr', hb', hz', hB1, hB12, hB2⟩
            have HI := Lib.hid hI
            obtain ⟨cvP, wvP, hBP, _, _, _⟩ := hs'
            obtain ⟨cA, cc, wvR, hBR, _, _, _, _, _⟩ := hr'
            clear hI hlen' hk0' hk1' hon' hb'
            refine wp_region_quiet_below (by kernel_rfl) (by kernel_rfl) ?_
            have e0 := blk_regrown hBR
            repeat (go_big_quiet_step (first
              | (go_at_call 41; exact regrown_same (writes_any g _ _ _ _ _ (hBP.kept (below_regrown _ _ _))))
              | (go_at_call 36; exact regrown_same (dead_any g _ _ _ _ _ (hBP.kept (below_regrown _ _ _))))))
            refine wpQuiet_nil ?_
            rintro w7 ⟨p7, rfl⟩
            have hb7 := below_regrown wn p7.d p7.os
            generalize grow (redrawn wn p7.d) p7.os = w7 at hb7 ⊢
            clear e0 hBP hBR
            go_wp2
            go_roundw
            case rel =>
              obtain ⟨s', hlen', hk0', hk1', hon', hs', hr', hb', hz', hB1, hB12, hB2⟩ := HI.out
              exact ⟨k + 1, by omega, by go_num, s', hlen', hk0', by simpa using hk1', hon', hs'.kept hb7, hr'.kept hb7, hb'.trans (hb7.mono hb'.size), Nat.le_trans hz' hb7.size, hB1, hB12, hB2⟩
            case measure => simp [intOf]; omega
      · obtain ⟨cvP, wvP, hBP, _, _, hoP⟩ := id hs
        obtain ⟨AP, cP, rfl, _, _⟩ := own_slice hoP.1
        obtain ⟨A3, c3, wv3, hBR, _, _, _, _, ho3⟩ := hrr
        obtain ⟨Aw3, cw3, rfl, _, hrd3⟩ := own_slice ho3.1
        rw [HLen.out] at hBR hBP hrd3
        clear ho3 hoP
        have h1' : n ≤ 100000 := by omega
        go_wp2_with fail
        have cR := hBR.cell
        have hsd := hs.kept (Below.refl _ _).drew
        go_region_held3 (fun w' => ∀ j, w'.cell? ⟨g2, j, none⟩ = (#[.slice Aw3 n cw3, .slice A3 s.cs.length c3, .int .i64 s.k, .bool (!s.on)] : Array Value)[j]?) (first | exact cR | exact hBR.drew.cell | exact hBR5.cell | exact hBR6.cell)
          (first
            | (go_at_call 48; refine (len_any g _ _ _ _ _ _ _ hBP.drew).mono ?_; rintro e w4 ⟨rfl, rfl⟩)
            | (go_at_call 35; refine (words_n g n _ s _ hsd HLen.out (by omega)).mono ?_; rintro e w5 ⟨A5, c5, rfl, hown5, hb5⟩; have hBR5 := hBR.drew.kept hb5)
            | (go_at_call 49; refine (sameWords_any A5 Aw3 n n c5 cw3 s.ws s.ws _ HLen.out HLen.out h1' h1' (Rd.of_own hown5) ((hrd3.drew.kept hb5 (Nat.le_refl _)).more hb5.size)).mono ?_; rintro e w6 ⟨rfl, hb6⟩; have hBR6 := hBR5.kept hb6))
        go_wp2
        go_ret
        exact ⟨by simp, (hb.trans ((of_drew hb5).mono hb.size)).trans (hb6.mono (Nat.le_trans hb.size hb5.size))⟩
  · have H := Lib.hid h
    clear h
    go_enter Try.func14, Try.ntmps14
    go_wp2_with (first
      | (go_at_call 32; refine (awake10_any _).mono ?_; rintro e w0 ⟨rfl, hb0⟩)
      | (go_at_call 33; exfalso; refine H.out ?_; omega))
    all_goals (go_ret; exact ⟨rfl, hb0⟩)
end Go.Proofs.Ytdkhkpjepnmjnaa
