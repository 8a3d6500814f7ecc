/- Chapter 13: two stores side by side: the law CtrBumps. -/
import Derived.Test.YtpenjfkdinmgmaaCtrQ
import Derived.Test.YtpenjfkdinmgmaaCtrO
import Derived.Test.YtpenjfkdinmgmaaOpenU
namespace Go.Proofs.Ytpenjfkdinmgmaa
set_option linter.unusedVariables false
set_option linter.unusedSimpArgs false
open Go.RowKit Go.Sort Go.ChangeShapes Go.WideShapes



theorem writeN_u32 (s : Stt) (i x : Int) (h : U32s s.ws) (hx : 0 ≤ x ∧ x < 4294967296) : U32s (writeN s i x).2.ws := by
  unfold writeN
  split
  · exact h
  · split
    · exact h
    · split
      · exact u32s_set h _ _ hx
      · split
        · exact u32s_set h _ _ (tornW_bd _ _ _)
        · exact u32s_set h _ _ hx
/-- What a rise keeps, whatever the store. -/
def Keep (n : Nat) (a b : Int) (s : Stt) : Prop := s.ws.length = n ∧ U32s s.ws ∧ 0 ≤ s.k ∧ a ≤ s.k ∧ s.k ≤ b ∧ OnOk s
theorem bumpK_keep (b : Int) (n : Nat) (c : Int) : ∀ (l : List (Int × Int)) (m : Int) (s : Stt), (∀ p ∈ l, 0 ≤ p.2 ∧ p.2 < 4294967296) → Keep n c m s → Keep n c (m + l.length) (bumpK b l s).2
  | [], m, s, _, h => by simpa [bumpK] using h
  | p :: l, m, s, hp, h => by
    obtain ⟨h1, h2, h3, h4, h5, h6⟩ := h
    have hk := writeN_k s (b + p.1) p.2
    have hw : Keep n c (m + 1) (writeN s (b + p.1) p.2).2 := ⟨(writeN_len _ _ _).trans h1, writeN_u32 s _ _ h2 (hp p (List.mem_cons_self ..)), by omega, by omega, by omega, writeN_on s _ _ h6⟩
    by_cases e : (writeN s (b + p.1) p.2).1 = 0
    · rw [bumpK_cons_ok e]
      have := bumpK_keep b n c l (m + 1) _ (fun q hq => hp q (List.mem_cons_of_mem _ hq)) hw
      rw [List.length_cons]
      rwa [show m + ((l.length + 1 : Nat) : Int) = m + 1 + (l.length : Int) by omega]
    · rw [bumpK_cons_bad e]
      obtain ⟨k1, k2, k3, k4, k5, k6⟩ := hw
      exact ⟨k1, k2, k3, k4, by rw [List.length_cons]; omega, k6⟩
theorem bumpN_keep (s : Stt) (id v : Int) (n : Nat) (m : Int) (hv : 0 ≤ v ∧ v < 4294967296) (h : Keep n 0 m s) : Keep n 0 (m + 5) (bumpN s id v).2 := by
  have hm : Keep n 0 (m + 5) s := by
    obtain ⟨h1, h2, h3, h4, h5, h6⟩ := h
    exact ⟨h1, h2, h3, h4, by omega, h6⟩
  have hok := rec_ok (id := id) h.2.1
  unfold bumpN
  split
  · exact hm
  · rename_i he
    split
    · exact hm
    · split
      · exact hm
      · obtain ⟨k, rfl, hk, ha, hq0, hq1, hx0, hx1⟩ := hok (by omega)
        have h9 := bumpK_keep (8 * (k : Int) + 4 * ((1 - (recN s.ws k).at_ : Nat) : Int)) n 0 _ m s (steps_ok (k : Int) (s.ws.getD (8 * (k : Int).toNat + 4 * (1 - (recN s.ws k).at_)) 0) ((recN s.ws k).q + 1) v (by omega) (by omega) hv.1 hv.2) h
        obtain ⟨k1, k2, k3, k4, k5, k6⟩ := h9
        have := stepsN_len (k : Int) (s.ws.getD (8 * (k : Int).toNat + 4 * (1 - (recN s.ws k).at_)) 0) ((recN s.ws k).q + 1) v
        exact ⟨k1, k2, k3, k4, by omega, k6⟩
def BInv (W : World) (B1 B2 B3 g1 g2 n : Nat) (k : Int) (wr : World) : Prop :=
  ∃ s : Stt, Keep n 0 (5 * k) s ∧ Sto wr (fun i => B1 ≤ i ∧ i < B2) g1 s ∧ RSto wr W.heap.size (fun i => B2 ≤ i ∧ i < B3) g2 s ∧ Below W.heap.size W wr ∧ B3 ≤ wr.heap.size ∧ W.heap.size ≤ B1 ∧ B1 ≤ B2 ∧ B2 ≤ B3
theorem RSto.bound {w : World} {base : Nat → Prop} {b0 g : Nat} {s : Stt} (h : RSto w b0 base g s) : RSto w b0 (fun k => base k ∧ k < w.heap.size) g s := by
  obtain ⟨A, c, wv, hB, h0, hg, hc, hr, ho⟩ := h
  exact ⟨A, c, wv, hB, fun k hk => h0 k hk.1, ⟨hg, hB.lt⟩, hc, hr, ho.bound⟩
theorem bumps_setup {w w0 w1 w2 : World} {g n nc cc cw : Nat} {Aw A1 : Option Addr} {ws : List Int} {cs : List (Int × Int)} (hu : U32s ws) (hb0 : Below w.heap.size w w0) (hs1 : Sto w1 (fun x => w0.heap.size ≤ x) g ⟨true, 0, cs, ws⟩) (hb1 : Below w0.heap.size w0 w1)
    (hown2 : w2.ownsRow w1.heap.size 23 1 (.slice Aw n cw) n (ws.flatMap encU)) (hb2 : Below w1.heap.size w1 w2) (HW : ws.length = n) (HC : cs.length = nc) (hcc : nc ≤ cc) (HR1 : Rd w w.heap.size 2 A1 nc (cs.flatMap encC)) :
    BInv w w0.heap.size w1.heap.size (w2.alloc (.cells #[.slice Aw n cw, .slice A1 nc cc, .int .i64 0, .bool false] 41)).heap.size g w2.heap.size n 0 (w2.alloc (.cells #[.slice Aw n cw, .slice A1 nc cc, .int .i64 0, .bool false] 41)) := by
  subst HW HC
  have hB := Blk.new w2 41 #[.slice Aw ws.length cw, .slice A1 cs.length cc, .int .i64 0, .bool false]
  have hown3 := (OwnS.of (S := fun i => w1.heap.size ≤ i) hown2 (fun k h => h)).alloc (.cells #[.slice Aw ws.length cw, .slice A1 cs.length cc, .int .i64 0, .bool false] 41)
  have hb3 : Below w1.heap.size w1 (w2.alloc (.cells #[.slice Aw ws.length cw, .slice A1 cs.length cc, .int .i64 0, .bool false] 41)) := hb2.alloc hb2.size _
  generalize w2.alloc (.cells #[.slice Aw ws.length cw, .slice A1 cs.length cc, .int .i64 0, .bool false] 41) = w3 at *
  have s0 := hb0.size
  have s1 := hb1.size
  have hb4 : Below w.heap.size w w3 := hb0.trans ((hb1.trans (hb3.mono s1)).mono s0)
  exact ⟨_, ⟨rfl, hu, Int.le_refl _, Int.le_refl _, by show (0 : Int) ≤ 5 * 0; decide, .inl rfl⟩, hs1.bound.kept hb3, RSto.bound (s := ⟨true, 0, cs, ws⟩) ⟨A1, cc, _, hB, fun k hk => by omega, hb2.size, hcc, HR1.below hb4, hown3⟩, hb4, Nat.le_refl _, s0, s1, hb3.size⟩
set_option maxRecDepth 100000 in
set_option maxHeartbeats 4000000 in
theorem bumps_any (A A1 A2 : Option Addr) (n c nc cc nl cl : Nat) (ws : List Int) (cs : List (Int × Int)) (l : List (Int × Int × Bool)) (hws : ws.length = n) (hu : U32s ws) (hcs : cs.length = nc) (hl : l.length = nl) (hlr : ∀ x ∈ l, 0 ≤ x.2.1 ∧ x.2.1 < 4294967296) (hm : n ≤ 9223372036854775807) (hm1 : nc ≤ 9223372036854775807) (hm2 : nl ≤ 9223372036854775807)
    (hcc : nc ≤ cc) (w : World) (hr : Rd w w.heap.size 1 A n (ws.flatMap encU)) (hr1 : Rd w w.heap.size 2 A1 nc (cs.flatMap encC)) (hr2 : Rd w w.heap.size 3 A2 nl (l.flatMap encRs)) :
    Calls Try.prog 6 #[.slice A n c, .slice A1 nc cc, .slice A2 nl cl] w fun e w' => e = .returned (.bool true) ∧ Below w.heap.size w w' := by
  have HW := Lib.hid hws
  have HU := Lib.hid hu
  have HC := Lib.hid hcs
  have HL := Lib.hid hl
  have HR := Lib.hid hr
  have HR1 := Lib.hid hr1
  have HR2 := Lib.hid hr2
  have HV := Lib.hid hlr
  clear hws hu hcs hl hr hr1 hr2 hlr
  by_cases h : n ≤ 200 ∧ nc ≤ 10 ∧ nl ≤ 30
  · obtain ⟨h100, h10, h60⟩ := h
    have h1000 : n ≤ 1000 := by omega
    have h1001 : nc ≤ 1000 := by omega
    have HM4 := Lib.hid (show (0 + n) * 4 ≤ 140737488355328 by omega)
    have HM := Lib.hid (show 0 + n ≤ maxLen by unfold maxLen; omega)
    go_enter Try.func6, Try.ntmps6
    go_wp2_with (first
      | (go_at_call 8; refine (awake13_any _).mono ?_; rintro e w0 ⟨rfl, hb0⟩; have hr0 := HR.out.below hb0; have hr01 := HR1.out.below hb0)
      | (go_at_call 9; refine (new_any A A1 n _ nc _ ws cs _ HW.out HC.out h1000 h1001 (hr0.more hb0.size) (hr01.more hb0.size)).mono ?_; rintro e w1 ⟨g, rfl, hs1, hb1⟩)
      | (at_builtin; refine wpList_app u32_elem rfl (.const (.slice none 0 0)) (.tmp 29) rfl w1.heap.size (World.ownsRow_nil _ _ _ _) rfl rfl (HR.out.below (hb0.trans (hb1.mono hb0.size))) (one_u ws) HM.out HM4.out (by simp) ?_; intro v2 w2 hown2 hb2 _; simp only [Nat.zero_add, List.nil_append] at hown2; obtain ⟨Aw, cw, rfl, _, _⟩ := own_slice hown2))
    have hI0 := bumps_setup HU.out hb0 hs1 hb1 hown2 hb2 HW.out HC.out hcc HR1.out
    generalize hB3 : (w2.alloc (.cells #[.slice Aw n cw, .slice A1 nc cc, .int .i64 0, .bool false] 41)).heap.size = B3 at hI0
    clear hB3 hb2 hb1 hs1 hown2 hr0 hr01 hb0
    generalize w0.heap.size = B1 at hI0
    generalize w1.heap.size = B2 at hI0
    generalize w2.alloc (.cells #[.slice Aw n cw, .slice A1 nc cc, .int .i64 0, .bool false] 41) = w3 at *
    generalize w2.heap.size = g2 at *
    go_loopw [36] (fun i wr => ∃ k : Nat, k ≤ nl ∧ i = .int .i64 k ∧ BInv w B1 B2 B3 g g2 n k wr) (fun i _ => nl - (intOf i).toNat)
    case atStart => exact ⟨0, by omega, rfl, hI0⟩
    case round =>
      obtain ⟨k, hk, rfl, hInv⟩ := hrel
      clear hI0
      by_cases hlt : k < nl
      · obtain ⟨s, hKp, hs, hrr, hb, hz, hB1, hB12, hB2⟩ := hInv
        obtain ⟨b, o, rfl, hbB, hcx⟩ := (HR2.out.below hb).row (fun _ => rfl) (k := k) (by rw [HL.out]; exact hlt) HL.out
        have d0 := hcx 0 (by omega)
        have d1 := hcx 1 (by omega)
        have d2 := hcx 2 (by omega)
        have hvr := HV.out _ (List.getElem_mem (l := l) (n := k) (by rw [HL.out]; exact hlt))
        simp only [encRs, Nat.add_zero, List.getElem?_cons_zero, List.getElem?_cons_succ] at d0 d1 d2
        generalize l[k]'(by rw [HL.out]; exact hlt) = p at *
        obtain ⟨id, v, bt⟩ := p
        simp only at d0 d1 d2 hvr
        clear hcx
        have hs1 := hs.alloc (.cells #[.int .i64 id, .int .u32 v, .bool bt] 53)
        have hr1 := hrr.kept (bal (Below.refl _ _) (.cells #[.int .i64 id, .int .u32 v, .bool bt] 53))
        have hBx := Blk.new wr 53 #[.int .i64 id, .int .u32 v, .bool bt]
        have hb1 := bal hb (.cells #[.int .i64 id, .int .u32 v, .bool bt] 53)
        cases bt
        case true =>
          have HKp := Lib.hid hKp
          clear hKp
          go_wp2_with (first
            | (go_at_call 21; refine (reboot_any g _ s _ hs1 HKp.out.2.2.2.2.2).mono ?_; rintro e w4 ⟨rfl, hs4, hn4⟩; have hr4 := hr1.near hn4 (by omega) (by omega) (Nat.le_trans hb.size (by simp)); have hb4 := hb1.trans (hn4.below (by omega) hb1.size))
            | (go_at_call 22; refine (rreboot_any g2 _ _ s _ hr4).mono ?_; rintro e w5 ⟨rfl, hr5, hn5⟩; have hs5 := hs4.near hn5 (by omega); have hb5 := hb4.trans (hn5.below (by omega) hb4.size)))
          have HI : Hid (BInv w B1 B2 B3 g g2 n (k + 1) w5) := Lib.hid ⟨upN s, ⟨HKp.out.1, HKp.out.2.1, Int.le_refl _, Int.le_refl _, by show (0 : Int) ≤ _; omega, .inl rfl⟩, hs5, hr5, hb5, Nat.le_trans hz (Nat.le_trans (by simp) (Nat.le_trans hn4.size hn5.size)), hB1, hB12, hB2⟩
          clear hs hrr hb hs1 hr1 hBx hb1 hr4 hb4 hs5 hb5 hn4 hn5 hs4 hr5 d0 d1 d2 hz hB1 hB12 hB2
          go_roundw
          case rel => exact ⟨k + 1, by omega, by go_num, by simpa using HI.out⟩
          case measure => simp [intOf]; omega
        case false =>
          have HBm := Lib.hid (fun W (hW : Below (wr.alloc (.cells #[.int .i64 id, .int .u32 v, .bool false] 53)).heap.size (wr.alloc (.cells #[.int .i64 id, .int .u32 v, .bool false] 53)) W) => bump_any g _ s id v W (hs1.kept hW) hKp.2.1 (by rw [hKp.1]; omega) (fun i hi => Nat.lt_of_lt_of_le (Nat.lt_of_lt_of_le hi.2 (Nat.le_trans hB2 hz)) (Nat.le_trans (by simp) hW.size)) hKp.2.2.1 (by have := hKp.2.2.2.2.1; omega) hvr.1 hvr.2)
          have HBr := Lib.hid (fun W (hW : RSto W w.heap.size (fun i => B2 ≤ i ∧ i < B3) g2 s) (hz2 : B3 ≤ W.heap.size) => rbump_any g2 _ _ s id v W hW hKp.2.1 (by rw [hKp.1]; omega) (fun i hi => Nat.lt_of_lt_of_le hi.2 hz2) hKp.2.2.1 (by have := hKp.2.2.2.2.1; omega) hvr.1 hvr.2)
          have HKp := Lib.hid (bumpN_keep s id v n _ hvr hKp)
          generalize bumpN s id v = r at *
          obtain ⟨er, s2⟩ := r
          simp only at HBm HBr HKp
          clear hKp hs hrr hvr
          go_upto_region 13 with (fail)
          clear d0 d1 d2
          have hz1 : B3 ≤ (wr.alloc (.cells #[.int .i64 id, .int .u32 v, .bool false] 53)).heap.size := Nat.le_trans hz (by simp)
          generalize wr.alloc (.cells #[.int .i64 id, .int .u32 v, .bool false] 53) = wa at *
          have hS1 : (fun W' : World => ∀ i, W'.cell? ⟨wr.heap.size, i, none⟩ = (#[.int .i64 id, .int .u32 v, .bool false] : Array Value)[i]?) wa.drew := hBx.drew.cell
          refine wp_region_held_drew (S := fun W' : World => ∀ i, W'.cell? ⟨wr.heap.size, i, none⟩ = (#[.int .i64 id, .int .u32 v, .bool false] : Array Value)[i]?) (by kernel_rfl) hS1 (fun hHeld => ?_)
          clear hHeld
          refine wpAnyH_take (i := 0) (v := ?va0) rfl (by kernel_rfl) (by kernel_rfl) (by kernel_rfl) (fun _ _ _ h => h) (Or.inl ⟨by kernel_rfl, ?hya0⟩) hS1 ?resta0
          case hya0 =>
            intro w hSw
            clear hSw
            go_simp
            first | done | with_reducible rfl
          (try simp only [List.getElem_toArray, List.getElem_cons_succ, List.getElem_cons_zero, Act.put, List.setIfInBounds_toArray, List.set_cons_zero, List.set_cons_succ])
          refine wpAnyH_take (i := 1) (v := ?va1) rfl (by kernel_rfl) (by kernel_rfl) (by kernel_rfl) (fun _ _ _ h => h) (Or.inl ⟨by kernel_rfl, ?hya1⟩) hS1 ?resta1
          case hya1 =>
            intro w hSw
            clear hSw
            go_simp
            first | done | with_reducible rfl
          (try simp only [List.getElem_toArray, List.getElem_cons_succ, List.getElem_cons_zero, Act.put, List.setIfInBounds_toArray, List.set_cons_zero, List.set_cons_succ])
          refine wpAnyH_take (i := 2) (v := ?va2) rfl (by kernel_rfl) (by kernel_rfl) (by kernel_rfl) (fun _ _ _ h => h) (Or.inl ⟨by kernel_rfl, ?hya2⟩) hS1 ?resta2
          case hya2 =>
            intro w hSw
            (try dsimp only at hSw)
            go_simp
            first | done | with_reducible rfl
          (try simp only [List.getElem_toArray, List.getElem_cons_succ, List.getElem_cons_zero, Act.put, List.setIfInBounds_toArray, List.set_cons_zero, List.set_cons_succ])
          refine wpAnyH_take (i := 3) (v := ?va3) rfl (by kernel_rfl) (by kernel_rfl) (by kernel_rfl) (fun _ _ _ h => h) (Or.inl ⟨by kernel_rfl, ?hya3⟩) hS1 ?resta3
          case hya3 =>
            intro w hSw
            clear hSw
            go_simp
            first | done | with_reducible rfl
          (try simp only [List.getElem_toArray, List.getElem_cons_succ, List.getElem_cons_zero, Act.put, List.setIfInBounds_toArray, List.set_cons_zero, List.set_cons_succ])
          refine wpAnyH_take (i := 4) (v := ?va4) rfl (by kernel_rfl) (by kernel_rfl) (by kernel_rfl) (fun _ _ _ h => h) (Or.inl ⟨by kernel_rfl, ?hya4⟩) hS1 ?resta4
          case hya4 =>
            intro w hSw
            (try dsimp only at hSw)
            go_simp
            first | done | with_reducible rfl
          (try simp only [List.getElem_toArray, List.getElem_cons_succ, List.getElem_cons_zero, Act.put, List.setIfInBounds_toArray, List.set_cons_zero, List.set_cons_succ])
          refine wpAnyH_take (i := 6) (v := ?va6) rfl (by kernel_rfl) (by kernel_rfl) (by kernel_rfl) (fun _ _ _ h => h) (Or.inl ⟨by kernel_rfl, ?hya6⟩) hS1 ?resta6
          case hya6 =>
            intro w hSw
            clear hSw
            go_simp
            first | done | with_reducible rfl
          (try simp only [List.getElem_toArray, List.getElem_cons_succ, List.getElem_cons_zero, Act.put, List.setIfInBounds_toArray, List.set_cons_zero, List.set_cons_succ])
          refine wpAnyH_take (i := 7) (v := ?va7) rfl (by kernel_rfl) (by kernel_rfl) (by kernel_rfl) (fun _ _ _ h => h) (Or.inl ⟨by kernel_rfl, ?hya7⟩) hS1 ?resta7
          case hya7 =>
            intro w hSw
            clear hSw
            go_simp
            first | done | with_reducible rfl
          (try simp only [List.getElem_toArray, List.getElem_cons_succ, List.getElem_cons_zero, Act.put, List.setIfInBounds_toArray, List.set_cons_zero, List.set_cons_succ])
          refine wpAnyH_take (i := 8) (v := ?va8) rfl (by kernel_rfl) (by kernel_rfl) (by kernel_rfl) (fun _ _ _ h => h) (Or.inl ⟨by kernel_rfl, ?hya8⟩) hS1 ?resta8
          case hya8 =>
            intro w hSw
            (try dsimp only at hSw)
            go_simp
            first | done | with_reducible rfl
          (try simp only [List.getElem_toArray, List.getElem_cons_succ, List.getElem_cons_zero, Act.put, List.setIfInBounds_toArray, List.set_cons_zero, List.set_cons_succ])
          refine wpAnyH_take (i := 9) (v := ?va9) rfl (by kernel_rfl) (by kernel_rfl) (by kernel_rfl) (fun _ _ _ h => h) (Or.inl ⟨by kernel_rfl, ?hya9⟩) hS1 ?resta9
          case hya9 =>
            intro w hSw
            clear hSw
            go_simp
            first | done | with_reducible rfl
          (try simp only [List.getElem_toArray, List.getElem_cons_succ, List.getElem_cons_zero, Act.put, List.setIfInBounds_toArray, List.set_cons_zero, List.set_cons_succ])
          refine wpAnyH_take (i := 10) (v := ?va10) rfl (by kernel_rfl) (by kernel_rfl) (by kernel_rfl) (fun _ _ _ h => h) (Or.inl ⟨by kernel_rfl, ?hya10⟩) hS1 ?resta10
          case hya10 =>
            intro w hSw
            (try dsimp only at hSw)
            go_simp
            first | done | with_reducible rfl
          (try simp only [List.getElem_toArray, List.getElem_cons_succ, List.getElem_cons_zero, Act.put, List.setIfInBounds_toArray, List.set_cons_zero, List.set_cons_succ])
          refine wpAnyH_call (i := 5) (by kernel_rfl) rfl (by kernel_rfl) fun K hK => ?_
          simp only [List.getElem_toArray, List.getElem_cons_succ, List.getElem_cons_zero]
          go_simp
          go_at_call 11
          refine (HBm.out _ (Below.refl _ _).drew).mono ?_
          rintro e w4 ⟨rfl, hs4, hn4⟩
          have hBx4 : Blk w4 wr.heap.size 53 #[.int .i64 id, .int .u32 v, .bool false] := hBx.drew.same (hn4.block _ hBx.lt (by omega))
          have hr4 := (hr1.kept (Below.refl _ _).drew).near hn4 (by omega) (by omega) (Nat.le_trans hb1.size (Nat.le_refl _))
          have hb4 := hb1.drew.trans (hn4.below (by omega) hb1.drew.size)
          have hz4 : B3 ≤ w4.heap.size := Nat.le_trans hz1 hn4.size
          have hS4 : (fun W' : World => ∀ i, W'.cell? ⟨wr.heap.size, i, none⟩ = (#[.int .i64 id, .int .u32 v, .bool false] : Array Value)[i]?) w4 := hBx4.cell
          refine hK.out _ _ hS4 ?_
          clear hK K
          (try simp only [List.getElem_toArray, List.getElem_cons_succ, List.getElem_cons_zero, Act.put, List.setIfInBounds_toArray, List.set_cons_zero, List.set_cons_succ])
          refine wpAnyH_call (i := 11) (by kernel_rfl) rfl (by kernel_rfl) fun K hK => ?_
          simp only [List.getElem_toArray, List.getElem_cons_succ, List.getElem_cons_zero]
          go_simp
          go_at_call 23
          refine (HBr.out _ hr4 hz4).mono ?_
          rintro e w5 ⟨rfl, hr5, hn5⟩
          have hBx5 : Blk w5 wr.heap.size 53 #[.int .i64 id, .int .u32 v, .bool false] := hBx4.same (hn5.block _ hBx4.lt (by omega))
          have hs5 := hs4.near hn5 (by omega)
          have hb5 := hb4.trans (hn5.below (by omega) hb4.size)
          have hz5 : B3 ≤ w5.heap.size := Nat.le_trans hz4 hn5.size
          have hr5c := hr5
          obtain ⟨A3, c3, wv3, hBR, hR0, hRg, hRc, hRr, ho3⟩ := hr5c
          obtain ⟨Aw3, cw3, rfl, _, hrd3⟩ := own_slice ho3.1
          rw [HKp.out.1] at hBR hrd3
          have HWd := Lib.hid (words_of g _ s2 w5 hs5 (by rw [HKp.out.1]; omega))
          have HKl := Lib.hid HKp.out.1
          rw [HKl.out] at HWd
          have hS5 : (fun W' : World => (∀ i, W'.cell? ⟨wr.heap.size, i, none⟩ = (#[.int .i64 id, .int .u32 v, .bool false] : Array Value)[i]?) ∧ (∀ i, W'.cell? ⟨g2, i, none⟩ = (#[.slice Aw3 n cw3, .slice A3 s2.cs.length c3, .int .i64 s2.k, .bool (!s2.on)] : Array Value)[i]?)) w5 := ⟨hBx5.cell, hBR.cell⟩
          refine hK.out _ _ hBx5.cell ?_
          clear hK K
          (try simp only [List.getElem_toArray, List.getElem_cons_succ, List.getElem_cons_zero, Act.put, List.setIfInBounds_toArray, List.set_cons_zero, List.set_cons_succ])
          refine wpAnyH_mono (S2 := fun W' : World => (∀ i, W'.cell? ⟨wr.heap.size, i, none⟩ = (#[.int .i64 id, .int .u32 v, .bool false] : Array Value)[i]?) ∧ (∀ i, W'.cell? ⟨g2, i, none⟩ = (#[.slice Aw3 n cw3, .slice A3 s2.cs.length c3, .int .i64 s2.k, .bool (!s2.on)] : Array Value)[i]?)) (fun w h => h.1) _ _ _ _ ?_
          refine wpAnyH_take (i := 12) (v := ?va12) rfl (by kernel_rfl) (by kernel_rfl) (by kernel_rfl) (fun _ _ _ h => h) (Or.inl ⟨by kernel_rfl, ?hya12⟩) hS5 ?resta12
          case hya12 =>
            intro w hSw
            clear hSw
            go_simp
            first | done | with_reducible rfl
          (try simp only [List.getElem_toArray, List.getElem_cons_succ, List.getElem_cons_zero, Act.put, List.setIfInBounds_toArray, List.set_cons_zero, List.set_cons_succ])
          refine wpAnyH_take (i := 13) (v := ?va13) rfl (by kernel_rfl) (by kernel_rfl) (by kernel_rfl) (fun _ _ _ h => h) (Or.inl ⟨by kernel_rfl, ?hya13⟩) hS5 ?resta13
          case hya13 =>
            intro w hSw
            clear hSw
            go_simp
            first | done | with_reducible rfl
          (try simp only [List.getElem_toArray, List.getElem_cons_succ, List.getElem_cons_zero, Act.put, List.setIfInBounds_toArray, List.set_cons_zero, List.set_cons_succ])
          refine wpAnyH_take (i := 14) (v := ?va14) rfl (by kernel_rfl) (by kernel_rfl) (by kernel_rfl) (fun _ _ _ h => h) (Or.inl ⟨by kernel_rfl, ?hya14⟩) hS5 ?resta14
          case hya14 =>
            intro w hSw
            clear hSw
            go_simp
            first | done | with_reducible rfl
          (try simp only [List.getElem_toArray, List.getElem_cons_succ, List.getElem_cons_zero, Act.put, List.setIfInBounds_toArray, List.set_cons_zero, List.set_cons_succ])
          refine wpAnyH_take (i := 16) (v := ?va16) rfl (by kernel_rfl) (by kernel_rfl) (by kernel_rfl) (fun _ _ _ h => h) (Or.inl ⟨by kernel_rfl, ?hya16⟩) hS5 ?resta16
          case hya16 =>
            intro w hSw
            clear hSw
            go_simp
            first | done | with_reducible rfl
          (try simp only [List.getElem_toArray, List.getElem_cons_succ, List.getElem_cons_zero, Act.put, List.setIfInBounds_toArray, List.set_cons_zero, List.set_cons_succ])
          refine wpAnyH_take (i := 17) (v := ?va17) rfl (by kernel_rfl) (by kernel_rfl) (by kernel_rfl) (fun _ _ _ h => h) (Or.inl ⟨by kernel_rfl, ?hya17⟩) hS5 ?resta17
          case hya17 =>
            intro w hSw
            clear hSw
            go_simp
            first | done | with_reducible rfl
          (try simp only [List.getElem_toArray, List.getElem_cons_succ, List.getElem_cons_zero, Act.put, List.setIfInBounds_toArray, List.set_cons_zero, List.set_cons_succ])
          refine wpAnyH_take (i := 18) (v := ?va18) rfl (by kernel_rfl) (by kernel_rfl) (by kernel_rfl) (fun _ _ _ h => h) (Or.inl ⟨by kernel_rfl, ?hya18⟩) hS5 ?resta18
          case hya18 =>
            intro w hSw
            clear hSw
            go_simp
            first | done | with_reducible rfl
          (try simp only [List.getElem_toArray, List.getElem_cons_succ, List.getElem_cons_zero, Act.put, List.setIfInBounds_toArray, List.set_cons_zero, List.set_cons_succ])
          refine wpAnyH_take (i := 19) (v := ?va19) rfl (by kernel_rfl) (by kernel_rfl) (by kernel_rfl) (fun _ _ _ h => h) (Or.inl ⟨by kernel_rfl, ?hya19⟩) hS5 ?resta19
          case hya19 =>
            intro w hSw
            obtain ⟨hSa, hSb⟩ := hSw
            go_simp
            first | done | with_reducible rfl
          (try simp only [List.getElem_toArray, List.getElem_cons_succ, List.getElem_cons_zero, Act.put, List.setIfInBounds_toArray, List.set_cons_zero, List.set_cons_succ])
          refine wpAnyH_call (i := 15) (by kernel_rfl) rfl (by kernel_rfl) fun K hK => ?_
          simp only [List.getElem_toArray, List.getElem_cons_succ, List.getElem_cons_zero]
          go_simp
          go_at_call 24
          refine HWd.out.mono ?_
          rintro e w6 ⟨A6, c6, rfl, hown6, hb6⟩
          have hBx6 := hBx5.kept hb6
          have hBR6 := hBR.kept hb6
          have hS6 : (fun W' : World => (∀ i, W'.cell? ⟨wr.heap.size, i, none⟩ = (#[.int .i64 id, .int .u32 v, .bool false] : Array Value)[i]?) ∧ (∀ i, W'.cell? ⟨g2, i, none⟩ = (#[.slice Aw3 n cw3, .slice A3 s2.cs.length c3, .int .i64 s2.k, .bool (!s2.on)] : Array Value)[i]?)) w6 := ⟨hBx6.cell, hBR6.cell⟩
          refine hK.out _ _ hS6 ?_
          clear hK K
          (try simp only [List.getElem_toArray, List.getElem_cons_succ, List.getElem_cons_zero, Act.put, List.setIfInBounds_toArray, List.set_cons_zero, List.set_cons_succ])
          refine wpAnyH_call (i := 20) (by kernel_rfl) rfl (by kernel_rfl) fun K hK => ?_
          simp only [List.getElem_toArray, List.getElem_cons_succ, List.getElem_cons_zero]
          go_simp
          go_at_call 14
          refine (sameWords_any A6 Aw3 n n c6 cw3 s2.ws s2.ws _ HKl.out HKl.out (by omega) (by omega) (Rd.of_own hown6) ((hrd3.below hb6).more hb6.size)).mono ?_
          rintro e w7 ⟨rfl, hb7⟩
          have hBx7 := hBx6.kept hb7
          have hBR7 := hBR6.kept hb7
          have hS7 : (fun W' : World => (∀ i, W'.cell? ⟨wr.heap.size, i, none⟩ = (#[.int .i64 id, .int .u32 v, .bool false] : Array Value)[i]?) ∧ (∀ i, W'.cell? ⟨g2, i, none⟩ = (#[.slice Aw3 n cw3, .slice A3 s2.cs.length c3, .int .i64 s2.k, .bool (!s2.on)] : Array Value)[i]?)) w7 := ⟨hBx7.cell, hBR7.cell⟩
          refine hK.out _ _ hS7 ?_
          clear hK K
          (try simp only [List.getElem_toArray, List.getElem_cons_succ, List.getElem_cons_zero, Act.put, List.setIfInBounds_toArray, List.set_cons_zero, List.set_cons_succ])
          refine wpAnyH_take (i := 21) (v := ?va21) rfl (by kernel_rfl) (by kernel_rfl) (by kernel_rfl) (fun _ _ _ h => h) (Or.inl ⟨by kernel_rfl, ?hya21⟩) hS7 ?resta21
          case hya21 =>
            intro w hSw
            clear hSw
            go_simp
            first | done | with_reducible rfl
          (try simp only [List.getElem_toArray, List.getElem_cons_succ, List.getElem_cons_zero, Act.put, List.setIfInBounds_toArray, List.set_cons_zero, List.set_cons_succ])
          refine wpAnyH_take (i := 22) (v := ?va22) rfl (by kernel_rfl) (by kernel_rfl) (by kernel_rfl) (fun _ _ _ h => h) (Or.inl ⟨by kernel_rfl, ?hya22⟩) hS7 ?resta22
          case hya22 =>
            intro w hSw
            clear hSw
            go_simp
            first | done | with_reducible rfl
          (try simp only [List.getElem_toArray, List.getElem_cons_succ, List.getElem_cons_zero, Act.put, List.setIfInBounds_toArray, List.set_cons_zero, List.set_cons_succ])
          refine wpAnyH_done (by kernel_rfl) ?_ _
          have hb8 := hb6.trans (hb7.mono hb6.size)
          have HI : Hid (BInv w B1 B2 B3 g g2 n (k + 1) w7) := Lib.hid ⟨s2, by have := HKp.out; rwa [show (5 : Int) * ((k : Int) + 1) = 5 * (k : Int) + 5 by omega], hs5.kept hb8, hr5.kept hb8, hb5.trans (hb8.mono hb5.size), Nat.le_trans hz5 hb8.size, hB1, hB12, hB2⟩
          clear hS1 hS4 hS5 hS6 hS7 hBx hBx4 hBx5 hBx6 hBx7 hBR hBR6 hBR7 hb hb1 hb4 hb5 hb6 hb7 hb8 hs1 hs4 hs5 hr1 hr4 hr5 hn4 hn5 ho3 hrd3 hR0 hRg hRc hRr hown6
          go_wp2
          go_roundw
          case rel => exact ⟨k + 1, by omega, by go_num, by simpa using HI.out⟩
          case measure => simp [intOf]; omega
      · obtain ⟨s, hKp, hs, hrr, hb, hz, hB1, hB12, hB2⟩ := hInv
        clear hKp hs hrr
        go_wp2
        go_ret
        exact ⟨rfl, hb⟩
  · have H := Lib.hid h
    clear h
    go_enter Try.func6, Try.ntmps6
    go_wp2_with (first
      | (go_at_call 8; refine (awake13_any _).mono ?_; rintro e w0 ⟨rfl, hb0⟩)
      | (go_at_call 9; exfalso; refine H.out ?_; omega))
    all_goals (go_ret; exact ⟨rfl, hb0⟩)
end Go.Proofs.Ytpenjfkdinmgmaa
