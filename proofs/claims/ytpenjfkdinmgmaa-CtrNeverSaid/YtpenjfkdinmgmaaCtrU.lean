/- Chapter 13: wherever power is lost, a counter is what it was or what it was to be: the law CtrNever. -/
import Derived.Test.YtpenjfkdinmgmaaCtrR
import Derived.BigQuiet
namespace Go.Proofs.Ytpenjfkdinmgmaa
set_option linter.unusedVariables false
set_option linter.unusedSimpArgs false
open Go.RowKit Go.Sort Go.ChangeShapes Go.WideShapes

theorem counter_eql (w : World) (a b c d : Int) : (binOp .eql 60 (.agg #[.int .u32 a, .int .i64 b]) (.agg #[.int .u32 c, .int .i64 d])).run Try.prog w = .ok (.bool (a == c && b == d)) w := by
  have h := eql_flat w (show flatOf Try.prog 5 60 = some [.int .u32, .int .i64] by kernel_rfl) (by kernel_rfl) (by decide) (by kernel_rfl) (xs := [.int .u32 a, .int .i64 b]) (ys := [.int .u32 c, .int .i64 d]) ⟨rfl, rfl, trivial⟩ ⟨rfl, rfl, trivial⟩
  have e : eqLeaves [Value.int .u32 a, .int .i64 b] [.int .u32 c, .int .i64 d] = (a == c && b == d) := by simp [eqLeaves]
  rw [e] at h
  exact h
set_option maxRecDepth 100000 in
set_option maxHeartbeats 4000000 in
theorem never_any (A : Option Addr) (n c : Nat) (l : List Int) (id v ca cm : Int) (hl : l.length = n) (hu : U32s l) (hv : 0 ≤ v ∧ v < 4294967296) (w : World) (hr : Rd w w.heap.size 1 A n (l.flatMap encU)) :
    Calls Try.prog 7 #[.slice A n c, .int .i64 id, .int .u32 v, .agg #[.int .i64 ca, .int .u32 cm]] w fun e w' => e = .returned (.bool true) ∧ Below w.heap.size w w' := by
  by_cases hn : n ≤ 200
  · have HR := Lib.hid hr
    have HL := Lib.hid hl
    obtain ⟨p1, p2, p3, p4, p5⟩ := bump_plain ⟨true, 0, [(ca, cm)], l⟩ id v hu rfl hv
    have hkp := bumpN_keep ⟨true, 0, [(ca, cm)], l⟩ id v n 0 hv ⟨hl, hu, Int.le_refl _, Int.le_refl _, Int.le_refl _, .inl rfl⟩
    have HA0 := Lib.hid (fun (g : Nat) (base : Nat → Prop) (W : World) (h : Sto W base g ⟨true, 0, [(ca, cm)], l⟩) => all_any g base _ (n / 8) ((n / 8 : Nat) : Int) W h hu (by simp only; omega) (by omega) (.inl rfl))
    have HCt := Lib.hid (fun (g : Nat) (base : Nat → Prop) (W : World) (h : Sto W base g ⟨true, 0, [(ca, cm)], l⟩) => by
      have := count_any g base _ W h (by simp only; omega)
      simp only [hl] at this
      exact this)
    have HB := Lib.hid (fun (g : Nat) (base : Nat → Prop) (W : World) (h : Sto W base g ⟨true, 0, [(ca, cm)], l⟩) (hb : ∀ i, base i → i < W.heap.size) => bump_any g base _ id v W h hu (by simp only; omega) hb (Int.le_refl _) (show (0 : Int) < 900000 by decide) hv.1 hv.2)
    simp only at p1 p4 p5 HA0
    obtain ⟨r, hbs⟩ : ∃ r, bumpN ⟨true, 0, [(ca, cm)], l⟩ id v = r := ⟨_, rfl⟩
    obtain ⟨f, s1⟩ := r
    rw [hbs] at p1 p3 p4 p5 HB hkp
    simp only at p1 p3 p4 p5 HB hkp
    have HRb := Lib.hid (fun (g : Nat) (base : Nat → Prop) (W : World) (h : Sto W base g s1) => reboot_any g base s1 W h hkp.2.2.2.2.2)
    have HA1 := Lib.hid (fun (g : Nat) (base : Nat → Prop) (W : World) (h : Sto W base g (upN s1)) => all_any g base (upN s1) (n / 8) ((n / 8 : Nat) : Int) W h p3 (by show s1.ws.length ≤ 100000; rw [p1]; omega) (by omega) (.inl rfl))
    have HP4 := Lib.hid p4
    have HP5 := Lib.hid p5
    have hup : (upN s1).ws = s1.ws := rfl
    rw [hup] at HA1
    clear hr hl hu hv p1 p2 p3 p4 p5 hkp hbs hup
    have HN25 : Hid (n / 8 ≤ 25) := Lib.hid (by omega)
    generalize n / 8 = N at *
    go_enter Try.func7, Try.ntmps7
    go_wp2_with (first
      | (go_at_call 8; refine (awake13_any _).mono ?_; rintro e' w0 ⟨rfl, hb0'⟩; have cX := ((Blk.new w 58 #[.int .i64 ca, .int .u32 cm]).kept hb0').cell; have hb0 := (bal (Below.refl w.heap.size w) _).trans (hb0'.mono (bal (Below.refl w.heap.size w) _).size); have hz0 := hb0.size; have hbc := hb0.alloc hz0 (.cells #[.int .i64 ca, .int .u32 cm] 58); have hrc := (HR.out.below hbc).more hbc.size; have hrd : Rd (w0.alloc (.cells #[.int .i64 ca, .int .u32 cm] 58)) (w0.alloc (.cells #[.int .i64 ca, .int .u32 cm] 58)).heap.size 2 (some ⟨w0.heap.size, 0, none⟩) 1 ([(ca, cm)].flatMap encC) := Rd.fresh w0 #[.int .i64 ca, .int .u32 cm] 58 1 2 _ rfl; have hzc := hbc.size)
      | (go_at_call 9; refine (new_any A _ n c 1 _ l [(ca, cm)] _ HL.out rfl (by omega) (by decide) hrc hrd).mono ?_; rintro e' w1 ⟨g, rfl, hs1, hb1⟩; have hb2 := hbc.trans (hb1.mono hzc); have hs2 := Sto.bound (s := ⟨true, 0, [(ca, cm)], l⟩) hs1; have hz2 := hb2.size)
      | (go_at_call 16; refine (HCt.out g _ _ hs2).mono ?_; rintro e' w1 ⟨rfl, rfl⟩)
      | (go_at_call 19; with_reducible (refine (HA0.out g _ _ hs2).mono ?_); rintro e' w3 ⟨v3, rfl, hrow3, hb3⟩; obtain ⟨A3, c3, rfl, _, _⟩ := own_slice hrow3; have hs3 := hs2.kept hb3; have hz3 := hb3.size; have hb4 := hb2.trans (hb3.mono hz2))
      | (go_at_call 11; with_reducible (refine (HB.out g _ _ hs3 (fun i hi => Nat.lt_of_lt_of_le hi.2 hz3)).mono ?_); rintro e' w4 ⟨rfl, hs4, hn4⟩; have hz4 := hn4.size)
      | (go_at_call 21; with_reducible (refine (HRb.out g _ _ hs4).mono ?_); rintro e' w5 ⟨rfl, hs5, hn5⟩; have hz5 := hn5.size; have hn6 := hn4.trans hn5)
      | (go_at_call 19; with_reducible (refine (HA1.out g _ _ hs5).mono ?_); rintro e' w6 ⟨v6, rfl, hrow6, hb6⟩; obtain ⟨A6, c6, rfl, _, hr6⟩ := own_slice hrow6))
    have hrow5 := own_kept (own_same hrow3 (fun i hi => hn6.block i (own_lt hrow3 hi).2 (fun hb => by have h1 := hb.2; have h2 : w1.heap.size ≤ i := (own_lt hrow3 hi).1; omega))) hb6
    have HrW := Lib.hid (Rd.of_own hrow5)
    have HrN := Lib.hid hr6
    have hn6b := hn6.below (B := w.heap.size) (fun i hi => Nat.le_trans hzc hi.1) hb4.size
    have hb8 := (hb4.trans hn6b).trans (hb6.mono (Nat.le_trans hb4.size hn6.size))
    have HLn := Lib.hid (allN_len s1.ws N)
    have HLw := Lib.hid (allN_len l N)
    have HGn := Lib.hid (fun k (h : k < N) => allN_get s1.ws h)
    have HGw := Lib.hid (fun k (h : k < N) => allN_get l h)
    have HBt := Lib.hid hb8
    clear hrow3 hrow5 hrow6 hr6 hn6b hn6 hn4 hn5 hb8 hb6 hb4 hb3 hb2 hb1 hbc hrc hrd hs1 hs2 hs3 hs4 hs5 hb0 hb0' cX HA0 HA1 HB HRb HCt HR HL
    clear hz0 hzc hz2 hz3 hz4 hz5
    go_loopw [46] (fun i wr => ∃ k : Nat, k ≤ N ∧ i = .int .i64 k ∧ Below w6.heap.size w6 wr) (fun i _ => N - (intOf i).toNat)
    case atStart => exact ⟨0, by omega, rfl, Below.refl _ _⟩
    case round =>
      obtain ⟨k, hk, rfl, hbr⟩ := hrel
      have h25 := HN25.out
      by_cases hlt : k < N
      · have hln : k < (allN s1.ws N).length := by rw [HLn.out]; exact hlt
        have hlw : k < (allN l N).length := by rw [HLw.out]; exact hlt
        obtain ⟨b1, o1, rfl, hbk1, hc1⟩ := ((HrN.out.below hbr).more hbr.size).row (fun _ => rfl) hln HLn.out
        obtain ⟨b2, o2, rfl, hbk2, hc2⟩ := ((HrW.out.below hbr).more hbr.size).row (fun _ => rfl) hlw HLw.out
        have d0 := hc1 0 (by omega)
        have d1 := hc1 1 (by omega)
        have e0 := hc2 0 (by omega)
        have e1 := hc2 1 (by omega)
        have g1 : (allN s1.ws N)[k] = recN s1.ws k := Option.some.inj ((List.getElem?_eq_getElem hln).symm.trans (HGn.out k hlt))
        have g2 : (allN l N)[k] = recN l k := Option.some.inj ((List.getElem?_eq_getElem hlw).symm.trans (HGw.out k hlt))
        rw [g1] at d0 d1
        rw [g2] at e0 e1
        simp only [encK, Nat.add_zero, List.getElem?_cons_zero, List.getElem?_cons_succ, ← Nat.add_assoc] at d0 d1 e0 e1
        have h4 := HP4.out k
        have h5 := HP5.out
        clear hc1 hc2 g1 g2 hln hlw HP4
        obtain ⟨Rn, hRn⟩ : ∃ R, recN s1.ws k = R := ⟨_, rfl⟩
        obtain ⟨Rw, hRw⟩ : ∃ R, recN l k = R := ⟨_, rfl⟩
        rw [hRn] at d0 d1 h4
        rw [hRw] at e0 e1 h4
        obtain ⟨eN, aN, qN, xN⟩ := Rn
        obtain ⟨eW, aW, qW, xW⟩ := Rw
        simp only at d0 d1 e0 e1
        have hq0 : ∀ w, (binOp .eql 60 (.agg #[.int .u32 xN, .int .i64 eN]) (.agg #[.int .u32 xW, .int .i64 eW])).run Try.prog w = .ok (.bool (xN == xW && eN == eW)) w := fun w => counter_eql w _ _ _ _
        by_cases hid : (k : Int) = id
        · subst hid
          rw [hRn, hRw] at h5
          simp only at h5
          clear h4 hRn hRw
          rcases h5 with ⟨h6, h7, h8, h9⟩ | ⟨h6, h7, h8⟩
          · subst h6
            have h7' : xW < v := by omega
            clear HP5
            by_cases heq : xN = xW ∧ eN = 0
            · obtain ⟨rfl, rfl⟩ := heq
              have hq : ∀ w, (binOp .eql 60 (.agg #[.int .u32 xN, .int .i64 0]) (.agg #[.int .u32 xN, .int .i64 0])).run Try.prog w = .ok (.bool true) w := fun w => by rw [hq0]; simp
              clear hq0
              have h10 : xN = v := by
                rcases h8 with ⟨_, h⟩ | h
                · exact h
                · simp at h
              omega
            · have hq : ∀ w, (binOp .eql 60 (.agg #[.int .u32 xN, .int .i64 eN]) (.agg #[.int .u32 xW, .int .i64 0])).run Try.prog w = .ok (.bool false) w := fun w => by
                rw [hq0]
                have : (xN == xW && eN == 0) = false := by
                  rw [Bool.eq_false_iff]; intro h; apply heq; simpa using h
                rw [this]
              clear hq0 heq
              rcases h8 with ⟨rfl, rfl⟩ | h8
              · skip
                by_cases he : f = 0
                · subst he
                  have D0 := fun (d : Nat) (os : Array Obj) => ((below_regrown wr d os).cell (p := ⟨b1, o1 + k * 2, none⟩) hbk1).trans d0
                  have D1 := fun (d : Nat) (os : Array Obj) => ((below_regrown wr d os).cell (p := ⟨b1, o1 + k * 2 + 1, none⟩) hbk1).trans d1
                  have D2 := fun (d : Nat) (os : Array Obj) => ((below_regrown wr d os).cell (p := ⟨b2, o2 + k * 2, none⟩) hbk2).trans e0
                  have D3 := fun (d : Nat) (os : Array Obj) => ((below_regrown wr d os).cell (p := ⟨b2, o2 + k * 2 + 1, none⟩) hbk2).trans e1
                  go_wp2_with fail
                  refine wp_region_quiet_below (by kernel_rfl) (by kernel_rfl) ?_
                  repeat (go_big_quiet_step (fail))
                  refine wpQuiet_nil ?_
                  rintro w7 ⟨p7, rfl⟩
                  have hx7 := below_regrown wr p7.d p7.os
                  have hb7 := hbr.trans (hx7.mono hbr.size)
                  have c0 := D0 p7.d p7.os
                  have c1 := D1 p7.d p7.os
                  have c2 := D2 p7.d p7.os
                  generalize grow (redrawn wr p7.d) p7.os = w7 at hb7 hx7 c0 c1 c2 ⊢
                  clear D0 D1 D2 D3 hx7
                  go_wp2
                  go_roundw
                  case rel => exact ⟨k + 1, by omega, by go_num, hb7⟩
                  case measure => simp [intOf]; omega
                · have he2 : f = 100 := by omega
                  subst he2
                  have D0 := fun (d : Nat) (os : Array Obj) => ((below_regrown wr d os).cell (p := ⟨b1, o1 + k * 2, none⟩) hbk1).trans d0
                  have D1 := fun (d : Nat) (os : Array Obj) => ((below_regrown wr d os).cell (p := ⟨b1, o1 + k * 2 + 1, none⟩) hbk1).trans d1
                  have D2 := fun (d : Nat) (os : Array Obj) => ((below_regrown wr d os).cell (p := ⟨b2, o2 + k * 2, none⟩) hbk2).trans e0
                  have D3 := fun (d : Nat) (os : Array Obj) => ((below_regrown wr d os).cell (p := ⟨b2, o2 + k * 2 + 1, none⟩) hbk2).trans e1
                  go_wp2_with fail
                  refine wp_region_quiet_below (by kernel_rfl) (by kernel_rfl) ?_
                  repeat (go_big_quiet_step (fail))
                  refine wpQuiet_nil ?_
                  rintro w7 ⟨p7, rfl⟩
                  have hx7 := below_regrown wr p7.d p7.os
                  have hb7 := hbr.trans (hx7.mono hbr.size)
                  have c0 := D0 p7.d p7.os
                  have c1 := D1 p7.d p7.os
                  have c2 := D2 p7.d p7.os
                  generalize grow (redrawn wr p7.d) p7.os = w7 at hb7 hx7 c0 c1 c2 ⊢
                  clear D0 D1 D2 D3 hx7
                  go_wp2
                  go_roundw
                  case rel => exact ⟨k + 1, by omega, by go_num, hb7⟩
                  case measure => simp [intOf]; omega
              · simp only at h8
                subst h8
                by_cases hxv : xN = v
                · have hxv' : (xN == v) = true := by simpa using hxv
                  clear hxv
                  by_cases he : f = 0
                  · subst he
                    have D0 := fun (d : Nat) (os : Array Obj) => ((below_regrown wr d os).cell (p := ⟨b1, o1 + k * 2, none⟩) hbk1).trans d0
                    have D1 := fun (d : Nat) (os : Array Obj) => ((below_regrown wr d os).cell (p := ⟨b1, o1 + k * 2 + 1, none⟩) hbk1).trans d1
                    have D2 := fun (d : Nat) (os : Array Obj) => ((below_regrown wr d os).cell (p := ⟨b2, o2 + k * 2, none⟩) hbk2).trans e0
                    have D3 := fun (d : Nat) (os : Array Obj) => ((below_regrown wr d os).cell (p := ⟨b2, o2 + k * 2 + 1, none⟩) hbk2).trans e1
                    go_wp2_with fail
                    refine wp_region_quiet_below (by kernel_rfl) (by kernel_rfl) ?_
                    repeat (go_big_quiet_step (fail))
                    refine wpQuiet_nil ?_
                    rintro w7 ⟨p7, rfl⟩
                    have hx7 := below_regrown wr p7.d p7.os
                    have hb7 := hbr.trans (hx7.mono hbr.size)
                    have c0 := D0 p7.d p7.os
                    have c1 := D1 p7.d p7.os
                    have c2 := D2 p7.d p7.os
                    generalize grow (redrawn wr p7.d) p7.os = w7 at hb7 hx7 c0 c1 c2 ⊢
                    clear D0 D1 D2 D3 hx7
                    go_wp2
                    go_roundw
                    case rel => exact ⟨k + 1, by omega, by go_num, hb7⟩
                    case measure => simp [intOf]; omega
                  · have he2 : f = 100 := by omega
                    subst he2
                    have D0 := fun (d : Nat) (os : Array Obj) => ((below_regrown wr d os).cell (p := ⟨b1, o1 + k * 2, none⟩) hbk1).trans d0
                    have D1 := fun (d : Nat) (os : Array Obj) => ((below_regrown wr d os).cell (p := ⟨b1, o1 + k * 2 + 1, none⟩) hbk1).trans d1
                    have D2 := fun (d : Nat) (os : Array Obj) => ((below_regrown wr d os).cell (p := ⟨b2, o2 + k * 2, none⟩) hbk2).trans e0
                    have D3 := fun (d : Nat) (os : Array Obj) => ((below_regrown wr d os).cell (p := ⟨b2, o2 + k * 2 + 1, none⟩) hbk2).trans e1
                    go_wp2_with fail
                    refine wp_region_quiet_below (by kernel_rfl) (by kernel_rfl) ?_
                    repeat (go_big_quiet_step (fail))
                    refine wpQuiet_nil ?_
                    rintro w7 ⟨p7, rfl⟩
                    have hx7 := below_regrown wr p7.d p7.os
                    have hb7 := hbr.trans (hx7.mono hbr.size)
                    have c0 := D0 p7.d p7.os
                    have c1 := D1 p7.d p7.os
                    have c2 := D2 p7.d p7.os
                    generalize grow (redrawn wr p7.d) p7.os = w7 at hb7 hx7 c0 c1 c2 ⊢
                    clear D0 D1 D2 D3 hx7
                    go_wp2
                    go_roundw
                    case rel => exact ⟨k + 1, by omega, by go_num, hb7⟩
                    case measure => simp [intOf]; omega
                · have hxv' : (xN == v) = false := by simpa using hxv
                  clear hxv
                  by_cases he : f = 0
                  · subst he
                    have D0 := fun (d : Nat) (os : Array Obj) => ((below_regrown wr d os).cell (p := ⟨b1, o1 + k * 2, none⟩) hbk1).trans d0
                    have D1 := fun (d : Nat) (os : Array Obj) => ((below_regrown wr d os).cell (p := ⟨b1, o1 + k * 2 + 1, none⟩) hbk1).trans d1
                    have D2 := fun (d : Nat) (os : Array Obj) => ((below_regrown wr d os).cell (p := ⟨b2, o2 + k * 2, none⟩) hbk2).trans e0
                    have D3 := fun (d : Nat) (os : Array Obj) => ((below_regrown wr d os).cell (p := ⟨b2, o2 + k * 2 + 1, none⟩) hbk2).trans e1
                    go_wp2_with fail
                    refine wp_region_quiet_below (by kernel_rfl) (by kernel_rfl) ?_
                    repeat (go_big_quiet_step (fail))
                    refine wpQuiet_nil ?_
                    rintro w7 ⟨p7, rfl⟩
                    have hx7 := below_regrown wr p7.d p7.os
                    have hb7 := hbr.trans (hx7.mono hbr.size)
                    have c0 := D0 p7.d p7.os
                    have c1 := D1 p7.d p7.os
                    have c2 := D2 p7.d p7.os
                    generalize grow (redrawn wr p7.d) p7.os = w7 at hb7 hx7 c0 c1 c2 ⊢
                    clear D0 D1 D2 D3 hx7
                    go_wp2
                    go_roundw
                    case rel => exact ⟨k + 1, by omega, by go_num, hb7⟩
                    case measure => simp [intOf]; omega
                  · have he2 : f = 100 := by omega
                    subst he2
                    have D0 := fun (d : Nat) (os : Array Obj) => ((below_regrown wr d os).cell (p := ⟨b1, o1 + k * 2, none⟩) hbk1).trans d0
                    have D1 := fun (d : Nat) (os : Array Obj) => ((below_regrown wr d os).cell (p := ⟨b1, o1 + k * 2 + 1, none⟩) hbk1).trans d1
                    have D2 := fun (d : Nat) (os : Array Obj) => ((below_regrown wr d os).cell (p := ⟨b2, o2 + k * 2, none⟩) hbk2).trans e0
                    have D3 := fun (d : Nat) (os : Array Obj) => ((below_regrown wr d os).cell (p := ⟨b2, o2 + k * 2 + 1, none⟩) hbk2).trans e1
                    go_wp2_with fail
                    refine wp_region_quiet_below (by kernel_rfl) (by kernel_rfl) ?_
                    repeat (go_big_quiet_step (fail))
                    refine wpQuiet_nil ?_
                    rintro w7 ⟨p7, rfl⟩
                    have hx7 := below_regrown wr p7.d p7.os
                    have hb7 := hbr.trans (hx7.mono hbr.size)
                    have c0 := D0 p7.d p7.os
                    have c1 := D1 p7.d p7.os
                    have c2 := D2 p7.d p7.os
                    generalize grow (redrawn wr p7.d) p7.os = w7 at hb7 hx7 c0 c1 c2 ⊢
                    clear D0 D1 D2 D3 hx7
                    go_wp2
                    go_roundw
                    case rel => exact ⟨k + 1, by omega, by go_num, hb7⟩
                    case measure => simp [intOf]; omega
          · subst h7 h8
            have hq : ∀ w, (binOp .eql 60 (.agg #[.int .u32 xN, .int .i64 eN]) (.agg #[.int .u32 xN, .int .i64 eN])).run Try.prog w = .ok (.bool true) w := fun w => by rw [hq0]; simp
            have h6' : (f != 0) = true := by simpa using h6
            clear hq0 h6 HP5
            have D0 := fun (d : Nat) (os : Array Obj) => ((below_regrown wr d os).cell (p := ⟨b1, o1 + k * 2, none⟩) hbk1).trans d0
            have D1 := fun (d : Nat) (os : Array Obj) => ((below_regrown wr d os).cell (p := ⟨b1, o1 + k * 2 + 1, none⟩) hbk1).trans d1
            have D2 := fun (d : Nat) (os : Array Obj) => ((below_regrown wr d os).cell (p := ⟨b2, o2 + k * 2, none⟩) hbk2).trans e0
            have D3 := fun (d : Nat) (os : Array Obj) => ((below_regrown wr d os).cell (p := ⟨b2, o2 + k * 2 + 1, none⟩) hbk2).trans e1
            go_wp2_with fail
            refine wp_region_quiet_below (by kernel_rfl) (by kernel_rfl) ?_
            repeat (go_big_quiet_step (fail))
            refine wpQuiet_nil ?_
            rintro w7 ⟨p7, rfl⟩
            have hx7 := below_regrown wr p7.d p7.os
            have hb7 := hbr.trans (hx7.mono hbr.size)
            have c0 := D0 p7.d p7.os
            have c1 := D1 p7.d p7.os
            have c2 := D2 p7.d p7.os
            generalize grow (redrawn wr p7.d) p7.os = w7 at hb7 hx7 c0 c1 c2 ⊢
            clear D0 D1 D2 D3 hx7
            go_wp2
            go_roundw
            case rel => exact ⟨k + 1, by omega, by go_num, hb7⟩
            case measure => simp [intOf]; omega
        · have h6 := h4 hid
          injection h6 with h61 h62 h63 h64
          subst h61 h64
          have hq : ∀ w, (binOp .eql 60 (.agg #[.int .u32 xN, .int .i64 eN]) (.agg #[.int .u32 xN, .int .i64 eN])).run Try.prog w = .ok (.bool true) w := fun w => by rw [hq0]; simp
          have h6' : ((k : Int) != id) = true := by simpa using hid
          clear hq0 h4 h5 hRn hRw hid HP5
          have D0 := fun (d : Nat) (os : Array Obj) => ((below_regrown wr d os).cell (p := ⟨b1, o1 + k * 2, none⟩) hbk1).trans d0
          have D1 := fun (d : Nat) (os : Array Obj) => ((below_regrown wr d os).cell (p := ⟨b1, o1 + k * 2 + 1, none⟩) hbk1).trans d1
          have D2 := fun (d : Nat) (os : Array Obj) => ((below_regrown wr d os).cell (p := ⟨b2, o2 + k * 2, none⟩) hbk2).trans e0
          have D3 := fun (d : Nat) (os : Array Obj) => ((below_regrown wr d os).cell (p := ⟨b2, o2 + k * 2 + 1, none⟩) hbk2).trans e1
          go_wp2_with fail
          refine wp_region_quiet_below (by kernel_rfl) (by kernel_rfl) ?_
          repeat (go_big_quiet_step (fail))
          refine wpQuiet_nil ?_
          rintro w7 ⟨p7, rfl⟩
          have hx7 := below_regrown wr p7.d p7.os
          have hb7 := hbr.trans (hx7.mono hbr.size)
          have c0 := D0 p7.d p7.os
          have c1 := D1 p7.d p7.os
          have c2 := D2 p7.d p7.os
          generalize grow (redrawn wr p7.d) p7.os = w7 at hb7 hx7 c0 c1 c2 ⊢
          clear D0 D1 D2 D3 hx7
          go_wp2
          go_roundw
          case rel => exact ⟨k + 1, by omega, by go_num, hb7⟩
          case measure => simp [intOf]; omega
      · obtain rfl : k = N := by omega
        go_wp2
        go_ret
        exact ⟨rfl, HBt.out.trans (hbr.mono HBt.out.size)⟩
  · generalize hcs : (#[.int .i64 ca, .int .u32 cm] : Array Value) = cs at *
    go_enter Try.func7, Try.ntmps7
    go_wp2_with (go_at_call 8; refine (awake13_any _).mono ?_; rintro e w0 ⟨rfl, hb0⟩)
    go_ret
    exact ⟨rfl, below_alloc hb0⟩
end Go.Proofs.Ytpenjfkdinmgmaa
