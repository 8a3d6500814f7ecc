/- Chapter 13: a counter that rose tells its new value: the law CtrRises. -/
import Derived.Test.YtpenjfkdinmgmaaCtrQ
import Derived.Test.YtpenjfkdinmgmaaCtrO
import Derived.Test.YtpenjfkdinmgmaaOpenU
namespace Go.Proofs.Ytpenjfkdinmgmaa
set_option linter.unusedVariables false
set_option linter.unusedSimpArgs false
open Go.RowKit Go.Sort Go.ChangeShapes Go.WideShapes

/-- A rise without cuts. -/
theorem bump_rise (s : Stt) (id v : Int) (hu : U32s s.ws) (ho : s.on = true) (hcs : s.cs = []) (hv : 0 ≤ v ∧ v < 4294967296) (he : (recN s.ws id).err = 0) (h1 : ¬ v ≤ (recN s.ws id).v) (h2 : ¬ v = 4294967295) :
    (bumpN s id v).1 = 0 ∧ rose (recN (bumpN s id v).2.ws id) v := by
  have hp := bump_plain s id v hu ho hv
  have h0 : (bumpN s id v).1 = 0 := by
    obtain ⟨k, rfl, hk, ha, hq0, hq1, hx0, hx1⟩ := rec_ok hu he
    unfold bumpN
    rw [if_neg (by rw [he]; decide), if_neg h1, if_neg h2]
    have hbe : (8 * (k : Int) + 4 * ((1 - (recN s.ws k).at_ : Nat) : Int)) = ((8 * k + 4 * (1 - (recN s.ws k).at_) : Nat) : Int) := by omega
    rw [hbe]
    obtain ⟨_, _, _, _, i5⟩ := bumpK_spec (8 * k + 4 * (1 - (recN s.ws k).at_)) (stepsN k (s.ws.getD (8 * (k : Int).toNat + 4 * (1 - (recN s.ws k).at_)) 0) ((recN s.ws k).q + 1) v) s ho (stepsN_at _ _ _ _) (steps_ok _ _ _ _ (by omega) (by omega) hv.1 hv.2) (by omega) hu
    rcases i5 with h | h
    · exact h.1
    · exact absurd hcs h.2.1
  rcases hp.2.2.2.2 with h | h
  · exact ⟨h0, h.2.2.1⟩
  · exact absurd h0 h.1
theorem bump_stay (s : Stt) (id v : Int) : ((recN s.ws id).err ≠ 0 → bumpN s id v = ((recN s.ws id).err, s)) ∧ ((recN s.ws id).err = 0 → v ≤ (recN s.ws id).v → bumpN s id v = (132, s)) ∧
    ((recN s.ws id).err = 0 → ¬ v ≤ (recN s.ws id).v → v = 4294967295 → bumpN s id v = (131, s)) := by
  refine ⟨fun h => ?_, fun h h1 => ?_, fun h h1 h2 => ?_⟩
  · unfold bumpN; rw [if_pos h]
  · unfold bumpN; rw [if_neg (by rw [h]; decide), if_pos h1]
  · unfold bumpN; rw [if_neg (by rw [h]; decide), if_neg h1, if_pos h2]
set_option maxRecDepth 100000 in
set_option maxHeartbeats 4000000 in
theorem rises_walk (A : Option Addr) (n c : Nat) (l : List Int) (id v : Int) (hl : l.length = n) (hn : n ≤ 200) (w : World) (hr : Rd w w.heap.size 1 A n (l.flatMap encU)) (s1 : Stt) (e x f y gg kk : Int)
    (H1 : ∀ (g : Nat) (base : Nat → Prop) (W : World), Sto W base g ⟨true, 0, [], l⟩ → Calls Try.prog 10 #[.pointer (some ⟨g, 0, none⟩), .int .i64 id] W fun e' w' => e' = .returned (.tuple #[.int .u32 x, .int .i64 e]) ∧ Below W.heap.size W w')
    (HB : ∀ (g : Nat) (base : Nat → Prop) (W : World), Sto W base g ⟨true, 0, [], l⟩ → (∀ i, base i → i < W.heap.size) → Calls Try.prog 11 #[.pointer (some ⟨g, 0, none⟩), .int .i64 id, .int .u32 v] W fun e' w' => e' = .returned (.int .i64 f) ∧ Sto w' base g s1 ∧ Near base W w')
    (H2 : ∀ (g : Nat) (base : Nat → Prop) (W : World), Sto W base g s1 → Calls Try.prog 10 #[.pointer (some ⟨g, 0, none⟩), .int .i64 id] W fun e' w' => e' = .returned (.tuple #[.int .u32 y, .int .i64 gg]) ∧ Below W.heap.size W w')
    (HW : ∀ (g : Nat) (base : Nat → Prop) (W : World), Sto W base g s1 → Calls Try.prog 12 #[.pointer (some ⟨g, 0, none⟩)] W fun e' w' => e' = .returned (.int .i64 kk) ∧ W = w')
    (hc : ((e == 0) = false ∧ f = e ∧ kk = 0) ∨ (e = 0 ∧ v ≤ x ∧ f = 132 ∧ kk = 0 ∧ y = x) ∨ (e = 0 ∧ ¬ v ≤ x ∧ v = 4294967295 ∧ f = 131 ∧ kk = 0 ∧ y = x) ∨ (e = 0 ∧ ¬ v ≤ x ∧ (v == 4294967295) = false ∧ f = 0 ∧ gg = 0 ∧ y = v) ∨ (e = 0 ∧ ¬ v ≤ x ∧ (v == 4294967295) = false ∧ f = 0 ∧ gg = 131)) :
    Calls Try.prog 3 #[.slice A n c, .int .i64 id, .int .u32 v] w fun e w' => e = .returned (.bool true) ∧ Below w.heap.size w w' := by
  have HR := Lib.hid hr
  have HL := Lib.hid hl
  have H1 := Lib.hid H1
  have HB := Lib.hid HB
  have H2 := Lib.hid H2
  have HW := Lib.hid HW
  clear hr hl
  rcases hc with ⟨h1, rfl, rfl⟩ | ⟨rfl, h1, rfl, rfl, rfl⟩ | ⟨rfl, h1, rfl, rfl, rfl, rfl⟩ | ⟨rfl, h1, h2, rfl, rfl, rfl⟩ | ⟨rfl, h1, h2, rfl, rfl⟩
  · have h1' : (f != 0) = true := by rw [bne, h1]; rfl
    go_enter Try.func3, Try.ntmps3
    go_wp2_with (first
      | (go_at_call 8; refine (awake13_any _).mono ?_; rintro e' w0 ⟨rfl, hb0⟩; have hr0 := HR.out.below hb0; have hz0 := hb0.size)
      | (go_at_call 9; refine (new_any A _ n c 0 _ l [] _ HL.out rfl (by omega) (by decide) (hr0.more hz0) Rd.nil).mono ?_; rintro e' w1 ⟨g, rfl, hs2, hb1⟩; have hb3 := hb0.trans (hb1.mono hz0); have hs2 := Sto.bound (s := ⟨true, 0, [], l⟩) hs2)
      | (go_at_call 10; with_reducible (refine (H1.out g _ _ hs2).mono ?_); rintro e' w3 ⟨rfl, hb4⟩; have hs3 := hs2.kept hb4; have hz3 := hb4.size; have hb5 := hb3.trans (hb4.mono hb3.size))
      | (go_at_call 11; with_reducible (refine (HB.out g _ _ hs3 (fun i hi => Nat.lt_of_lt_of_le hi.2 hz3)).mono ?_); rintro e' w4 ⟨rfl, hs4, hn4⟩; have hz4 := hn4.size; have hb6 := hb5.trans (hn4.below (fun i hi => Nat.le_trans hz0 hi.1) hb5.size))
      | (go_at_call 10; with_reducible (refine (H2.out g _ _ hs4).mono ?_); rintro e' w5 ⟨rfl, hb7⟩; have hs5 := hs4.kept hb7; have hz5 := hb7.size; have hb8 := hb6.trans (hb7.mono hb6.size))
      | (go_at_call 12; refine (HW.out g _ _ hs5).mono ?_; rintro e' w6 ⟨rfl, rfl⟩))
    go_ret
    exact ⟨rfl, hb8⟩
  · skip
    go_enter Try.func3, Try.ntmps3
    go_wp2_with (first
      | (go_at_call 8; refine (awake13_any _).mono ?_; rintro e' w0 ⟨rfl, hb0⟩; have hr0 := HR.out.below hb0; have hz0 := hb0.size)
      | (go_at_call 9; refine (new_any A _ n c 0 _ l [] _ HL.out rfl (by omega) (by decide) (hr0.more hz0) Rd.nil).mono ?_; rintro e' w1 ⟨g, rfl, hs2, hb1⟩; have hb3 := hb0.trans (hb1.mono hz0); have hs2 := Sto.bound (s := ⟨true, 0, [], l⟩) hs2)
      | (go_at_call 10; with_reducible (refine (H1.out g _ _ hs2).mono ?_); rintro e' w3 ⟨rfl, hb4⟩; have hs3 := hs2.kept hb4; have hz3 := hb4.size; have hb5 := hb3.trans (hb4.mono hb3.size))
      | (go_at_call 11; with_reducible (refine (HB.out g _ _ hs3 (fun i hi => Nat.lt_of_lt_of_le hi.2 hz3)).mono ?_); rintro e' w4 ⟨rfl, hs4, hn4⟩; have hz4 := hn4.size; have hb6 := hb5.trans (hn4.below (fun i hi => Nat.le_trans hz0 hi.1) hb5.size))
      | (go_at_call 10; with_reducible (refine (H2.out g _ _ hs4).mono ?_); rintro e' w5 ⟨rfl, hb7⟩; have hs5 := hs4.kept hb7; have hz5 := hb7.size; have hb8 := hb6.trans (hb7.mono hb6.size))
      | (go_at_call 12; refine (HW.out g _ _ hs5).mono ?_; rintro e' w6 ⟨rfl, rfl⟩))
    go_ret
    exact ⟨rfl, hb8⟩
  · skip
    go_enter Try.func3, Try.ntmps3
    go_wp2_with (first
      | (go_at_call 8; refine (awake13_any _).mono ?_; rintro e' w0 ⟨rfl, hb0⟩; have hr0 := HR.out.below hb0; have hz0 := hb0.size)
      | (go_at_call 9; refine (new_any A _ n c 0 _ l [] _ HL.out rfl (by omega) (by decide) (hr0.more hz0) Rd.nil).mono ?_; rintro e' w1 ⟨g, rfl, hs2, hb1⟩; have hb3 := hb0.trans (hb1.mono hz0); have hs2 := Sto.bound (s := ⟨true, 0, [], l⟩) hs2)
      | (go_at_call 10; with_reducible (refine (H1.out g _ _ hs2).mono ?_); rintro e' w3 ⟨rfl, hb4⟩; have hs3 := hs2.kept hb4; have hz3 := hb4.size; have hb5 := hb3.trans (hb4.mono hb3.size))
      | (go_at_call 11; with_reducible (refine (HB.out g _ _ hs3 (fun i hi => Nat.lt_of_lt_of_le hi.2 hz3)).mono ?_); rintro e' w4 ⟨rfl, hs4, hn4⟩; have hz4 := hn4.size; have hb6 := hb5.trans (hn4.below (fun i hi => Nat.le_trans hz0 hi.1) hb5.size))
      | (go_at_call 10; with_reducible (refine (H2.out g _ _ hs4).mono ?_); rintro e' w5 ⟨rfl, hb7⟩; have hs5 := hs4.kept hb7; have hz5 := hb7.size; have hb8 := hb6.trans (hb7.mono hb6.size))
      | (go_at_call 12; refine (HW.out g _ _ hs5).mono ?_; rintro e' w6 ⟨rfl, rfl⟩))
    go_ret
    exact ⟨rfl, hb8⟩
  · skip
    go_enter Try.func3, Try.ntmps3
    go_wp2_with (first
      | (go_at_call 8; refine (awake13_any _).mono ?_; rintro e' w0 ⟨rfl, hb0⟩; have hr0 := HR.out.below hb0; have hz0 := hb0.size)
      | (go_at_call 9; refine (new_any A _ n c 0 _ l [] _ HL.out rfl (by omega) (by decide) (hr0.more hz0) Rd.nil).mono ?_; rintro e' w1 ⟨g, rfl, hs2, hb1⟩; have hb3 := hb0.trans (hb1.mono hz0); have hs2 := Sto.bound (s := ⟨true, 0, [], l⟩) hs2)
      | (go_at_call 10; with_reducible (refine (H1.out g _ _ hs2).mono ?_); rintro e' w3 ⟨rfl, hb4⟩; have hs3 := hs2.kept hb4; have hz3 := hb4.size; have hb5 := hb3.trans (hb4.mono hb3.size))
      | (go_at_call 11; with_reducible (refine (HB.out g _ _ hs3 (fun i hi => Nat.lt_of_lt_of_le hi.2 hz3)).mono ?_); rintro e' w4 ⟨rfl, hs4, hn4⟩; have hz4 := hn4.size; have hb6 := hb5.trans (hn4.below (fun i hi => Nat.le_trans hz0 hi.1) hb5.size))
      | (go_at_call 10; with_reducible (refine (H2.out g _ _ hs4).mono ?_); rintro e' w5 ⟨rfl, hb7⟩; have hs5 := hs4.kept hb7; have hz5 := hb7.size; have hb8 := hb6.trans (hb7.mono hb6.size))
      | (go_at_call 12; refine (HW.out g _ _ hs5).mono ?_; rintro e' w6 ⟨rfl, rfl⟩))
    go_ret
    exact ⟨rfl, hb8⟩
  · skip
    go_enter Try.func3, Try.ntmps3
    go_wp2_with (first
      | (go_at_call 8; refine (awake13_any _).mono ?_; rintro e' w0 ⟨rfl, hb0⟩; have hr0 := HR.out.below hb0; have hz0 := hb0.size)
      | (go_at_call 9; refine (new_any A _ n c 0 _ l [] _ HL.out rfl (by omega) (by decide) (hr0.more hz0) Rd.nil).mono ?_; rintro e' w1 ⟨g, rfl, hs2, hb1⟩; have hb3 := hb0.trans (hb1.mono hz0); have hs2 := Sto.bound (s := ⟨true, 0, [], l⟩) hs2)
      | (go_at_call 10; with_reducible (refine (H1.out g _ _ hs2).mono ?_); rintro e' w3 ⟨rfl, hb4⟩; have hs3 := hs2.kept hb4; have hz3 := hb4.size; have hb5 := hb3.trans (hb4.mono hb3.size))
      | (go_at_call 11; with_reducible (refine (HB.out g _ _ hs3 (fun i hi => Nat.lt_of_lt_of_le hi.2 hz3)).mono ?_); rintro e' w4 ⟨rfl, hs4, hn4⟩; have hz4 := hn4.size; have hb6 := hb5.trans (hn4.below (fun i hi => Nat.le_trans hz0 hi.1) hb5.size))
      | (go_at_call 10; with_reducible (refine (H2.out g _ _ hs4).mono ?_); rintro e' w5 ⟨rfl, hb7⟩; have hs5 := hs4.kept hb7; have hz5 := hb7.size; have hb8 := hb6.trans (hb7.mono hb6.size))
      | (go_at_call 12; refine (HW.out g _ _ hs5).mono ?_; rintro e' w6 ⟨rfl, rfl⟩))
    go_ret
    exact ⟨rfl, hb8⟩
theorem rises_any (A : Option Addr) (n c : Nat) (l : List Int) (id v : Int) (hl : l.length = n) (hu : U32s l) (hv : 0 ≤ v ∧ v < 4294967296) (w : World) (hr : Rd w w.heap.size 1 A n (l.flatMap encU)) :
    Calls Try.prog 3 #[.slice A n c, .int .i64 id, .int .u32 v] w fun e w' => e = .returned (.bool true) ∧ Below w.heap.size w w' := by
  by_cases hn : n ≤ 200
  · obtain ⟨p1, p2, p3, p4, p5⟩ := bump_plain ⟨true, 0, [], l⟩ id v hu rfl hv
    have q1 := bump_stay ⟨true, 0, [], l⟩ id v
    have q2 := bump_rise ⟨true, 0, [], l⟩ id v hu rfl rfl hv
    have HB : ∀ (g : Nat) (base : Nat → Prop) (W : World), Sto W base g ⟨true, 0, [], l⟩ → (∀ i, base i → i < W.heap.size) → Calls Try.prog 11 #[.pointer (some ⟨g, 0, none⟩), .int .i64 id, .int .u32 v] W fun e' w' => e' = .returned (.int .i64 (bumpN ⟨true, 0, [], l⟩ id v).1) ∧ Sto w' base g (bumpN ⟨true, 0, [], l⟩ id v).2 ∧ Near base W w' :=
      fun g base W h hb => bump_any g base _ id v W h hu (by simp only; omega) hb (Int.le_refl _) (show (0 : Int) < 900000 by decide) hv.1 hv.2
    have H1 := fun (g : Nat) (base : Nat → Prop) (W : World) (h : Sto W base g ⟨true, 0, [], l⟩) => rec_any g base _ id W h hu (by simp only; omega)
    simp only at q1 q2 H1 p1
    obtain ⟨r, hbs⟩ : ∃ r, bumpN ⟨true, 0, [], l⟩ id v = r := ⟨_, rfl⟩
    obtain ⟨f, s1⟩ := r
    rw [hbs] at p1 p3 q2 HB
    simp only at p1 p3 q2 HB
    have H2 := fun (g : Nat) (base : Nat → Prop) (W : World) (h : Sto W base g s1) => rec_any g base s1 id W h p3 (by rw [p1]; omega)
    refine rises_walk A n c l id v hl hn w hr s1 _ _ f _ _ s1.k H1 HB H2 (fun g base W ⟨cv, wv, hB, _⟩ => writes_any g _ _ _ _ W hB) ?_
    by_cases h0 : (recN l id).err = 0
    · by_cases h1 : v ≤ (recN l id).v
      · have e := q1.2.1 h0 h1
        rw [hbs] at e
        injection e with e1 e2
        subst e1 e2
        exact .inr (.inl ⟨h0, h1, rfl, rfl, rfl⟩)
      · by_cases h2 : v = 4294967295
        · have e := q1.2.2 h0 h1 h2
          rw [hbs] at e
          injection e with e1 e2
          subst e1 e2
          exact .inr (.inr (.inl ⟨h0, h1, h2, rfl, rfl, rfl⟩))
        · obtain ⟨e1, e2⟩ := q2 h0 h1 h2
          rcases e2 with ⟨e2, e3⟩ | e2
          · exact .inr (.inr (.inr (.inl ⟨h0, h1, by simpa using h2, e1, e2, e3⟩)))
          · exact .inr (.inr (.inr (.inr ⟨h0, h1, by simpa using h2, e1, e2⟩)))
    · have e := q1.1 h0
      rw [hbs] at e
      injection e with e1 e2
      subst e1 e2
      exact .inl ⟨by simpa using h0, rfl, rfl⟩
  · go_enter Try.func3, Try.ntmps3
    go_wp2_with (go_at_call 8; refine (awake13_any _).mono ?_; rintro e w0 ⟨rfl, hb0⟩)
    go_ret
    exact ⟨rfl, hb0⟩
set_option maxRecDepth 100000 in
theorem ctrRises_law : LawWalk Try.prog 3 Try.f3 := by
  intro H enc W base args ds p hval hA hlt hfz hsz
  rw [Try.params3] at hA hval
  obtain ⟨v0, v1, v2, d0, d1, d2, p0, p1, p2, rfl, rfl, rfl, h0, h1, h2⟩ := trodAll_three hA
  obtain ⟨A, n, c, l, rfl, hnc, hm, hl, hu, hr⟩ := open_u32s (hval 0 22 v0 rfl rfl) h0 (fun x hx => hlt x (by simp [hx]))
  obtain ⟨i, rfl, rfl, rfl, wi⟩ := open_int Try.underlying3 (hval 1 3 v1 rfl rfl) h1
  obtain ⟨k, rfl, rfl, rfl, wk⟩ := open_int Try.underlying23 (hval 2 23 v2 rfl rfl) h2
  exact rises_any A n c l i k hl hu (wf_u32 wk) W hr
theorem ctrRises_proved : Rows.CtrRisesSaid :=
  OpenClaim.holds_of_wide 3 Try.f3 rfl rfl rfl rfl rfl rfl rfl ⟨rfl, rfl, rfl, rfl, rfl⟩ rfl rfl rfl rfl rfl (by kernel_rfl) Try.func3 (by kernel_rfl)
    (of_decide_eq_true (by kernel_rfl)) (by unfold Func.isWrapper; rw [if_neg (of_decide_eq_false (by kernel_rfl))]; exact ⟨rfl, rfl⟩)
    (fun os started H enc _ => law_lifted (C := Try.checked) (s := Rows.ctrRisesSpec) started own laidOut (by kernel_rfl) Try.func3 rfl (n := 3) (by kernel_rfl) (fun ds h => by match ds, h with | [_, _, _], _ => rfl) (tb := 4) (by kernel_rfl) Try.underlying4 (by kernel_rfl)
      (ChangeSpec.witness6 (enc := enc) (C := Try.checked) false ⟨#[], #[.slice none 0 0, .int .i64 0, .int .u32 0], []⟩ 8 (by kernel_rfl) (by kernel_rfl) (by kernel_rfl) (by kernel_rfl)) ctrRises_law)
end Go.Proofs.Ytpenjfkdinmgmaa
