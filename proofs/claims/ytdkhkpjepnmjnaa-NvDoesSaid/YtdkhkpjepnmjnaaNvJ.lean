/- Chapter 10, the law NvKeeps: it returns true whatever the input, and leaves what was there. -/
import Derived.Test.YtdkhkpjepnmjnaaNvI
namespace Go.Proofs.Ytdkhkpjepnmjnaa
set_option linter.unusedVariables false
open Go.RowKit Go.Sort Go.ChangeShapes Go.WideShapes

theorem read_n (g n : Nat) (base : Nat → Prop) (s : Stt) (j : Nat) (v : Int) (w : World) (h : Sto w base g s) (hn : s.ws.length = n) (hj : j < n) (hv : s.ws.getD j 0 = v) :
    Calls Try.prog 42 #[.pointer (some ⟨g, 0, none⟩), .int .i64 (j : Int)] w fun e w' => e = .returned (.tuple #[.int .u32 v, .int .i64 0]) ∧ w = w' := by
  subst hn hv; exact read_in g base s j w h hj

set_option maxHeartbeats 2000000 in
theorem nvKeeps_any (A : Option Addr) (n c : Nat) (ws : List Int) (i x j : Int) (hl : ws.length = n) (hm : n ≤ maxLen) (w : World) (hr : Rd w w.heap.size 1 A n (ws.flatMap encU)) :
    Calls Try.prog 12 #[.slice A n c, .int .i64 i, .int .u32 x, .int .i64 j] w fun e w' => e = .returned (.bool true) ∧ Below w.heap.size w w' := by
  unfold maxLen at hm
  have HL := Lib.hid hl
  have HR := Lib.hid hr
  clear hl hr
  by_cases h100 : n ≤ 100
  · by_cases hi : i < 0 ∨ (n : Int) ≤ i
    · have W1 : ∀ (g base : Nat) (w : World), Sto w (base ≤ ·) g ⟨true, 0, [], ws⟩ → Calls Try.prog 34 #[.pointer (some ⟨g, 0, none⟩), .int .i64 i, .int .u32 x] w fun e w' => e = .returned (.int .i64 1) ∧ w = w' := fun g base w h =>
        write_out g _ _ i x w h rfl (by show i < 0 ∨ (ws.length : Int) ≤ i; rw [HL.out]; exact hi)
      have HW1 := Lib.hid W1
      clear W1
      rcases hi with hi | hi
      all_goals
        go_enter Try.func12, Try.ntmps12
        go_wp2_with (first
          | (go_at_call 32; refine (awake10_any _).mono ?_; rintro e w0 ⟨rfl, hb0⟩; have hr0 := HR.out.below hb0)
          | (go_at_call 33; refine (new_any A _ n _ 0 _ ws [] _ HL.out rfl (by omega) (by decide) (hr0.more hb0.size) Rd.nil).mono ?_; rintro e w1 ⟨g, rfl, hs1, hb1⟩; have hbs := hb1.size)
          | (go_at_call 34; with_reducible (refine (HW1.out g _ _ hs1).mono ?_); rintro e w2 ⟨rfl, rfl⟩)
          | (go_at_call 41; obtain ⟨cv, wv, hB, _, _, _⟩ := id hs1; refine (writes_any g _ _ _ _ _ hB).mono ?_; rintro e w5 ⟨rfl, rfl⟩; clear hB))
        go_ret
        exact ⟨rfl, hb0.trans (hb1.mono hb0.size)⟩
    · obtain ⟨k, rfl⟩ := Int.eq_ofNat_of_zero_le (show 0 ≤ i by omega)
      have hk : k < n := by omega
      have W1 : ∀ (g base : Nat) (w : World), Sto w (base ≤ ·) g ⟨true, 0, [], ws⟩ → base ≤ w.heap.size → Calls Try.prog 34 #[.pointer (some ⟨g, 0, none⟩), .int .i64 (k : Int), .int .u32 x] w fun e w' => e = .returned (.int .i64 0) ∧ Sto w' (base ≤ ·) g ⟨true, 1, [], ws.set k x⟩ ∧ Below base w w' := fun g base w h hb =>
        (write_ok g _ _ k x w h rfl (by rw [HL.out]; exact hk) rfl (Int.le_refl 0) (show (0 : Int) < 1000000 by decide)).mono fun _ _ ⟨a, b, c⟩ => ⟨a, b, c.below (fun _ h => h) hb⟩
      have HW1 := Lib.hid W1
      have R1 : ∀ (g base : Nat) (w : World), Sto w (base ≤ ·) g ⟨true, 1, [], ws.set k x⟩ → Calls Try.prog 42 #[.pointer (some ⟨g, 0, none⟩), .int .i64 (k : Int)] w fun e w' => e = .returned (.tuple #[.int .u32 x, .int .i64 0]) ∧ w = w' := fun g base w h =>
        read_n g n _ _ k x w h (by show (ws.set k x).length = n; rw [List.length_set, HL.out]) hk (by simp [List.getD_eq_getElem?_getD, HL.out, hk])
      have HR1 := Lib.hid R1
      clear W1 R1
      by_cases hj : j < 0 ∨ (n : Int) ≤ j
      · have R2 : ∀ (g base : Nat) (w : World), Sto w (base ≤ ·) g ⟨true, 1, [], ws.set k x⟩ → Calls Try.prog 42 #[.pointer (some ⟨g, 0, none⟩), .int .i64 j] w fun e w' => e = .returned (.tuple #[.int .u32 0, .int .i64 1]) ∧ w = w' := fun g base w h =>
          read_out g _ _ j w h (by show j < 0 ∨ ((ws.set k x).length : Int) ≤ j; rw [List.length_set, HL.out]; exact hj)
        have HR2 := Lib.hid R2
        clear R2 hi
        generalize ws.set k x = ws' at *
        rcases hj with hj | hj
        all_goals
          go_enter Try.func12, Try.ntmps12
          go_wp2_with (first
            | (go_at_call 32; refine (awake10_any _).mono ?_; rintro e w0 ⟨rfl, hb0⟩; have hr0 := HR.out.below hb0)
            | (go_at_call 33; refine (new_any A _ n _ 0 _ ws [] _ HL.out rfl (by omega) (by decide) (hr0.more hb0.size) Rd.nil).mono ?_; rintro e w1 ⟨g, rfl, hs1, hb1⟩; have hbs := hb1.size)
            | (go_at_call 34; with_reducible (refine (HW1.out g _ _ hs1 hbs).mono ?_); rintro e w2 ⟨rfl, hs2, hb2⟩)
            | (go_at_call 42; with_reducible (refine (HR1.out g _ _ hs2).mono ?_); rintro e w3 ⟨rfl, rfl⟩)
            | (go_at_call 42; with_reducible (refine (HR2.out g _ _ hs2).mono ?_); rintro e w3 ⟨rfl, rfl⟩)
            | (go_at_call 41; obtain ⟨cv, wv, hB, _, _, _⟩ := id hs2; refine (writes_any g _ _ _ _ _ hB).mono ?_; rintro e w5 ⟨rfl, rfl⟩; clear hB))
          go_ret
          exact ⟨rfl, hb0.trans ((hb1.trans hb2).mono hb0.size)⟩
      · obtain ⟨m, rfl⟩ := Int.eq_ofNat_of_zero_le (show 0 ≤ j by omega)
        have hm' : m < n := by omega
        by_cases hmk : m = k
        · subst hmk
          clear hi hj
          generalize ws.set m x = ws' at *
          go_enter Try.func12, Try.ntmps12
          go_wp2_with (first
            | (go_at_call 32; refine (awake10_any _).mono ?_; rintro e w0 ⟨rfl, hb0⟩; have hr0 := HR.out.below hb0)
            | (go_at_call 33; refine (new_any A _ n _ 0 _ ws [] _ HL.out rfl (by omega) (by decide) (hr0.more hb0.size) Rd.nil).mono ?_; rintro e w1 ⟨g, rfl, hs1, hb1⟩; have hbs := hb1.size)
            | (go_at_call 34; with_reducible (refine (HW1.out g _ _ hs1 hbs).mono ?_); rintro e w2 ⟨rfl, hs2, hb2⟩)
            | (go_at_call 42; with_reducible (refine (HR1.out g _ _ hs2).mono ?_); rintro e w3 ⟨rfl, rfl⟩)
            | (go_at_call 41; obtain ⟨cv, wv, hB, _, _, _⟩ := id hs2; refine (writes_any g _ _ _ _ _ hB).mono ?_; rintro e w5 ⟨rfl, rfl⟩; clear hB))
          go_ret
          exact ⟨rfl, hb0.trans ((hb1.trans hb2).mono hb0.size)⟩
        · have R2 : ∀ (g base : Nat) (w : World), Sto w (base ≤ ·) g ⟨true, 1, [], ws.set k x⟩ → Calls Try.prog 42 #[.pointer (some ⟨g, 0, none⟩), .int .i64 (m : Int)] w fun e w' => e = .returned (.tuple #[.int .u32 (ws.getD m 0), .int .i64 0]) ∧ w = w' := fun g base w h =>
            read_n g n _ _ m _ w h (by show (ws.set k x).length = n; rw [List.length_set, HL.out]) hm' (by show (ws.set k x).getD m 0 = _; rw [List.getD_eq_getElem?_getD, List.getElem?_set, if_neg (Ne.symm hmk), List.getD_eq_getElem?_getD])
          have HR2 := Lib.hid R2
          have e1 : ((m : Int) == (k : Int)) = false := by rw [beq_eq_false_iff_ne]; omega
          clear R2 hi hj
          generalize ws.set k x = ws' at *
          obtain ⟨b1, o1, rfl, hb1', hc1⟩ := HR.out.row (fun _ => rfl) (k := m) (by rw [HL.out]; exact hm') HL.out
          have d1 := hc1 0 (by omega)
          simp only [encU, Nat.add_zero, Nat.mul_one, List.getElem?_cons_zero, getD_get] at d1
          have HD := Lib.hid d1
          clear hc1 d1
          generalize ws.getD m 0 = y at *
          go_enter Try.func12, Try.ntmps12
          go_wp2_with (first
            | (go_at_call 32; refine (awake10_any _).mono ?_; rintro e w0 ⟨rfl, hb0⟩; have hr0 := HR.out.below hb0)
            | (go_at_call 33; refine (new_any (some ⟨b1, o1, none⟩) _ n _ 0 _ ws [] _ HL.out rfl (by omega) (by decide) (hr0.more hb0.size) Rd.nil).mono ?_; rintro e w1 ⟨g, rfl, hs1, hb1⟩; have hbs := hb1.size)
            | (go_at_call 34; with_reducible (refine (HW1.out g _ _ hs1 hbs).mono ?_); rintro e w2 ⟨rfl, hs2, hb2⟩; have d2 := ((hb0.trans ((hb1.trans hb2).mono hb0.size)).cell (p := ⟨b1, o1 + m, none⟩) hb1').trans HD.out)
            | (go_at_call 42; with_reducible (refine (HR1.out g _ _ hs2).mono ?_); rintro e w3 ⟨rfl, rfl⟩)
            | (go_at_call 42; with_reducible (refine (HR2.out g _ _ hs2).mono ?_); rintro e w3 ⟨rfl, rfl⟩)
            | (go_at_call 41; obtain ⟨cv, wv, hB, _, _, _⟩ := id hs2; refine (writes_any g _ _ _ _ _ hB).mono ?_; rintro e w5 ⟨rfl, rfl⟩; clear hB))
          go_ret
          exact ⟨rfl, hb0.trans ((hb1.trans hb2).mono hb0.size)⟩
  · go_enter Try.func12, Try.ntmps12
    go_wp2_with (go_at_call 32; refine (awake10_any _).mono ?_; rintro e w0 ⟨rfl, hb0⟩)
    go_ret
    exact ⟨rfl, hb0⟩

set_option maxRecDepth 100000 in
theorem nvKeeps_law : LawWalk Try.prog 12 Try.f12 := by
  intro H enc W base args ds p hval hA hlt hfz hsz
  rw [Try.params12] at hA hval
  obtain ⟨v0, v1, v2, v3, d0, d1, d2, d3, p0, p1, p2, p3, rfl, rfl, rfl, h0, h1, h2, h3⟩ := trodAll_four hA
  obtain ⟨A, n, c, l, rfl, hnc, hm, hl, _, hr⟩ := open_u32s (hval 0 51 v0 rfl rfl) h0 (fun x hx => hlt x (by simp [hx]))
  obtain ⟨i, rfl, rfl, rfl, wi⟩ := open_int Try.underlying3 (hval 1 3 v1 rfl rfl) h1
  obtain ⟨k, rfl, rfl, rfl, wk⟩ := open_int Try.underlying37 (hval 2 37 v2 rfl rfl) h2
  obtain ⟨m, rfl, rfl, rfl, wm⟩ := open_int Try.underlying3 (hval 3 3 v3 rfl rfl) h3
  exact nvKeeps_any A n c l i k m hl hm W hr
theorem nvKeeps_proved : Rows.NvKeepsSaid :=
  OpenClaim.holds_of_wide 12 Try.f12 rfl rfl rfl rfl rfl rfl rfl ⟨rfl, rfl, rfl, rfl, rfl⟩ rfl rfl rfl rfl rfl (by kernel_rfl) Try.func12 (by kernel_rfl)
    (of_decide_eq_true (by kernel_rfl)) (by unfold Func.isWrapper; rw [if_neg (of_decide_eq_false (by kernel_rfl))]; exact ⟨rfl, rfl⟩)
    (fun os started H enc _ => law_lifted (C := Try.checked) (s := Rows.nvKeepsSpec) started own laidOut (by kernel_rfl) Try.func12 rfl (n := 4) (by kernel_rfl) (fun ds h => by match ds, h with | [_, _, _, _], _ => rfl) (tb := 4) (by kernel_rfl) Try.underlying4 (by kernel_rfl)
      (ChangeSpec.witness6 (enc := enc) (C := Try.checked) false ⟨#[], #[.slice none 0 0, .int .i64 0, .int .u32 0, .int .i64 0], []⟩ 8 (by kernel_rfl) (by kernel_rfl) (by kernel_rfl) (by kernel_rfl)) nvKeeps_law)
end Go.Proofs.Ytdkhkpjepnmjnaa
