/- Chapter 10, the law NvTears. -/
import Derived.Test.YtdkhkpjepnmjnaaNvG
namespace Go.Proofs.Ytdkhkpjepnmjnaa
set_option linter.unusedVariables false
open Go.RowKit Go.Sort

theorem tornW_awake : tornW 255 4660 0 = 52 := by decide +kernel
set_option maxHeartbeats 1000000 in
theorem awake10_any (w : World) :
    Calls Try.prog 32 #[] w fun e w' => e = .returned (.bool true) ∧ Below w.heap.size w w' := by
  have HT := Lib.hid tornW_awake
  have W1 : ∀ (g base : Nat) (w : World), Sto w (base ≤ ·) g ⟨true, 0, [(1, 255)], [0, 0]⟩ → base ≤ w.heap.size → Calls Try.prog 34 #[.pointer (some ⟨g, 0, none⟩), .int .i64 0, .int .u32 5] w fun e w' => e = .returned (.int .i64 0) ∧ Sto w' (base ≤ ·) g ⟨true, 1, [(1, 255)], [5, 0]⟩ ∧ Below base w w' :=
    fun g base w h hb => (write_any g _ _ 0 5 w h (by decide) (by decide)).mono fun _ _ ⟨a, b, c⟩ => ⟨a, b, c.below (fun _ h => h) hb⟩
  have W2 : ∀ (g base : Nat) (w : World), Sto w (base ≤ ·) g ⟨true, 1, [(1, 255)], [5, 0]⟩ → base ≤ w.heap.size → Calls Try.prog 34 #[.pointer (some ⟨g, 0, none⟩), .int .i64 1, .int .u32 4660] w fun e w' => e = .returned (.int .i64 100) ∧ Sto w' (base ≤ ·) g ⟨false, 1, [(1, 255)], [5, 52]⟩ ∧ Below base w w' := fun g base w h hb => by
    have := write_any g _ _ 1 4660 w h (by decide) (by decide)
    rw [show writeN ⟨true, 1, [(1, 255)], [5, 0]⟩ 1 4660 = (100, ⟨false, 1, [(1, 255)], [5, 52]⟩) by simp [writeN, tornW_awake]] at this
    exact this.mono fun _ _ ⟨a, b, c⟩ => ⟨a, b, c.below (fun _ h => h) hb⟩
  have HW1 := Lib.hid W1
  have HW2 := Lib.hid W2
  clear W1 W2
  go_enter Try.func32, Try.ntmps32
  go_wp2_with (first
    | (go_at_call 33; refine (new_any _ _ 2 _ 1 _ [0, 0] [(1, 255)] _ rfl rfl (by decide) (by decide) (((Rd.new w #[.int .u32 0, .int .u32 0] 37 2 1 rfl).alloc (by simp) _).more (by simp)) (Rd.fresh _ _ _ 1 2 _ rfl)).mono ?_; rintro e w1 ⟨g, rfl, hs1, hb1⟩; have hbs := hb1.size)
    | (go_at_call 34; with_reducible (refine (HW1.out g _ _ hs1 hbs).mono ?_); rintro e w2 ⟨rfl, hs2, hb2⟩; have hbs2 := Nat.le_trans hbs hb2.size)
    | (go_at_call 34; with_reducible (refine (HW2.out g _ _ hs2 hbs2).mono ?_); rintro e w3 ⟨rfl, hs3, hb3⟩; have hbs3 := Nat.le_trans hbs2 hb3.size)
    | (go_at_call 35; refine (words_of g _ _ _ hs3 (by decide)).mono ?_; rintro e w4 ⟨A4, c4, rfl, hown4, hb4⟩; obtain ⟨g4, p4, hv4, _⟩ := hown4.form (by decide); injection hv4 with hA4 _ _; subst hA4; have hc4 : w4.cell? ⟨g4, 1, none⟩ = some (.int .u32 52) := hown4.cellAt 1 (by decide); have hs3 := hs3.kept hb4; have hb3 := hb3.trans (hb4.mono hbs3); have hbs3 := Nat.le_trans hbs3 hb4.size)
    | (go_at_call 36; obtain ⟨cv, wv, hB, _, _, _⟩ := hs3; refine (dead_any g _ _ _ _ _ hB).mono ?_; rintro e w5 ⟨rfl, rfl⟩))
  go_ret
  exact ⟨rfl, below_alloc (below_alloc (hb1.trans (hb2.trans hb3)))⟩

theorem words_n (g n : Nat) (base : Nat → Prop) (s : Stt) (w : World) (h : Sto w base g s) (hn : s.ws.length = n) (h1 : n ≤ 1000) :
    Calls Try.prog 35 #[.pointer (some ⟨g, 0, none⟩)] w fun e w' => ∃ A c, e = .returned (.slice A n c) ∧ w'.ownsRow w.heap.size 37 1 (.slice A n c) n (s.ws.flatMap encU) ∧ Below w.heap.size w w' := by
  subst hn; exact words_of g base s w h h1
theorem getD_get (l : List Int) (k : Nat) (h : k < l.length) : l[k] = l.getD k 0 := by simp [List.getD_eq_getElem?_getD, h]

set_option maxHeartbeats 2000000 in
theorem nvTears_any (A : Option Addr) (n c : Nat) (ws : List Int) (mask i x : Int) (hl : ws.length = n) (hm : n ≤ maxLen) (w : World) (hr : Rd w w.heap.size 1 A n (ws.flatMap encU)) :
    Calls Try.prog 8 #[.slice A n c, .int .u32 mask, .int .i64 i, .int .u32 x] w fun e w' => e = .returned (.bool true) ∧ Below w.heap.size w w' := by
  unfold maxLen at hm
  by_cases h : n ≤ 100 ∧ 0 ≤ i ∧ i < n
  · obtain ⟨h100, hi0, hin⟩ := h
    obtain ⟨j, rfl⟩ := Int.eq_ofNat_of_zero_le hi0
    have hj : j < n := by omega
    have T := tornW mask x (ws.getD j 0)
    have hx : 0 < ws.length := by omega
    have W1 : ∀ (g base : Nat) (w : World), Sto w (base ≤ ·) g ⟨true, 0, [(0, mask)], ws⟩ → base ≤ w.heap.size → Calls Try.prog 34 #[.pointer (some ⟨g, 0, none⟩), .int .i64 (j : Int), .int .u32 x] w fun e w' => e = .returned (.int .i64 100) ∧ Sto w' (base ≤ ·) g ⟨false, 0, [(0, mask)], ws.set j (tornW mask x (ws.getD j 0))⟩ ∧ Below base w w' := fun g base w h hb =>
      (write_torn g _ _ j x (0, mask) [] w h rfl (by rw [hl]; exact hj) rfl rfl).mono fun _ _ ⟨a, b, c⟩ => ⟨a, b, c.below (fun _ h => h) hb⟩
    have W2 : ∀ (g base : Nat) (w : World) (ws' : List Int), Sto w (base ≤ ·) g ⟨false, 0, [(0, mask)], ws'⟩ → Calls Try.prog 34 #[.pointer (some ⟨g, 0, none⟩), .int .i64 (j : Int), .int .u32 x] w fun e w' => e = .returned (.int .i64 100) ∧ w = w' := fun g base w ws' h =>
      write_dead g _ _ j x w h rfl
    have HL := Lib.hid hl
    have HLS : Hid ((ws.set j (tornW mask x (ws.getD j 0))).length = n) := by show _ = n; rw [List.length_set]; exact hl
    have HR := Lib.hid hr
    have HW1 := Lib.hid W1
    have HW2 := Lib.hid W2
    have HG : Hid (∀ k, (hk : k < n) → (ws.set j (tornW mask x (ws.getD j 0))).getD k 0 = if k = j then tornW mask x (ws.getD k 0) else ws.getD k 0) := by
      intro k hk
      rw [List.getD_eq_getElem?_getD, List.getElem?_set]
      by_cases e : j = k
      · subst e; simp [hl, hk]
      · rw [if_neg e, if_neg (Ne.symm e), List.getD_eq_getElem?_getD]
    generalize ws.set j (tornW mask x (ws.getD j 0)) = ws' at *
    clear W1 W2 hl hx hr T
    go_enter Try.func8, Try.ntmps8
    go_wp2_with (first
      | (go_at_call 32; refine (awake10_any _).mono ?_; rintro e w0 ⟨rfl, hb0⟩; have hr0 := HR.out.below hb0)
      | (go_at_call 33; refine (new_any A _ n _ 1 _ ws [(0, mask)] _ HL.out rfl (by omega) (by decide) ((hr0.alloc hb0.size _).more (by simp; exact Nat.le_trans hb0.size (Nat.le_succ _))) (Rd.fresh _ _ _ 1 2 _ rfl)).mono ?_; rintro e w1 ⟨g, rfl, hs1, hb1⟩; have hbs := hb1.size)
      | (go_at_call 34; with_reducible (refine (HW1.out g _ _ hs1 hbs).mono ?_); rintro e w2 ⟨rfl, hs2, hb2⟩; have hbs2 := Nat.le_trans hbs hb2.size)
      | (go_at_call 35; refine (words_n g n _ _ _ hs2 HLS.out (by omega)).mono ?_; rintro e w4 ⟨A4, c4, rfl, hown4, hb4⟩; have hs3 := hs2.kept hb4; have hb3 := hb2.trans (hb4.mono hbs2); have hbs3 := Nat.le_trans hbs2 hb4.size)
      | (go_at_call 36; obtain ⟨cv, wv, hB, _, _, _⟩ := id hs3; refine (dead_any g _ _ _ _ _ hB).mono ?_; rintro e w5 ⟨rfl, rfl⟩; clear hB))
    have hrw : Rd w4 w.heap.size 1 A n (ws.flatMap encU) := HR.out.below (hb0.trans (((Below.refl _ w0).alloc (Nat.le_refl _) _).trans ((hb1.mono (by simp)).trans (hb3.mono (by simp))) |>.mono hb0.size))
    have hbt : Below w.heap.size w w4 := hb0.trans (((Below.refl _ w0).alloc (Nat.le_refl _) _).trans ((hb1.mono (by simp)).trans (hb3.mono (by simp))) |>.mono hb0.size)
    have hro := Rd.of_own hown4
    clear hr0 hs1 hs2 hb1 hb2 hb3 hb4 hbs hbs2 hbs3 hb0 HW1 hown4
    go_loop [12, 13, 56] (fun _ _ i => ∃ k : Nat, k ≤ n ∧ i = .int .i64 k) (fun _ _ i => n - (intOf i).toNat)
    case atStart => exact ⟨0, by omega, rfl⟩
    case round =>
      obtain ⟨k, hk, rfl⟩ := hrel
      by_cases hlt : k < n
      · obtain ⟨b1, o1, rfl, hb1, hc1⟩ := hrw.row (fun _ => rfl) (k := k) (by rw [HL.out]; exact hlt) HL.out
        obtain ⟨b2, o2, rfl, hb2, hc2⟩ := hro.row (fun _ => rfl) (k := k) (by rw [HLS.out]; exact hlt) HLS.out
        have d1 := hc1 0 (by omega)
        have d2 := hc2 0 (by omega)
        simp only [encU, Nat.add_zero, Nat.mul_one, List.getElem?_cons_zero, getD_get] at d1 d2
        rw [HG.out k hlt] at d2
        generalize ws.getD k 0 = y at *
        clear hc1 hc2
        by_cases hkj : k = j
        · subst hkj
          simp only [if_true, tornW, or_u32_comm' _ (bits .and .u32 x mask)] at d2
          go_wp2
          go_round
          case rel => exact ⟨k + 1, by omega, by go_num⟩
          case measure => simp [intOf]; omega
        · rw [if_neg hkj] at d2
          have e1 : ((k : Int) == (j : Int)) = false := by rw [beq_eq_false_iff_ne]; omega
          go_wp2
          go_round
          case rel => exact ⟨k + 1, by omega, by go_num⟩
          case measure => simp [intOf]; omega
      · go_wp2_with (go_at_call 34; with_reducible (refine (HW2.out g _ _ _ hs3).mono ?_); rintro e w2 ⟨rfl, rfl⟩)
        go_ret
        exact ⟨rfl, hbt⟩
  · have H := Lib.hid h
    have HR := Lib.hid hr
    clear h hr
    go_enter Try.func8, Try.ntmps8
    go_wp2_with (first
      | (go_at_call 32; refine (awake10_any _).mono ?_; rintro e w0 ⟨rfl, hb0⟩)
      | (go_at_call 33; exfalso; refine H.out ?_; omega))
    all_goals (go_ret; exact ⟨rfl, hb0⟩)
end Go.Proofs.Ytdkhkpjepnmjnaa
