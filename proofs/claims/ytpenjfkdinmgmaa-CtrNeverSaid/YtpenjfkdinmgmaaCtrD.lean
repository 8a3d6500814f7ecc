/- Chapter 13: the record of a counter that counts: plain, and the document's, walked. -/
import Derived.Test.YtpenjfkdinmgmaaCtrC
namespace Go.Proofs.Ytpenjfkdinmgmaa
set_option linter.unusedVariables false
set_option linter.unusedSimpArgs false
open Go.RowKit Go.Sort

structure Rr where
  err : Int
  at_ : Nat
  q : Int
  v : Int
/-- Which of two records counts. -/
def pickR (a b : Int × Int × Bool) : Rr :=
  if a.2.2 = false ∧ b.2.2 = false ∨ a.2.2 = true ∧ b.2.2 = true ∧ a.1 = b.1 ∧ a.2.1 ≠ b.2.1 then ⟨130, 0, 0, 0⟩
  else if a.2.2 = false ∨ b.2.2 = true ∧ a.1 < b.1 then (if b.1 = 4294967295 ∨ b.2.1 = 4294967295 then ⟨131, 0, 0, 0⟩ else ⟨0, 1, b.1, b.2.1⟩)
  else (if a.1 = 4294967295 ∨ a.2.1 = 4294967295 then ⟨131, 0, 0, 0⟩ else ⟨0, 0, a.1, a.2.1⟩)
def finR (k : Nat) (x y : Int) : Rr := if x = 4294967295 ∨ y = 4294967295 then ⟨131, 0, 0, 0⟩ else ⟨0, k, x, y⟩
theorem fin_x (k : Nat) {x y : Int} (h : x = 4294967295) : finR k x y = ⟨131, 0, 0, 0⟩ := if_pos (Or.inl h)
theorem fin_y (k : Nat) {x y : Int} (h : y = 4294967295) : finR k x y = ⟨131, 0, 0, 0⟩ := if_pos (Or.inr h)
theorem fin_n (k : Nat) {x y : Int} (h : ¬ x = 4294967295) (h2 : ¬ y = 4294967295) : finR k x y = ⟨0, k, x, y⟩ := if_neg (by rintro (e | e); exact h e; exact h2 e)
theorem pick_ff (xa ya xb yb : Int) : pickR (xa, ya, false) (xb, yb, false) = ⟨130, 0, 0, 0⟩ := by simp [pickR]
theorem pick_ft (xa ya xb yb : Int) : pickR (xa, ya, false) (xb, yb, true) = finR 1 xb yb := by simp [pickR, finR]
theorem pick_tf (xa ya xb yb : Int) : pickR (xa, ya, true) (xb, yb, false) = finR 0 xa ya := by simp [pickR, finR]
theorem pick_ne (xa ya xb yb : Int) (e1 : xa = xb) (e2 : ¬ ya = yb) : pickR (xa, ya, true) (xb, yb, true) = ⟨130, 0, 0, 0⟩ := by subst e1; simp [pickR, e2]
theorem pick_same (xa ya xb yb : Int) (e1 : xa = xb) (e2 : ya = yb) : pickR (xa, ya, true) (xb, yb, true) = finR 0 xa ya := by subst e1; subst e2; simp [pickR, finR]
theorem pick_lt (xa ya xb yb : Int) (e1 : ¬ xa = xb) (e3 : xa < xb) : pickR (xa, ya, true) (xb, yb, true) = finR 1 xb yb := by simp [pickR, finR, e1, e3]
theorem pick_gt (xa ya xb yb : Int) (e1 : ¬ xa = xb) (e3 : ¬ xa < xb) : pickR (xa, ya, true) (xb, yb, true) = finR 0 xa ya := by simp [pickR, finR, e1, e3]
def ofW (id : Int) (y : W4) : Int × Int × Bool := ofN id y.a y.b y.c y.d
def recN (ws : List Int) (id : Int) : Rr :=
  if id < 0 ∨ ((ws.length / 8 : Nat) : Int) ≤ id then ⟨1, 0, 0, 0⟩ else pickR (ofW id (slW ws (8 * id.toNat))) (ofW id (slW ws (8 * id.toNat + 4)))
def Rr.cs (r : Rr) : Value := .tuple #[.int .u32 r.v, .int .i64 r.at_, .agg #[.int .u32 r.q, .int .u32 r.v], .int .i64 r.err]
set_option maxRecDepth 100000 in
set_option maxHeartbeats 4000000 in
theorem rrec_out (g : Nat) (s : Stt) (id : Int) (w : World) (h : RRd w g s) (hn : s.ws.length ≤ 100000) (hid : id < 0 ∨ ((s.ws.length / 8 : Nat) : Int) ≤ id) :
    Calls Try.prog 17 #[.pointer (some ⟨g, 0, none⟩), .int .i64 id] w fun e w' => e = .returned (Rr.cs ⟨1, 0, 0, 0⟩) ∧ Below w.heap.size w w' := by
  obtain ⟨A1, c1, v1, v2, v3, hB, ho⟩ := h
  have hB1 := hB.alloc (.cells #[.int .u32 0, .int .u32 0] 43)
  have cS := hB1.cell
  have hb := bal (Below.refl w.heap.size w) (.cells #[.int .u32 0, .int .u32 0] 43)
  have hC := (Blk.new w 43 #[.int .u32 0, .int .u32 0])
  have cC := hC.cell
  have fC := hC.frozen
  unfold Rr.cs
  generalize s.ws.length = n at *
  clear ho hB hB1
  rcases hid with h0 | h0
  · go_enter Try.func17, Try.ntmps17
    go_wp2
    exact bodyPost_ret (v := .tuple #[.int .u32 0, .int .i64 ((0 : Nat) : Int), .agg #[.int .u32 0, .int .u32 0], .int .i64 1]) (by simp [results, Try.results17, go_sem, cC]) rfl ⟨rfl, hb⟩
  · have h1 : (n : Int) / 8 ≤ id := by omega
    by_cases h2 : id < 0
    · exfalso; omega
    · go_enter Try.func17, Try.ntmps17
      go_wp2
      exact bodyPost_ret (v := .tuple #[.int .u32 0, .int .i64 ((0 : Nat) : Int), .agg #[.int .u32 0, .int .u32 0], .int .i64 1]) (by simp [results, Try.results17, go_sem, cC]) rfl ⟨rfl, hb⟩
set_option maxRecDepth 100000 in
set_option maxHeartbeats 4000000 in
theorem rrec_in (g : Nat) (s : Stt) (id : Nat) (w : World) (h : RRd w g s) (hu : U32s s.ws) (hn : s.ws.length ≤ 100000) (hid : id < s.ws.length / 8) :
    Calls Try.prog 17 #[.pointer (some ⟨g, 0, none⟩), .int .i64 id] w fun e w' => e = .returned (Rr.cs (pickR (ofW id (slW s.ws (8 * id))) (ofW id (slW s.ws (8 * id + 4))))) ∧ Below w.heap.size w w' := by
  have hb := bal (Below.refl w.heap.size w) (.cells #[.int .u32 0, .int .u32 0] 43)
  have h1 := h.kept hb
  have HSl := Lib.hid (rslots_rd g s id (w.alloc (.cells #[.int .u32 0, .int .u32 0] 43)) h1 (by omega) (by omega))
  have HO : ∀ B, Hid (∀ x y f, ofW id (slW s.ws B) = (x, y, f) → ∀ W, Calls Try.prog 36 #[.int .i64 id, .agg (slW s.ws B).arr] W fun e w' => e = .returned (.tuple #[.agg #[.int .u32 x, .int .u32 y], .bool f]) ∧ Below W.heap.size W w') := fun B => Lib.hid fun x y f hx W =>
    refOf_any id _ _ _ _ x y f hx (hu.at_ _).1 (hu.at_ _).2 (hu.at_ _).1 (hu.at_ _).2 W
  have HOa := HO (8 * id)
  have HOb := HO (8 * id + 4)
  obtain ⟨A1, c1, v1, v2, v3, hB, ho⟩ := h1
  have cS := hB.cell
  have Hb := Lib.hid hb
  have HC := Lib.hid (Blk.new w 43 #[.int .u32 0, .int .u32 0])
  have hi0 : ¬ (id : Int) < 0 := by omega
  have hi1 : ¬ ((s.ws.length : Int) / 8 ≤ (id : Int)) := by omega
  generalize ofW id (slW s.ws (8 * id)) = ra at *
  generalize ofW id (slW s.ws (8 * id + 4)) = rb at *
  obtain ⟨xa, ya, fa⟩ := ra
  obtain ⟨xb, yb, fb⟩ := rb
  have HA := Lib.hid (HOa.out xa ya fa rfl)
  have HB := Lib.hid (HOb.out xb yb fb rfl)
  generalize slW s.ws (8 * id) = Wa at *
  generalize slW s.ws (8 * id + 4) = Wb at *
  obtain ⟨a0, a1, a2, a3⟩ := Wa
  obtain ⟨b0', b1, b2, b3⟩ := Wb
  unfold W4.arr at HSl HA HB
  simp only at HSl HA HB
  generalize s.ws.length = n at *
  clear ho hB hb h HO HOa HOb hu
  go_enter Try.func17, Try.ntmps17
  go_upto_region 4 with (go_at_call 35; refine HSl.out.mono ?_; rintro e w1 ⟨rfl, hb1⟩)
  refine wp_name ?_
  intro w4 hw4
  have hx4 : RowKit.Below w1.heap.size w1 w4 := by rw [hw4]; exact bal (Below.refl _ _) _
  have hb4 : RowKit.Below w.heap.size w w4 := (Hb.out.trans (hb1.mono Hb.out.size)).trans (hx4.mono (Nat.le_trans Hb.out.size hb1.size))
  have hC4 := (HC.out.kept hb1).kept hx4
  have hS4 : Blk w4 w1.heap.size 80 #[.int .u32 a0, .int .u32 a1, .int .u32 a2, .int .u32 a3, .int .u32 b0', .int .u32 b1, .int .u32 b2, .int .u32 b3] := by rw [hw4]; exact Blk.new _ _ _
  have c4 := hS4.cell
  clear hw4 hx4 hb1 HSl cS
  generalize w1.heap.size = g8 at *
  go_upto_region 5 with (go_at_call 36; refine (HA.out _).mono ?_; rintro e w2 ⟨rfl, hb2⟩)
  refine wp_name ?_
  intro w5 hw5
  have hx5 : RowKit.Below w2.heap.size w2 w5 := by rw [hw5]; exact bal (Below.refl _ _) _
  have hb5 : RowKit.Below w.heap.size w w5 := (hb4.trans (hb2.mono hb4.size)).trans (hx5.mono (Nat.le_trans hb4.size hb2.size))
  have hC5 := (hC4.kept hb2).kept hx5
  have hS5 := (hS4.kept hb2).kept hx5
  have hA5 : Blk w5 w2.heap.size 43 #[.int .u32 xa, .int .u32 ya] := by rw [hw5]; exact Blk.new _ _ _
  have c5 := hS5.cell
  clear hw5 hx5 hb2 hb4 hC4 hS4 c4 HA
  generalize w2.heap.size = g9 at *
  go_upto_region 6 with (go_at_call 36; refine (HB.out _).mono ?_; rintro e w3 ⟨rfl, hb3⟩)
  refine wp_name ?_
  intro w6 hw6
  have hx6 : RowKit.Below w3.heap.size w3 w6 := by rw [hw6]; exact bal (Below.refl _ _) _
  have hb6 : RowKit.Below w.heap.size w w6 := (hb5.trans (hb3.mono hb5.size)).trans (hx6.mono (Nat.le_trans hb5.size hb3.size))
  have hC6 := (hC5.kept hb3).kept hx6
  have hA6 := (hA5.kept hb3).kept hx6
  have hB6 : Blk w6 w3.heap.size 43 #[.int .u32 xb, .int .u32 yb] := by rw [hw6]; exact Blk.new _ _ _
  clear hw6 hx6 hb3 hb5 hC5 hS5 c5 hA5 HB
  generalize w3.heap.size = g11 at *
  have ca := (hA6.alloc (.cells #[.int .u32 0, .int .u32 0] 43)).cell
  have cb := hA6.cell
  go_region
  have hb7 : RowKit.Below w.heap.size w (w6.alloc (.cells #[.int .u32 xa, .int .u32 ya] 43)).drew := (bal' hb6 _ hb6.size).drew
  have hC7 := (hC6.alloc (.cells #[.int .u32 xa, .int .u32 ya] 43)).drew
  have hA7 := (hA6.alloc (.cells #[.int .u32 xa, .int .u32 ya] 43)).drew
  have hB7 := (hB6.alloc (.cells #[.int .u32 xa, .int .u32 ya] 43)).drew
  have hR7 := (Blk.new w6 43 #[.int .u32 xa, .int .u32 ya]).drew
  have hg9 := hA6.lt
  have hg11 := hB6.lt
  have hgC := hC6.lt
  clear ca cb hb6 hC6 hA6 hB6
  generalize (w6.alloc (.cells #[.int .u32 xa, .int .u32 ya] 43)).drew = w7 at *
  generalize w6.heap.size = g14 at *
  have ca := hA7.cell
  have cb := hB7.cell
  have cr := hR7.cell
  have cC := hC7.cell
  have fC := hC7.frozen
  cases fa
  case false =>
    cases fb
    case false =>
      have HP := Lib.hid (pick_ff xa ya xb yb)
      go_wp2
      have cR := ((hC7.set_ 0 (.int .u32 0)).set_ 1 (.int .u32 0)).cell
      exact bodyPost_ret (v := Rr.cs ⟨130, 0, 0, 0⟩) (by simp [Rr.cs, results, Try.results17, go_sem, cR]) rfl ⟨by rw [HP.out], (hb7.setCell (by simp) _).setCell (by simp) _⟩
    case true =>
      have HQ := Lib.hid (pick_ft xa ya xb yb)
      have fr := hR7.frozen
      go_upto_region 11 with (fail)
      go_region
      have hb8 : RowKit.Below w.heap.size w ((w7.setCell ⟨g14, 0, none⟩ (.int .u32 xb)).setCell ⟨g14, 1, none⟩ (.int .u32 yb)).drew := ((hb7.setCell (p := ⟨g14, 0, none⟩) (by simp; omega) _).setCell (p := ⟨g14, 1, none⟩) (by simp; omega) _).drew
      have hC8 := ((hC7.far (p := ⟨g14, 0, none⟩) (by simp; omega) (.int .u32 xb)).far (p := ⟨g14, 1, none⟩) (by simp; omega) (.int .u32 yb)).drew
      have hR8 := ((hR7.set_ 0 (.int .u32 xb)).set_ 1 (.int .u32 yb)).drew
      clear ca cb cr cC fC fr
      generalize ((w7.setCell ⟨g14, 0, none⟩ (.int .u32 xb)).setCell ⟨g14, 1, none⟩ (.int .u32 yb)).drew = w8 at *
      have cr := hR8.cell
      have cC := hC8.cell
      have fC := hC8.frozen
      go_upto_region 12 with (fail)
      by_cases q1 : xb = 4294967295
      · have q1' : (xb == 4294967295) = true := by rw [beq_iff_eq]; exact q1
        have HP := Lib.hid (HQ.out.trans (fin_x 1 q1))
        clear q1 HQ
        go_wp2_with fail
        have cR := ((hC8.set_ 0 (.int .u32 0)).set_ 1 (.int .u32 0)).cell
        exact bodyPost_ret (v := Rr.cs ⟨131, 0, 0, 0⟩) (by simp [Rr.cs, results, Try.results17, go_sem, cR]) rfl ⟨by rw [HP.out], (hb8.setCell (by simp) _).setCell (by simp) _⟩
      · have q1' : (xb == 4294967295) = false := by rw [beq_eq_false_iff_ne]; exact q1
        by_cases q2 : yb = 4294967295
        · have q2' : (yb == 4294967295) = true := by rw [beq_iff_eq]; exact q2
          have HP := Lib.hid (HQ.out.trans (fin_y 1 q2))
          clear q1 q2 HQ
          go_wp2_with fail
          have cR := ((hC8.set_ 0 (.int .u32 0)).set_ 1 (.int .u32 0)).cell
          exact bodyPost_ret (v := Rr.cs ⟨131, 0, 0, 0⟩) (by simp [Rr.cs, results, Try.results17, go_sem, cR]) rfl ⟨by rw [HP.out], (hb8.setCell (by simp) _).setCell (by simp) _⟩
        · have q2' : (yb == 4294967295) = false := by rw [beq_eq_false_iff_ne]; exact q2
          have HP := Lib.hid (HQ.out.trans (fin_n 1 q1 q2))
          clear q1 q2 HQ
          go_wp2_with fail
          go_region
          all_goals
            go_wp2
            have cR := ((hC8.set_ 0 (.int .u32 xb)).set_ 1 (.int .u32 yb)).cell
            exact bodyPost_ret (v := Rr.cs ⟨0, 1, xb, yb⟩) (by simp [Rr.cs, results, Try.results17, go_sem, cR]) rfl ⟨by rw [HP.out], ((hb8.setCell (by simp) _).setCell (by simp) _).drew⟩
  case true =>
    cases fb
    case false =>
      have HQ := Lib.hid (pick_tf xa ya xb yb)
      go_upto_region 12 with (fail)
      by_cases q1 : xa = 4294967295
      · have q1' : (xa == 4294967295) = true := by rw [beq_iff_eq]; exact q1
        have HP := Lib.hid (HQ.out.trans (fin_x 0 q1))
        clear q1 HQ
        go_wp2_with fail
        have cR := ((hC7.set_ 0 (.int .u32 0)).set_ 1 (.int .u32 0)).cell
        exact bodyPost_ret (v := Rr.cs ⟨131, 0, 0, 0⟩) (by simp [Rr.cs, results, Try.results17, go_sem, cR]) rfl ⟨by rw [HP.out], (hb7.setCell (by simp) _).setCell (by simp) _⟩
      · have q1' : (xa == 4294967295) = false := by rw [beq_eq_false_iff_ne]; exact q1
        by_cases q2 : ya = 4294967295
        · have q2' : (ya == 4294967295) = true := by rw [beq_iff_eq]; exact q2
          have HP := Lib.hid (HQ.out.trans (fin_y 0 q2))
          clear q1 q2 HQ
          go_wp2_with fail
          have cR := ((hC7.set_ 0 (.int .u32 0)).set_ 1 (.int .u32 0)).cell
          exact bodyPost_ret (v := Rr.cs ⟨131, 0, 0, 0⟩) (by simp [Rr.cs, results, Try.results17, go_sem, cR]) rfl ⟨by rw [HP.out], (hb7.setCell (by simp) _).setCell (by simp) _⟩
        · have q2' : (ya == 4294967295) = false := by rw [beq_eq_false_iff_ne]; exact q2
          have HP := Lib.hid (HQ.out.trans (fin_n 0 q1 q2))
          clear q1 q2 HQ
          go_wp2_with fail
          go_region
          all_goals
            go_wp2
            have cR := ((hC7.set_ 0 (.int .u32 xa)).set_ 1 (.int .u32 ya)).cell
            exact bodyPost_ret (v := Rr.cs ⟨0, 0, xa, ya⟩) (by simp [Rr.cs, results, Try.results17, go_sem, cR]) rfl ⟨by rw [HP.out], ((hb7.setCell (by simp) _).setCell (by simp) _).drew⟩
    case true =>
      by_cases e1 : xa = xb
      · have b1 : (xa == xb) = true := by rw [beq_iff_eq]; exact e1
        have n3 : ¬ xa < xb := by omega
        by_cases e2 : ya = yb
        · have b2 : (ya != yb) = false := by rw [bne_eq_false_iff_eq]; exact e2
          have HQ := Lib.hid (pick_same xa ya xb yb e1 e2)
          clear e1 e2
          go_upto_region 12 with (fail)
          by_cases q1 : xa = 4294967295
          · have q1' : (xa == 4294967295) = true := by rw [beq_iff_eq]; exact q1
            have HP := Lib.hid (HQ.out.trans (fin_x 0 q1))
            clear q1 HQ
            go_wp2_with fail
            have cR := ((hC7.set_ 0 (.int .u32 0)).set_ 1 (.int .u32 0)).cell
            exact bodyPost_ret (v := Rr.cs ⟨131, 0, 0, 0⟩) (by simp [Rr.cs, results, Try.results17, go_sem, cR]) rfl ⟨by rw [HP.out], (hb7.setCell (by simp) _).setCell (by simp) _⟩
          · have q1' : (xa == 4294967295) = false := by rw [beq_eq_false_iff_ne]; exact q1
            by_cases q2 : ya = 4294967295
            · have q2' : (ya == 4294967295) = true := by rw [beq_iff_eq]; exact q2
              have HP := Lib.hid (HQ.out.trans (fin_y 0 q2))
              clear q1 q2 HQ
              go_wp2_with fail
              have cR := ((hC7.set_ 0 (.int .u32 0)).set_ 1 (.int .u32 0)).cell
              exact bodyPost_ret (v := Rr.cs ⟨131, 0, 0, 0⟩) (by simp [Rr.cs, results, Try.results17, go_sem, cR]) rfl ⟨by rw [HP.out], (hb7.setCell (by simp) _).setCell (by simp) _⟩
            · have q2' : (ya == 4294967295) = false := by rw [beq_eq_false_iff_ne]; exact q2
              have HP := Lib.hid (HQ.out.trans (fin_n 0 q1 q2))
              clear q1 q2 HQ
              go_wp2_with fail
              go_region
              all_goals
                go_wp2
                have cR := ((hC7.set_ 0 (.int .u32 xa)).set_ 1 (.int .u32 ya)).cell
                exact bodyPost_ret (v := Rr.cs ⟨0, 0, xa, ya⟩) (by simp [Rr.cs, results, Try.results17, go_sem, cR]) rfl ⟨by rw [HP.out], ((hb7.setCell (by simp) _).setCell (by simp) _).drew⟩
        · have b2 : (ya != yb) = true := by rw [bne_iff_ne]; exact e2
          have HP := Lib.hid (pick_ne xa ya xb yb e1 e2)
          clear e1 e2
          go_wp2
          have cR := ((hC7.set_ 0 (.int .u32 0)).set_ 1 (.int .u32 0)).cell
          exact bodyPost_ret (v := Rr.cs ⟨130, 0, 0, 0⟩) (by simp [Rr.cs, results, Try.results17, go_sem, cR]) rfl ⟨by rw [HP.out], (hb7.setCell (by simp) _).setCell (by simp) _⟩
      · have b1 : (xa == xb) = false := by rw [beq_eq_false_iff_ne]; exact e1
        by_cases e3 : xa < xb
        · have HQ := Lib.hid (pick_lt xa ya xb yb e1 e3)
          clear e1
          have fr := hR7.frozen
          go_upto_region 11 with (fail)
          go_region
          have hb8 : RowKit.Below w.heap.size w ((w7.setCell ⟨g14, 0, none⟩ (.int .u32 xb)).setCell ⟨g14, 1, none⟩ (.int .u32 yb)).drew := ((hb7.setCell (p := ⟨g14, 0, none⟩) (by simp; omega) _).setCell (p := ⟨g14, 1, none⟩) (by simp; omega) _).drew
          have hC8 := ((hC7.far (p := ⟨g14, 0, none⟩) (by simp; omega) (.int .u32 xb)).far (p := ⟨g14, 1, none⟩) (by simp; omega) (.int .u32 yb)).drew
          have hR8 := ((hR7.set_ 0 (.int .u32 xb)).set_ 1 (.int .u32 yb)).drew
          clear ca cb cr cC fC fr
          generalize ((w7.setCell ⟨g14, 0, none⟩ (.int .u32 xb)).setCell ⟨g14, 1, none⟩ (.int .u32 yb)).drew = w8 at *
          have cr := hR8.cell
          have cC := hC8.cell
          have fC := hC8.frozen
          go_upto_region 12 with (fail)
          by_cases q1 : xb = 4294967295
          · have q1' : (xb == 4294967295) = true := by rw [beq_iff_eq]; exact q1
            have HP := Lib.hid (HQ.out.trans (fin_x 1 q1))
            clear q1 HQ
            go_wp2_with fail
            have cR := ((hC8.set_ 0 (.int .u32 0)).set_ 1 (.int .u32 0)).cell
            exact bodyPost_ret (v := Rr.cs ⟨131, 0, 0, 0⟩) (by simp [Rr.cs, results, Try.results17, go_sem, cR]) rfl ⟨by rw [HP.out], (hb8.setCell (by simp) _).setCell (by simp) _⟩
          · have q1' : (xb == 4294967295) = false := by rw [beq_eq_false_iff_ne]; exact q1
            by_cases q2 : yb = 4294967295
            · have q2' : (yb == 4294967295) = true := by rw [beq_iff_eq]; exact q2
              have HP := Lib.hid (HQ.out.trans (fin_y 1 q2))
              clear q1 q2 HQ
              go_wp2_with fail
              have cR := ((hC8.set_ 0 (.int .u32 0)).set_ 1 (.int .u32 0)).cell
              exact bodyPost_ret (v := Rr.cs ⟨131, 0, 0, 0⟩) (by simp [Rr.cs, results, Try.results17, go_sem, cR]) rfl ⟨by rw [HP.out], (hb8.setCell (by simp) _).setCell (by simp) _⟩
            · have q2' : (yb == 4294967295) = false := by rw [beq_eq_false_iff_ne]; exact q2
              have HP := Lib.hid (HQ.out.trans (fin_n 1 q1 q2))
              clear q1 q2 HQ
              go_wp2_with fail
              go_region
              all_goals
                go_wp2
                have cR := ((hC8.set_ 0 (.int .u32 xb)).set_ 1 (.int .u32 yb)).cell
                exact bodyPost_ret (v := Rr.cs ⟨0, 1, xb, yb⟩) (by simp [Rr.cs, results, Try.results17, go_sem, cR]) rfl ⟨by rw [HP.out], ((hb8.setCell (by simp) _).setCell (by simp) _).drew⟩
        · have HQ := Lib.hid (pick_gt xa ya xb yb e1 e3)
          clear e1
          go_upto_region 12 with (fail)
          by_cases q1 : xa = 4294967295
          · have q1' : (xa == 4294967295) = true := by rw [beq_iff_eq]; exact q1
            have HP := Lib.hid (HQ.out.trans (fin_x 0 q1))
            clear q1 HQ
            go_wp2_with fail
            have cR := ((hC7.set_ 0 (.int .u32 0)).set_ 1 (.int .u32 0)).cell
            exact bodyPost_ret (v := Rr.cs ⟨131, 0, 0, 0⟩) (by simp [Rr.cs, results, Try.results17, go_sem, cR]) rfl ⟨by rw [HP.out], (hb7.setCell (by simp) _).setCell (by simp) _⟩
          · have q1' : (xa == 4294967295) = false := by rw [beq_eq_false_iff_ne]; exact q1
            by_cases q2 : ya = 4294967295
            · have q2' : (ya == 4294967295) = true := by rw [beq_iff_eq]; exact q2
              have HP := Lib.hid (HQ.out.trans (fin_y 0 q2))
              clear q1 q2 HQ
              go_wp2_with fail
              have cR := ((hC7.set_ 0 (.int .u32 0)).set_ 1 (.int .u32 0)).cell
              exact bodyPost_ret (v := Rr.cs ⟨131, 0, 0, 0⟩) (by simp [Rr.cs, results, Try.results17, go_sem, cR]) rfl ⟨by rw [HP.out], (hb7.setCell (by simp) _).setCell (by simp) _⟩
            · have q2' : (ya == 4294967295) = false := by rw [beq_eq_false_iff_ne]; exact q2
              have HP := Lib.hid (HQ.out.trans (fin_n 0 q1 q2))
              clear q1 q2 HQ
              go_wp2_with fail
              go_region
              all_goals
                go_wp2
                have cR := ((hC7.set_ 0 (.int .u32 xa)).set_ 1 (.int .u32 ya)).cell
                exact bodyPost_ret (v := Rr.cs ⟨0, 0, xa, ya⟩) (by simp [Rr.cs, results, Try.results17, go_sem, cR]) rfl ⟨by rw [HP.out], ((hb7.setCell (by simp) _).setCell (by simp) _).drew⟩
theorem rrec_rd (g : Nat) (s : Stt) (id : Int) (w : World) (h : RRd w g s) (hu : U32s s.ws) (hn : s.ws.length ≤ 100000) :
    Calls Try.prog 17 #[.pointer (some ⟨g, 0, none⟩), .int .i64 id] w fun e w' => e = .returned (recN s.ws id).cs ∧ Below w.heap.size w w' := by
  unfold recN
  split
  · rename_i h1
    exact rrec_out g s id w h hn h1
  · rename_i h1
    obtain ⟨k, rfl⟩ := Int.eq_ofNat_of_zero_le (show 0 ≤ id by omega)
    exact rrec_in g s k w h hu hn (by omega)
theorem rrec_any (g b0 : Nat) (base : Nat → Prop) (s : Stt) (id : Int) (w : World) (h : RSto w b0 base g s) (hu : U32s s.ws) (hn : s.ws.length ≤ 100000) :
    Calls Try.prog 17 #[.pointer (some ⟨g, 0, none⟩), .int .i64 id] w fun e w' => e = .returned (recN s.ws id).cs ∧ Below w.heap.size w w' := rrec_rd g s id w h.rd hu hn
end Go.Proofs.Ytpenjfkdinmgmaa
