/- Chapter 12: the law SlotTears. -/
import Derived.Test.YtdkhkpjepnmjnaaSlotH
import Derived.Deep.CutRange
namespace Go.Proofs.Ytdkhkpjepnmjnaa
set_option linter.unusedVariables false
set_option linter.unusedSimpArgs false
open Go.RowKit Go.Sort Go.ChangeShapes Go.WideShapes

/-- What the law's loop makes of the words that it wants, at the write numbered i. -/
def wantN (k m : Int) (x : W4) (i : Nat) (p : Int × Int) : W4 :=
  if (i : Int) < k then put4 x p else if (i : Int) = k ∨ (i = 0 ∧ k < 0) then tear m x p else x
/-- All the writes from number i on. -/
def wants (k m : Int) : Nat → List (Int × Int) → W4 → W4
  | _, [], x => x
  | i, p :: l, x => wants k m (i + 1) l (wantN k m x i p)

theorem wants_append (k m : Int) (l : List (Int × Int)) (p : Int × Int) : ∀ (i : Nat) (x : W4), wants k m i (l ++ [p]) x = wantN k m (wants k m i l x) (i + l.length) p := by
  induction l with
  | nil => intro i x; rfl
  | cons q l ih =>
    intro i x
    show wants k m (i + 1) (l ++ [p]) _ = _
    rw [ih]
    show _ = wantN k m (wants k m (i + 1) l _) (i + (l.length + 1)) p
    rw [show i + 1 + l.length = i + (l.length + 1) by omega]

/-- The plain law. -/
theorem wants_late (k m : Int) (l : List (Int × Int)) : ∀ (i : Nat) (x : W4), k < i → 0 < i → wants k m i l x = x := by
  induction l with
  | nil => intros; rfl
  | cons p l ih =>
    intro i x h h0
    show wants k m (i + 1) l (wantN k m x i p) = x
    rw [ih _ _ (by omega) (by omega)]
    unfold wantN
    rw [if_neg (by omega), if_neg (by omega)]
theorem wants_from (m : Int) (l : List (Int × Int)) : ∀ (k : Int) (i : Nat) (x : W4), (i : Int) ≤ k → wants k m i l x = tornN x l (k - i) m := by
  induction l with
  | nil => intro k i x _; rfl
  | cons p l ih =>
    intro k i x h
    show wants k m (i + 1) l (wantN k m x i p) = _
    by_cases hk : (i : Int) < k
    · rw [ih k (i + 1) _ (by omega)]
      rw [show wantN k m x i p = put4 x p from if_pos hk]
      unfold tornN upTo
      have e : min (k - i).toNat (p :: l).length = min (k - (i + 1 : Nat)).toNat l.length + 1 := by simp; omega
      rw [e]
      simp only [List.getElem?_cons_succ, List.take_succ_cons, List.foldl_cons]
    · obtain rfl : k = i := by omega
      rw [wants_late _ _ _ _ _ (by omega) (by omega)]
      rw [show wantN i m x i p = tear m x p from by unfold wantN; rw [if_neg (by omega), if_pos (.inl rfl)]]
      unfold tornN upTo
      simp
theorem wants_torn (x : W4) (l : List (Int × Int)) (k m : Int) : wants k m 0 l x = tornN x l k m := by
  by_cases hk : 0 ≤ k
  · have := wants_from m l k 0 x (by omega)
    simpa using this
  · cases l with
    | nil => rfl
    | cons p l =>
      show wants k m 1 l (wantN k m x 0 p) = _
      rw [wants_late _ _ _ _ _ (by omega) (by omega)]
      rw [show wantN k m x 0 p = tear m x p from by unfold wantN; rw [if_neg (by omega), if_pos (.inr ⟨rfl, by omega⟩)]]
      unfold tornN upTo
      have e : min k.toNat (p :: l).length = 0 := by simp; omega
      rw [e]
      simp
theorem wantN_no (k m : Int) (x : W4) (i : Nat) (at_ v : Int) (h : ¬ (0 ≤ at_ ∧ at_ ≤ 3)) : wantN k m x i (at_, v) = x := by
  unfold wantN
  rw [put4_no x at_ v h, tear_no m x at_ v h]
  split
  · rfl
  · split <;> rfl
theorem wants_step (x : W4) (l : List (Int × Int)) (k m : Int) (j : Nat) (hj : j < l.length) : wants k m 0 (l.take (j + 1)) x = wantN k m (wants k m 0 (l.take j) x) j l[j] := by
  rw [List.take_succ_eq_append_getElem hj, wants_append, List.length_take, Nat.min_eq_left (by omega), Nat.zero_add]

theorem or_u32_comm (a b : Int) : bits .or .u32 a b = bits .or .u32 b a := by
  show IntKind.u32.wrap ((BitVec.ofInt 32 a ||| BitVec.ofInt 32 b).toNat : Int) = IntKind.u32.wrap ((BitVec.ofInt 32 b ||| BitVec.ofInt 32 a).toNat : Int)
  rw [BitVec.or_comm]

set_option maxHeartbeats 2000000 in
theorem slotTears_any (x : W4) (A : Option Addr) (n c : Nat) (l : List (Int × Int)) (k m : Int) (hl : l.length = n) (hn : n ≤ 9223372036854775807) (hc : n ≤ c) (w : World) (hr : Rd w w.heap.size 2 A n (l.flatMap encP)) :
    Calls Try.prog 11 #[.agg #[.int .u32 x.a, .int .u32 x.b, .int .u32 x.c, .int .u32 x.d], .slice A n c, .int .i64 k, .int .u32 m] w fun e w' => e = .returned (.bool true) ∧ Below w.heap.size w w' := by
  by_cases h30 : (30 : Int) < n
  · go_enter Try.func11, Try.ntmps11
    go_wp2_with (first
      | (go_at_call 23; refine (awake12_any _).mono ?_; rintro e w1 ⟨rfl, hb1⟩; have hb1' := below_alloc hb1; clear hb1))
    go_ret
    exact ⟨rfl, hb1'⟩
  · go_enter Try.func11, Try.ntmps11
    go_upto_region 5 with (first
      | (go_at_call 23; refine (awake12_any _).mono ?_; rintro e w1 ⟨rfl, hb1⟩; have hW1 := (Blk.new w 40 #[.int .u32 x.a, .int .u32 x.b, .int .u32 x.c, .int .u32 x.d]).kept hb1; have hb1' := below_alloc hb1; clear hb1; have eW1 := hW1.cell))
    go_cut [9, 10] from 18 to 19 (fun s9 s10 wx => ∃ g9 g10 : Nat, s9 = .pointer (some ⟨g9, 0, none⟩) ∧ s10 = .pointer (some ⟨g10, 0, none⟩) ∧ g9 ≠ g10 ∧ w.heap.size < g9 ∧ w.heap.size < g10 ∧ Blk wx w.heap.size 40 x.arr ∧ Blk wx g9 40 x.arr ∧ Blk wx g10 40 x.arr ∧ RowKit.Below w.heap.size w wx)
    case first =>
      have lW := hW1.lt
      go_region
      all_goals go_wp2_with fail
      all_goals go_meet
      case rel => exact ⟨w1.heap.size, w1.heap.size + 1, rfl, rfl, by omega, by omega, by omega, (hW1.alloc _).alloc _, (Blk.new _ _ _).alloc _, Blk.fresh _ _ _, (bal (bal hb1' _) _).drew⟩
      case rel => exact ⟨w1.heap.size + 1, w1.heap.size, rfl, rfl, by omega, by omega, by omega, (hW1.alloc _).alloc _, Blk.fresh _ _ _, (Blk.new _ _ _).alloc _, (bal (bal hb1' _) _).drew⟩
    case rest =>
      obtain ⟨g9, g10, rfl, rfl, hne, l9, l10, h4, h9, h10, hb⟩ := hcut
      clear hW1 hb1' eW1
      have HW := Lib.hid (wants_torn x l k m)
      go_wp2_with fail
      go_loopw [11, 12, 22] (fun _ _ i wr => ∃ j : Nat, j ≤ n ∧ i = .int .i64 j ∧ Blk wr w.heap.size 40 x.arr ∧ Blk wr g9 40 (wants k m 0 (l.take j) x).arr ∧ Blk wr g10 40 ((l.take j).foldl put4 x).arr ∧ RowKit.Below w.heap.size w wr) (fun _ _ i _ => n - (intOf i).toNat)
      case atStart => exact ⟨0, by omega, rfl, h4, h9, h10, hb⟩
      case round =>
        obtain ⟨j, hj, rfl, h4r, h9r, h10r, hbr⟩ := hrel
        clear h4 h9 h10 hb
        have z4 := h4r.lt
        have z9 := h9r.lt
        have z10 := h10r.lt
        by_cases hlt : j < n
        · have hlt' : j < l.length := by omega
          obtain ⟨b, off, rfl, hbb, hcl⟩ := (hr.below hbr).row (fun _ => rfl) hlt' hl
          have c0 := hcl 0 (by omega)
          have c1 := hcl 1 (by omega)
          simp only [encP, Nat.add_zero] at c0 c1
          have HT := Lib.hid (List.take_succ_eq_append_getElem hlt')
          have HS := Lib.hid (wants_step x l k m j hlt')
          clear hcl hr
          generalize l[j] = p at *
          obtain ⟨at_, v⟩ := p
          have HP := Lib.hid (show (l.take (j + 1)).foldl put4 x = put4 ((l.take j).foldl put4 x) (at_, v) by rw [HT.out, List.foldl_append]; rfl)
          generalize (l.take j).foldl put4 x = y at *
          generalize wants k m 0 (l.take j) x = z at *
          by_cases hp : 0 ≤ at_ ∧ at_ ≤ 3
          · obtain ⟨hp0, hp1⟩ := hp
            have f9 := h9r.frozen
            have e9 := h9r.cell
            have f10 := h10r.frozen
            have e10 := h10r.cell
            unfold W4.arr at e9 e10
            by_cases hjk : (j : Int) < k
            · have HV := Lib.hid (show wantN k m z j (at_, v) = put4 z (at_, v) from if_pos hjk)
              rcases (by omega : at_ = 0 ∨ at_ = 1 ∨ at_ = 2 ∨ at_ = 3) with rfl | rfl | rfl | rfl
              · go_wp2
                go_roundw
                case rel => exact ⟨j + 1, by omega, by go_num, ((h4r.far (p := ⟨g10, 0, none⟩) (by simp; omega) _).far (p := ⟨g9, 0, none⟩) (by simp; omega) _).alloc _, by rw [HS.out, HV.out]; exact ((h9r.far (p := ⟨g10, 0, none⟩) hne _).set_ 0 _).alloc _, by rw [HP.out]; exact ((h10r.set_ 0 _).far (p := ⟨g9, 0, none⟩) (Ne.symm hne) _).alloc _, bal ((hbr.setCell (p := ⟨g10, 0, none⟩) (Nat.le_of_lt l10) _).setCell (p := ⟨g9, 0, none⟩) (Nat.le_of_lt l9) _) _⟩
                case measure => simp [intOf]; omega
              · go_wp2
                go_roundw
                case rel => exact ⟨j + 1, by omega, by go_num, ((h4r.far (p := ⟨g10, 1, none⟩) (by simp; omega) _).far (p := ⟨g9, 1, none⟩) (by simp; omega) _).alloc _, by rw [HS.out, HV.out]; exact ((h9r.far (p := ⟨g10, 1, none⟩) hne _).set_ 1 _).alloc _, by rw [HP.out]; exact ((h10r.set_ 1 _).far (p := ⟨g9, 1, none⟩) (Ne.symm hne) _).alloc _, bal ((hbr.setCell (p := ⟨g10, 1, none⟩) (Nat.le_of_lt l10) _).setCell (p := ⟨g9, 1, none⟩) (Nat.le_of_lt l9) _) _⟩
                case measure => simp [intOf]; omega
              · go_wp2
                go_roundw
                case rel => exact ⟨j + 1, by omega, by go_num, ((h4r.far (p := ⟨g10, 2, none⟩) (by simp; omega) _).far (p := ⟨g9, 2, none⟩) (by simp; omega) _).alloc _, by rw [HS.out, HV.out]; exact ((h9r.far (p := ⟨g10, 2, none⟩) hne _).set_ 2 _).alloc _, by rw [HP.out]; exact ((h10r.set_ 2 _).far (p := ⟨g9, 2, none⟩) (Ne.symm hne) _).alloc _, bal ((hbr.setCell (p := ⟨g10, 2, none⟩) (Nat.le_of_lt l10) _).setCell (p := ⟨g9, 2, none⟩) (Nat.le_of_lt l9) _) _⟩
                case measure => simp [intOf]; omega
              · go_wp2
                go_roundw
                case rel => exact ⟨j + 1, by omega, by go_num, ((h4r.far (p := ⟨g10, 3, none⟩) (by simp; omega) _).far (p := ⟨g9, 3, none⟩) (by simp; omega) _).alloc _, by rw [HS.out, HV.out]; exact ((h9r.far (p := ⟨g10, 3, none⟩) hne _).set_ 3 _).alloc _, by rw [HP.out]; exact ((h10r.set_ 3 _).far (p := ⟨g9, 3, none⟩) (Ne.symm hne) _).alloc _, bal ((hbr.setCell (p := ⟨g10, 3, none⟩) (Nat.le_of_lt l10) _).setCell (p := ⟨g9, 3, none⟩) (Nat.le_of_lt l9) _) _⟩
                case measure => simp [intOf]; omega
            · have hjk' : ¬ ((j : Int) < k) := hjk
              by_cases ht : (j : Int) = k ∨ (j = 0 ∧ k < 0)
              · have HV := Lib.hid (show wantN k m z j (at_, v) = tear m z (at_, v) from by unfold wantN; rw [if_neg hjk, if_pos ht])
                have hbs : ((j : Int) == k) = true ∨ ((j : Int) == k) = false ∧ ((j : Int) == 0) = true ∧ k < 0 := by
                  rcases ht with h | ⟨h, h'⟩
                  · left; simpa using h
                  · right; exact ⟨by rw [beq_eq_false_iff_ne]; omega, by rw [beq_iff_eq]; omega, h'⟩
                clear ht
                rcases (by omega : at_ = 0 ∨ at_ = 1 ∨ at_ = 2 ∨ at_ = 3) with rfl | rfl | rfl | rfl
                · rcases hbs with hb1 | ⟨hb1, hb2, hb3⟩
                  all_goals
                    go_wp2
                    refine wp_name ?_
                    intro w3 hw3
                    have h4' : Blk w3 w.heap.size 40 x.arr := by rw [hw3]; exact (h4r.far (p := ⟨g10, 0, none⟩) (by simp; omega) _).alloc _
                    have h9' : Blk w3 g9 40 z.arr := by rw [hw3]; exact (h9r.far (p := ⟨g10, 0, none⟩) hne _).alloc _
                    have h10' : Blk w3 g10 40 (put4 y (0, v)).arr := by rw [hw3]; exact (h10r.set_ 0 _).alloc _
                    have hC3 : Blk w3 wr.heap.size 62 #[.int .i64 0, .int .u32 v] := by rw [hw3]; exact Blk.fresh _ _ _
                    have hb3 : RowKit.Below w.heap.size w w3 := by rw [hw3]; exact bal (hbr.setCell (p := ⟨g10, 0, none⟩) (Nat.le_of_lt l10) _) _
                    clear hw3 hbr h4r h9r h10r f9 e9 f10 e10 c0 c1
                    refine wp_region_tail_below 14 (by kernel_rfl) (by kernel_rfl) ?_
                    have e0 := blk_regrown h9'
                    have e1 := blk_regrown hC3
                    unfold W4.arr at e0
                    simp only [List.take_succ_cons, List.take_zero, List.drop_succ_cons, List.drop_zero]
                    repeat (quiet_step (fail))
                    refine wpQuiet_nil ?_
                    rintro w4 ⟨p4, rfl⟩
                    have hb4 := hb3.trans ((below_regrown w3 p4.d p4.os).mono hb3.size)
                    have h44 := h4'.kept (below_regrown w3 p4.d p4.os)
                    have h94 := h9'.kept (below_regrown w3 p4.d p4.os)
                    have h104 := h10'.kept (below_regrown w3 p4.d p4.os)
                    generalize grow (redrawn w3 p4.d) p4.os = w4 at *
                    clear e0 e1 h4' h9' h10' hC3 hb3
                    have c4 := h94.cell
                    have f4 := h94.frozen
                    unfold W4.arr at c4
                    go_wp2
                    go_roundw
                    case rel => exact ⟨j + 1, by omega, by go_num, h44.far (p := ⟨g9, 0, none⟩) (by simp; omega) _, by rw [HS.out, HV.out]; unfold tear; simp only [if_true]; rw [or_u32_comm]; exact h94.set_ 0 _, by rw [HP.out]; exact h104.far (p := ⟨g9, 0, none⟩) (Ne.symm hne) _, hb4.setCell (p := ⟨g9, 0, none⟩) (Nat.le_of_lt l9) _⟩
                    case measure => simp [intOf]; omega
                · rcases hbs with hb1 | ⟨hb1, hb2, hb3⟩
                  all_goals
                    go_wp2
                    refine wp_name ?_
                    intro w3 hw3
                    have h4' : Blk w3 w.heap.size 40 x.arr := by rw [hw3]; exact (h4r.far (p := ⟨g10, 1, none⟩) (by simp; omega) _).alloc _
                    have h9' : Blk w3 g9 40 z.arr := by rw [hw3]; exact (h9r.far (p := ⟨g10, 1, none⟩) hne _).alloc _
                    have h10' : Blk w3 g10 40 (put4 y (1, v)).arr := by rw [hw3]; exact (h10r.set_ 1 _).alloc _
                    have hC3 : Blk w3 wr.heap.size 62 #[.int .i64 1, .int .u32 v] := by rw [hw3]; exact Blk.fresh _ _ _
                    have hb3 : RowKit.Below w.heap.size w w3 := by rw [hw3]; exact bal (hbr.setCell (p := ⟨g10, 1, none⟩) (Nat.le_of_lt l10) _) _
                    clear hw3 hbr h4r h9r h10r f9 e9 f10 e10 c0 c1
                    refine wp_region_tail_below 14 (by kernel_rfl) (by kernel_rfl) ?_
                    have e0 := blk_regrown h9'
                    have e1 := blk_regrown hC3
                    unfold W4.arr at e0
                    simp only [List.take_succ_cons, List.take_zero, List.drop_succ_cons, List.drop_zero]
                    repeat (quiet_step (fail))
                    refine wpQuiet_nil ?_
                    rintro w4 ⟨p4, rfl⟩
                    have hb4 := hb3.trans ((below_regrown w3 p4.d p4.os).mono hb3.size)
                    have h44 := h4'.kept (below_regrown w3 p4.d p4.os)
                    have h94 := h9'.kept (below_regrown w3 p4.d p4.os)
                    have h104 := h10'.kept (below_regrown w3 p4.d p4.os)
                    generalize grow (redrawn w3 p4.d) p4.os = w4 at *
                    clear e0 e1 h4' h9' h10' hC3 hb3
                    have c4 := h94.cell
                    have f4 := h94.frozen
                    unfold W4.arr at c4
                    go_wp2
                    go_roundw
                    case rel => exact ⟨j + 1, by omega, by go_num, h44.far (p := ⟨g9, 1, none⟩) (by simp; omega) _, by rw [HS.out, HV.out]; unfold tear; simp only [if_true]; rw [or_u32_comm]; exact h94.set_ 1 _, by rw [HP.out]; exact h104.far (p := ⟨g9, 1, none⟩) (Ne.symm hne) _, hb4.setCell (p := ⟨g9, 1, none⟩) (Nat.le_of_lt l9) _⟩
                    case measure => simp [intOf]; omega
                · rcases hbs with hb1 | ⟨hb1, hb2, hb3⟩
                  all_goals
                    go_wp2
                    refine wp_name ?_
                    intro w3 hw3
                    have h4' : Blk w3 w.heap.size 40 x.arr := by rw [hw3]; exact (h4r.far (p := ⟨g10, 2, none⟩) (by simp; omega) _).alloc _
                    have h9' : Blk w3 g9 40 z.arr := by rw [hw3]; exact (h9r.far (p := ⟨g10, 2, none⟩) hne _).alloc _
                    have h10' : Blk w3 g10 40 (put4 y (2, v)).arr := by rw [hw3]; exact (h10r.set_ 2 _).alloc _
                    have hC3 : Blk w3 wr.heap.size 62 #[.int .i64 2, .int .u32 v] := by rw [hw3]; exact Blk.fresh _ _ _
                    have hb3 : RowKit.Below w.heap.size w w3 := by rw [hw3]; exact bal (hbr.setCell (p := ⟨g10, 2, none⟩) (Nat.le_of_lt l10) _) _
                    clear hw3 hbr h4r h9r h10r f9 e9 f10 e10 c0 c1
                    refine wp_region_tail_below 14 (by kernel_rfl) (by kernel_rfl) ?_
                    have e0 := blk_regrown h9'
                    have e1 := blk_regrown hC3
                    unfold W4.arr at e0
                    simp only [List.take_succ_cons, List.take_zero, List.drop_succ_cons, List.drop_zero]
                    repeat (quiet_step (fail))
                    refine wpQuiet_nil ?_
                    rintro w4 ⟨p4, rfl⟩
                    have hb4 := hb3.trans ((below_regrown w3 p4.d p4.os).mono hb3.size)
                    have h44 := h4'.kept (below_regrown w3 p4.d p4.os)
                    have h94 := h9'.kept (below_regrown w3 p4.d p4.os)
                    have h104 := h10'.kept (below_regrown w3 p4.d p4.os)
                    generalize grow (redrawn w3 p4.d) p4.os = w4 at *
                    clear e0 e1 h4' h9' h10' hC3 hb3
                    have c4 := h94.cell
                    have f4 := h94.frozen
                    unfold W4.arr at c4
                    go_wp2
                    go_roundw
                    case rel => exact ⟨j + 1, by omega, by go_num, h44.far (p := ⟨g9, 2, none⟩) (by simp; omega) _, by rw [HS.out, HV.out]; unfold tear; simp only [if_true]; rw [or_u32_comm]; exact h94.set_ 2 _, by rw [HP.out]; exact h104.far (p := ⟨g9, 2, none⟩) (Ne.symm hne) _, hb4.setCell (p := ⟨g9, 2, none⟩) (Nat.le_of_lt l9) _⟩
                    case measure => simp [intOf]; omega
                · rcases hbs with hb1 | ⟨hb1, hb2, hb3⟩
                  all_goals
                    go_wp2
                    refine wp_name ?_
                    intro w3 hw3
                    have h4' : Blk w3 w.heap.size 40 x.arr := by rw [hw3]; exact (h4r.far (p := ⟨g10, 3, none⟩) (by simp; omega) _).alloc _
                    have h9' : Blk w3 g9 40 z.arr := by rw [hw3]; exact (h9r.far (p := ⟨g10, 3, none⟩) hne _).alloc _
                    have h10' : Blk w3 g10 40 (put4 y (3, v)).arr := by rw [hw3]; exact (h10r.set_ 3 _).alloc _
                    have hC3 : Blk w3 wr.heap.size 62 #[.int .i64 3, .int .u32 v] := by rw [hw3]; exact Blk.fresh _ _ _
                    have hb3 : RowKit.Below w.heap.size w w3 := by rw [hw3]; exact bal (hbr.setCell (p := ⟨g10, 3, none⟩) (Nat.le_of_lt l10) _) _
                    clear hw3 hbr h4r h9r h10r f9 e9 f10 e10 c0 c1
                    refine wp_region_tail_below 14 (by kernel_rfl) (by kernel_rfl) ?_
                    have e0 := blk_regrown h9'
                    have e1 := blk_regrown hC3
                    unfold W4.arr at e0
                    simp only [List.take_succ_cons, List.take_zero, List.drop_succ_cons, List.drop_zero]
                    repeat (quiet_step (fail))
                    refine wpQuiet_nil ?_
                    rintro w4 ⟨p4, rfl⟩
                    have hb4 := hb3.trans ((below_regrown w3 p4.d p4.os).mono hb3.size)
                    have h44 := h4'.kept (below_regrown w3 p4.d p4.os)
                    have h94 := h9'.kept (below_regrown w3 p4.d p4.os)
                    have h104 := h10'.kept (below_regrown w3 p4.d p4.os)
                    generalize grow (redrawn w3 p4.d) p4.os = w4 at *
                    clear e0 e1 h4' h9' h10' hC3 hb3
                    have c4 := h94.cell
                    have f4 := h94.frozen
                    unfold W4.arr at c4
                    go_wp2
                    go_roundw
                    case rel => exact ⟨j + 1, by omega, by go_num, h44.far (p := ⟨g9, 3, none⟩) (by simp; omega) _, by rw [HS.out, HV.out]; unfold tear; simp only [if_true]; rw [or_u32_comm]; exact h94.set_ 3 _, by rw [HP.out]; exact h104.far (p := ⟨g9, 3, none⟩) (Ne.symm hne) _, hb4.setCell (p := ⟨g9, 3, none⟩) (Nat.le_of_lt l9) _⟩
                    case measure => simp [intOf]; omega
              · have HV := Lib.hid (show wantN k m z j (at_, v) = z from by unfold wantN; rw [if_neg hjk, if_neg ht])
                have hbn : ((j : Int) == k) = false := by rw [beq_eq_false_iff_ne]; omega
                have hbs : ((j : Int) == 0) = false ∨ ((j : Int) == 0) = true ∧ ¬ k < 0 := by
                  by_cases h : j = 0
                  · right; exact ⟨by rw [beq_iff_eq]; omega, by omega⟩
                  · left; rw [beq_eq_false_iff_ne]; omega
                clear ht
                rcases (by omega : at_ = 0 ∨ at_ = 1 ∨ at_ = 2 ∨ at_ = 3) with rfl | rfl | rfl | rfl
                · rcases hbs with hb1 | ⟨hb1, hb2⟩
                  all_goals
                    go_wp2
                    go_roundw
                    case rel => exact ⟨j + 1, by omega, by go_num, (h4r.far (p := ⟨g10, 0, none⟩) (by simp; omega) _).alloc _, by rw [HS.out, HV.out]; exact (h9r.far (p := ⟨g10, 0, none⟩) hne _).alloc _, by rw [HP.out]; exact (h10r.set_ 0 _).alloc _, bal (hbr.setCell (p := ⟨g10, 0, none⟩) (Nat.le_of_lt l10) _) _⟩
                    case measure => simp [intOf]; omega
                · rcases hbs with hb1 | ⟨hb1, hb2⟩
                  all_goals
                    go_wp2
                    go_roundw
                    case rel => exact ⟨j + 1, by omega, by go_num, (h4r.far (p := ⟨g10, 1, none⟩) (by simp; omega) _).alloc _, by rw [HS.out, HV.out]; exact (h9r.far (p := ⟨g10, 1, none⟩) hne _).alloc _, by rw [HP.out]; exact (h10r.set_ 1 _).alloc _, bal (hbr.setCell (p := ⟨g10, 1, none⟩) (Nat.le_of_lt l10) _) _⟩
                    case measure => simp [intOf]; omega
                · rcases hbs with hb1 | ⟨hb1, hb2⟩
                  all_goals
                    go_wp2
                    go_roundw
                    case rel => exact ⟨j + 1, by omega, by go_num, (h4r.far (p := ⟨g10, 2, none⟩) (by simp; omega) _).alloc _, by rw [HS.out, HV.out]; exact (h9r.far (p := ⟨g10, 2, none⟩) hne _).alloc _, by rw [HP.out]; exact (h10r.set_ 2 _).alloc _, bal (hbr.setCell (p := ⟨g10, 2, none⟩) (Nat.le_of_lt l10) _) _⟩
                    case measure => simp [intOf]; omega
                · rcases hbs with hb1 | ⟨hb1, hb2⟩
                  all_goals
                    go_wp2
                    go_roundw
                    case rel => exact ⟨j + 1, by omega, by go_num, (h4r.far (p := ⟨g10, 3, none⟩) (by simp; omega) _).alloc _, by rw [HS.out, HV.out]; exact (h9r.far (p := ⟨g10, 3, none⟩) hne _).alloc _, by rw [HP.out]; exact (h10r.set_ 3 _).alloc _, bal (hbr.setCell (p := ⟨g10, 3, none⟩) (Nat.le_of_lt l10) _) _⟩
                    case measure => simp [intOf]; omega
          · have HN := Lib.hid (put4_no y at_ v hp)
            have HV := Lib.hid (wantN_no k m z j at_ v hp)
            go_wp2
            all_goals first | (exfalso; omega) | skip
            all_goals go_roundw
            all_goals first
              | exact ⟨j + 1, by omega, by go_num, h4r.alloc _, by rw [HS.out, HV.out]; exact h9r.alloc _, by rw [HP.out, HN.out]; exact h10r.alloc _, bal hbr _⟩
              | (simp [intOf]; omega)
        · obtain rfl : j = n := by omega
          rw [List.take_of_length_le (by omega)] at h9r h10r
          rw [HW.out] at h9r
          obtain ⟨y, hy⟩ : ∃ y, l.foldl put4 x = y := ⟨_, rfl⟩
          obtain ⟨z, hz⟩ : ∃ z, tornN x l k m = z := ⟨_, rfl⟩
          rw [hy] at h10r
          rw [hz] at h9r
          have HY := Lib.hid hy
          have HZ := Lib.hid hz
          have HL := Lib.hid hl
          clear hy hz hl
          have hlt : ¬ (j : Int) < (j : Int) := by omega
          go_wp2_with fail
          refine wp_region_quiet_below (by kernel_rfl) (by kernel_rfl) ?_
          have e0 := blk_regrown h4r
          have e1 := blk_regrown h9r
          have e2 := blk_regrown h10r
          unfold W4.arr at e0 e1 e2
          have heq := arr4_eql
          repeat (quiet_step (first
            | (go_at_call 40; exact regrown (torn_any x z A j c l k m HZ.out HL.out hn hc _ ((hr.below (hbr.trans ((below_regrown wr _ _).mono hbr.size))).more (Nat.le_trans hbr.size (below_regrown wr _ _).size))))
            | (go_at_call 39; exact regrown (after_y x y A j c l HY.out HL.out hn _ ((hr.below (hbr.trans ((below_regrown wr _ _).mono hbr.size))).more (Nat.le_trans hbr.size (below_regrown wr _ _).size))))))
          refine wpQuiet_nil ?_
          rintro w7 ⟨p, rfl⟩
          have hb7 := hbr.trans ((below_regrown wr p.d p.os).mono hbr.size)
          generalize grow (redrawn wr p.d) p.os = w7 at hb7 ⊢
          clear e0 e1 e2
          go_wp2
          go_ret
          exact ⟨rfl, hb7⟩

end Go.Proofs.Ytdkhkpjepnmjnaa
