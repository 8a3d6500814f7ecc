/- Chapter 3: roots, bit by bit: the plain law, and the program's root, walked. -/
import Derived.Test.YtjcklmhkdpbbdaaDoorShaU
namespace Go.Proofs.YtjcklmhkdpbbdaaDoor
set_option linter.unusedVariables false
set_option linter.unusedSimpArgs false
open Go.RowKit Go.Sort

/-- The greatest x' from x on whose power is no more than B, the lowest b bits open. -/
def gr (k B : Nat) : Nat → Nat → Nat
  | 0, x => x
  | b + 1, x => gr k B b (if (x + 2 ^ b) ^ k ≤ B then x + 2 ^ b else x)
theorem gr_spec (k B : Nat) : ∀ (b x : Nat), x ^ k ≤ B → B < (x + 2 ^ b) ^ k → (gr k B b x) ^ k ≤ B ∧ B < (gr k B b x + 1) ^ k
  | 0, x, h, h' => ⟨h, h'⟩
  | b + 1, x, h, h' => by
    rw [gr]
    by_cases hc : (x + 2 ^ b) ^ k ≤ B
    · rw [if_pos hc]
      exact gr_spec k B b _ hc (by rw [Nat.add_assoc, ← Nat.two_mul, ← Nat.pow_succ']; exact h')
    · rw [if_neg hc]
      exact gr_spec k B b _ h (by omega)
theorem root_unique {k B r s : Nat} (hr : r ^ k ≤ B ∧ B < (r + 1) ^ k) (hs : s ^ k ≤ B ∧ B < (s + 1) ^ k) : r = s := by
  rcases Nat.lt_trichotomy r s with h | h | h
  · have := Nat.pow_le_pow_left (show r + 1 ≤ s by omega) k; omega
  · exact h
  · have := Nat.pow_le_pow_left (show s + 1 ≤ r by omega) k; omega
theorem gr_two {p : Nat} (hp : p ≤ 311) : gr 2 (p * 2 ^ 64) 38 0 = gr 2 (p * 2 ^ 64) 37 0 :=
  root_unique (gr_spec 2 _ 38 0 (by simp) (by omega)) (gr_spec 2 _ 37 0 (by simp) (by omega))
theorem gr_three {p : Nat} (hp : p ≤ 311) : gr 3 (p * 2 ^ 96) 38 0 = gr 3 (p * 2 ^ 96) 35 0 :=
  root_unique (gr_spec 3 _ 38 0 (by simp) (by omega)) (gr_spec 3 _ 35 0 (by simp) (by omega))
def wdL (v : Nat) : List Value := (wdA v).toList
theorem wdL_arr (v : Nat) : (wdL v).toArray = wdA v := by simp [wdL]
theorem wdL_len (v : Nat) : (wdL v).length = 3 := rfl
theorem wdL_one (v : Nat) : ∀ u ∈ wdL v, u.oneCell' = true := by
  intro u hu
  simp only [wdL, wdA, List.mem_cons, List.not_mem_nil, or_false] at hu
  rcases hu with rfl | rfl | rfl <;> rfl
theorem wdL_1 : wdL 1 = [.int .u64 1, .int .u64 0, .int .u64 0] := by kernel_rfl
theorem wdL_two {p : Nat} (hp : p ≤ 311) : wdL (p * 2 ^ 64) = [.int .u64 0, .int .u64 (p : Int), .int .u64 0] := by
  have e0 : p * 2 ^ 64 % 18446744073709551616 = 0 := by omega
  have e1 : p * 2 ^ 64 / 18446744073709551616 % 18446744073709551616 = p := by omega
  have e2 : p * 2 ^ 64 / 340282366920938463463374607431768211456 = 0 := by omega
  unfold wdL wdA
  rw [e0, e1, e2]; rfl
theorem wdL_three {p : Nat} (hp : p ≤ 311) : wdL (p * 2 ^ 96) = [.int .u64 0, .int .u64 ((p * 4294967296 : Nat) : Int), .int .u64 0] := by
  have e0 : p * 2 ^ 96 % 18446744073709551616 = 0 := by omega
  have e1 : p * 2 ^ 96 / 18446744073709551616 % 18446744073709551616 = p * 4294967296 := by omega
  have e2 : p * 2 ^ 96 / 340282366920938463463374607431768211456 = 0 := by omega
  unfold wdL wdA
  rw [e0, e1, e2]; rfl
theorem or_bit {x b : Nat} (hx : x % 2 ^ (b + 1) = 0) : x ||| 2 ^ b = x + 2 ^ b := by
  have h1 : x % 2 ^ (b + 1) = 0 := hx
  exact or_nat_add (b + 1) rfl h1 (by rw [Nat.pow_succ]; have := Nat.two_pow_pos b; omega)
theorem or_bitI {x b : Nat} (hx : x % 2 ^ (b + 1) = 0) (hlt : x + 2 ^ b < 18446744073709551616) : bits .or .u64 (x : Int) ((2 ^ b : Nat) : Int) = ((x + 2 ^ b : Nat) : Int) := by
  have h2 := Nat.two_pow_pos b
  rw [bits_or_u64_nat x (2 ^ b) (by omega) (by omega), or_bit hx]
theorem wdL_i : (Tryd.prog.info? 111).map (·.size) = some 3 := by kernel_rfl
set_option maxRecDepth 100000 in
set_option maxHeartbeats 2000000 in
theorem root2_any (p : Nat) (h1 : 1 ≤ p) (h2 : p ≤ 311) (w : World) :
    Calls Tryd.prog 65 #[.int .i64 p, .int .i64 2] w fun e w' => e = .returned (.int .u32 ((gr 2 (p * 2 ^ 64) 38 0 % 4294967296 : Nat) : Int)) ∧ Below w.heap.size w w' := by
  have hz := (zero_of_info info_wd).1
  have HBd := Lib.hid (show (p * 2 ^ 64) < 6277101735386680763835789423207666416102355444464034512896 by omega)
  have hw3 : IntKind.u64.wrap ((p : Int) * 4294967296) = ((p * 4294967296 : Nat) : Int) := by rw [IntKind.wrap_u64]; omega
  have HI0 : Hid (Blk (w.alloc (.cells (wdL (p * 2 ^ 64)).toArray 111)) w.heap.size 111 (wdL (p * 2 ^ 64)).toArray ∧ RowKit.Below w.heap.size w (w.alloc (.cells (wdL (p * 2 ^ 64)).toArray 111))) := Lib.hid ⟨Blk.new _ _ _, bal (Below.refl _ _) _⟩
  rw [wdL_two h2] at HI0
  obtain ⟨R, hR⟩ : ∃ R, gr 2 (p * 2 ^ 64) 38 0 = R := ⟨_, rfl⟩
  have HR : Hid (gr 2 (p * 2 ^ 64) 38 0 = R) := Lib.hid hR
  rw [hR]
  have hRlt : R < 274877906944 := by
    have := gr_spec 2 (p * 2 ^ 64) 38 0 (by simp) (by omega)
    rw [hR] at this
    rcases Nat.lt_or_ge R 274877906944 with h | h
    · exact h
    · have := Nat.pow_le_pow_left h 2; omega
  have HL := Lib.hid (wdL_two h2)
  obtain ⟨B, hB⟩ : ∃ B, (p * 2 ^ 64) = B := ⟨_, rfl⟩
  rw [hB] at HR HBd HL
  have h1I : (1 : Int) ≤ (p : Int) := by omega
  have h2I : (p : Int) ≤ 311 := by omega
  clear hR hB h1 h2
  go_enter Tryd.func65, Tryd.ntmps65
  go_wp2
  go_loopw [6, 7] (fun x i wr => ∃ (i0 : Int) (v : Nat), -1 ≤ i0 ∧ i0 ≤ 37 ∧ i = .int .i64 i0 ∧ x = .int .u64 v ∧ Hid (gr 2 B (i0 + 1).toNat v = R ∧ v % 2 ^ (i0 + 1).toNat = 0 ∧ v + 2 ^ (i0 + 1).toNat ≤ 274877906944) ∧ Hid (Blk wr w.heap.size 111 (wdL B).toArray ∧ RowKit.Below w.heap.size w wr)) (fun _ i _ => ((intOf i) + 1).toNat)
  case atStart => exact ⟨37, 0, by omega, by omega, rfl, rfl, Lib.hid ⟨HR.out, by simp, by decide⟩, by rw [HL.out]; exact HI0⟩
  case round =>
    obtain ⟨i0, v, hi1, hi2, rfl, rfl, HV, HI⟩ := hrel
    clear HI0 hw3 HR
    by_cases h0 : i0 < 0
    · have e : i0 = -1 := by omega
      have HE : Hid (v = R) := Lib.hid (by have := HV.out.1; rw [e] at this; exact this)
      have HW : Hid (IntKind.u32.wrap (v : Int) = ((R % 4294967296 : Nat) : Int)) := Lib.hid (by rw [HE.out, IntKind.wrap_u32]; omega)
      have HBw := Lib.hid HI.out.2
      clear HV e HI
      go_wp2
      go_ret
      exact ⟨by rw [← HW.out, IntKind.wrap_u32]; rfl, HBw.out⟩
    · obtain ⟨b, rfl⟩ := Int.eq_ofNat_of_zero_le (show 0 ≤ i0 by omega)
      have HV' : Hid (gr 2 B (b + 1) v = R ∧ v % 2 ^ (b + 1) = 0 ∧ v + 2 ^ (b + 1) ≤ 274877906944) := HV
      clear HV h0
      obtain ⟨y, hy⟩ : ∃ y, v + 2 ^ b = y := ⟨_, rfl⟩
      have hp2 := Nat.pow_succ 2 b
      have hylt : y < 274877906944 := by have := HV'.out.2.2; have := Nat.two_pow_pos b; omega
      have hor : bits .or .u64 (v : Int) (IntKind.u64.wrap (2 ^ b)) = (y : Int) := by
        have e : IntKind.u64.wrap ((2 : Int) ^ b) = ((2 ^ b : Nat) : Int) := by
          have := HV'.out.2.2
          rw [IntKind.wrap_u64, show ((2 : Int) ^ b) = ((2 ^ b : Nat) : Int) by push_cast; rfl]; omega
        rw [e, or_bitI HV'.out.2.1 (by omega), hy]
      have TT : ∀ j, y ^ j * y ≤ 274877906944 ^ 3 → y ^ j ≤ 274877906944 ^ 3 → ∀ W, Calls Tryd.prog 77 #[.agg (wdL (y ^ j)).toArray, .int .u64 y] W fun e w' => e = .returned (.agg (wdL (y ^ (j + 1))).toArray) ∧ Below W.heap.size W w' := fun j h h' W => by
        rw [wdL_arr, wdL_arr]
        exact times_any (y ^ j) y (by omega) (by omega) (by omega) W
      have q : ∀ j, j ≤ 3 → y ^ j ≤ 274877906944 ^ 3 := fun j hj => Nat.le_trans (Nat.pow_le_pow_left (by omega) j) (Nat.pow_le_pow_right (by decide) hj)
      have T0 := Lib.hid (TT 0 (q 1 (by decide)) (q 0 (by decide)))
      have T1 := Lib.hid (TT 1 (q 2 (by decide)) (q 1 (by decide)))
      have HLs := Lib.hid (fun W => less_any B (y ^ 2) HBd.out (by have := q 2 (by decide); omega) W)
      rw [← wdL_arr, ← wdL_arr] at HLs
      have HL0 := Lib.hid (show [.int .u64 1, .int .u64 0, .int .u64 0] = wdL (y ^ 0) from wdL_1.symm)
      have l5 := wdL_len B
      have o5 := wdL_one B
      have l0 := wdL_len (y ^ 0)
      have o0 := wdL_one (y ^ 0)
      have l1 := wdL_len (y ^ 1)
      have o1 := wdL_one (y ^ 1)
      have l2 := wdL_len (y ^ 2)
      have o2 := wdL_one (y ^ 2)
      generalize wdL (y ^ 0) = L0 at *
      generalize wdL (y ^ 1) = L1 at *
      generalize wdL (y ^ 2) = L2 at *
      generalize wdL B = LB at *
      have HO0 := Lib.hid (all_oneCell_toArray o0)
      have HE0 := Lib.hid l0
      have HS0 := Lib.hid (show L0.toArray.size = 3 by rw [List.size_toArray, l0])
      clear o0 l0
      have HO1 := Lib.hid (all_oneCell_toArray o1)
      have HE1 := Lib.hid l1
      have HS1 := Lib.hid (show L1.toArray.size = 3 by rw [List.size_toArray, l1])
      clear o1 l1
      have HO2 := Lib.hid (all_oneCell_toArray o2)
      have HE2 := Lib.hid l2
      have HS2 := Lib.hid (show L2.toArray.size = 3 by rw [List.size_toArray, l2])
      clear o2 l2
      have HO5 := Lib.hid (all_oneCell_toArray o5)
      have HE5 := Lib.hid l5
      have HS5 := Lib.hid (show LB.toArray.size = 3 by rw [List.size_toArray, l5])
      clear o5 l5
      clear TT q hp2
      go_upto_region 12 with (fail)
      refine wp_name ?_
      intro wa hwa
      have hba : RowKit.Below w.heap.size w wa := by rw [hwa]; exact bal' HI.out.2 _ HI.out.2.size
      have hB5 : Blk wa w.heap.size 111 LB.toArray := by rw [hwa]; exact HI.out.1.alloc _
      have hB0 : Blk wa wr.heap.size 111 L0.toArray := by rw [hwa, ← HL0.out]; exact Blk.new _ _ _
      have hgw := HI.out.1.lt
      clear hwa HI
      generalize wr.heap.size = g at *
      go_wp2
      refine wp_loop_rounds 3 ?_
      rw [rounds_succ]
      go_wp2_with (first
        | (refine wpList_load_mid rfl 111 (.tmp 9) rfl g 0 (by rfl) L0 _ hB0.range Tryd.underlying111 rfl (by rw [HE0.out]; kernel_rfl) ?_)
        | (go_at_call 77; refine (T0.out _).mono ?_; rintro e wb0 ⟨rfl, hb0⟩)
        | (refine wpList_store_blk rfl 111 (.tmp 9) (.tmp 39) rfl g 0 L1.toArray (by rfl) (by rfl) (hB0.kept hb0) (by rw [HS1.out, HS0.out]; exact Nat.le_refl _) (by rw [HS1.out]; kernel_rfl) HO1.out (setAt_whole (by rw [HE1.out, HS0.out])) ?_; intro wc0 hB1 hbl0 hz0 hh0))
      have hbx0 := hba.trans ((hb0.mono hba.size).trans (hbl0 w.heap.size (by omega)))
      have hB5p := (hB5.kept hb0).same (hh0 _ (by omega))
      rw [rounds_succ]
      go_wp2_with (first
        | (refine wpList_load_mid rfl 111 (.tmp 9) rfl g 0 (by rfl) L1 _ hB1.range Tryd.underlying111 rfl (by rw [HE1.out]; kernel_rfl) ?_)
        | (go_at_call 77; refine (T1.out _).mono ?_; rintro e wb1 ⟨rfl, hb1⟩)
        | (refine wpList_store_blk rfl 111 (.tmp 9) (.tmp 39) rfl g 0 L2.toArray (by rfl) (by rfl) (hB1.kept hb1) (by rw [HS2.out, HS1.out]; exact Nat.le_refl _) (by rw [HS2.out]; kernel_rfl) HO2.out (setAt_whole (by rw [HE2.out, HS1.out])) ?_; intro wc1 hB2 hbl1 hz1 hh1))
      have hbx1 := hbx0.trans ((hb1.mono hbx0.size).trans (hbl1 w.heap.size (by omega)))
      have hB5pp := (hB5p.kept hb1).same (hh1 _ (by omega))
      rw [rounds_succ]
      have hbf := hbx1
      have hBf := hB5pp
      by_cases hc : y ^ 2 ≤ B
      case' pos =>
        rw [decide_eq_false (by omega)] at HLs
        have HN : Hid (gr 2 B b y = R ∧ y % 2 ^ b = 0 ∧ y + 2 ^ b ≤ 274877906944) := Lib.hid (by
          obtain ⟨g1, g2, g3⟩ := HV'.out
          rw [gr, hy, if_pos hc] at g1
          refine ⟨g1, ?_, by rw [Nat.pow_succ] at g3; omega⟩
          rw [← hy, Nat.add_mod_right]
          exact Nat.mod_eq_zero_of_dvd (Nat.dvd_trans ⟨2, Nat.pow_succ 2 b⟩ (Nat.dvd_of_mod_eq_zero g2)))
      case' neg =>
        rw [decide_eq_true (by omega)] at HLs
        have HN : Hid (gr 2 B b v = R ∧ v % 2 ^ b = 0 ∧ v + 2 ^ b ≤ 274877906944) := Lib.hid (by
          obtain ⟨g1, g2, g3⟩ := HV'.out
          rw [gr, hy, if_neg hc] at g1
          refine ⟨g1, ?_, by rw [Nat.pow_succ] at g3; omega⟩
          exact Nat.mod_eq_zero_of_dvd (Nat.dvd_trans ⟨2, Nat.pow_succ 2 b⟩ (Nat.dvd_of_mod_eq_zero g2)))
      all_goals
        clear hc HV' hor hy
        go_wp2_with (first
          | (refine wpList_load_mid rfl 111 (.tmp 5) rfl w.heap.size 0 (by rfl) LB _ hBf.range Tryd.underlying111 rfl (by rw [HE5.out]; kernel_rfl) ?_)
          | (refine wpList_load_mid rfl 111 (.tmp 9) rfl g 0 (by rfl) L2 _ hB2.range Tryd.underlying111 rfl (by rw [HE2.out]; kernel_rfl) ?_)
          | (go_at_call 78; refine (HLs.out _).mono ?_; rintro e we ⟨rfl, hbe⟩))
        have HF : Hid (Blk we w.heap.size 111 LB.toArray ∧ RowKit.Below w.heap.size w we) := Lib.hid ⟨hBf.kept hbe, hbf.trans (hbe.mono hbf.size)⟩
        go_roundw
        case rel => exact ⟨(b : Int) - 1, _, by omega, by omega, rfl, rfl, by rw [show ((b : Int) - 1 + 1).toNat = b by omega]; exact HN, HF⟩
        case measure => simp [intOf]
set_option maxRecDepth 100000 in
set_option maxHeartbeats 2000000 in
theorem root3_any (p : Nat) (h1 : 1 ≤ p) (h2 : p ≤ 311) (w : World) :
    Calls Tryd.prog 65 #[.int .i64 p, .int .i64 3] w fun e w' => e = .returned (.int .u32 ((gr 3 (p * 2 ^ 96) 38 0 % 4294967296 : Nat) : Int)) ∧ Below w.heap.size w w' := by
  have hz := (zero_of_info info_wd).1
  have HBd := Lib.hid (show (p * 2 ^ 96) < 6277101735386680763835789423207666416102355444464034512896 by omega)
  have hw3 : IntKind.u64.wrap ((p : Int) * 4294967296) = ((p * 4294967296 : Nat) : Int) := by rw [IntKind.wrap_u64]; omega
  have HI0 : Hid (Blk (w.alloc (.cells (wdL (p * 2 ^ 96)).toArray 111)) w.heap.size 111 (wdL (p * 2 ^ 96)).toArray ∧ RowKit.Below w.heap.size w (w.alloc (.cells (wdL (p * 2 ^ 96)).toArray 111))) := Lib.hid ⟨Blk.new _ _ _, bal (Below.refl _ _) _⟩
  rw [wdL_three h2] at HI0
  obtain ⟨R, hR⟩ : ∃ R, gr 3 (p * 2 ^ 96) 38 0 = R := ⟨_, rfl⟩
  have HR : Hid (gr 3 (p * 2 ^ 96) 38 0 = R) := Lib.hid hR
  rw [hR]
  have hRlt : R < 274877906944 := by
    have := gr_spec 3 (p * 2 ^ 96) 38 0 (by simp) (by omega)
    rw [hR] at this
    rcases Nat.lt_or_ge R 274877906944 with h | h
    · exact h
    · have := Nat.pow_le_pow_left h 3; omega
  have HL := Lib.hid (wdL_three h2)
  obtain ⟨B, hB⟩ : ∃ B, (p * 2 ^ 96) = B := ⟨_, rfl⟩
  rw [hB] at HR HBd HL
  have h1I : (1 : Int) ≤ (p : Int) := by omega
  have h2I : (p : Int) ≤ 311 := by omega
  clear hR hB h1 h2
  go_enter Tryd.func65, Tryd.ntmps65
  go_wp2
  go_loopw [6, 7] (fun x i wr => ∃ (i0 : Int) (v : Nat), -1 ≤ i0 ∧ i0 ≤ 37 ∧ i = .int .i64 i0 ∧ x = .int .u64 v ∧ Hid (gr 3 B (i0 + 1).toNat v = R ∧ v % 2 ^ (i0 + 1).toNat = 0 ∧ v + 2 ^ (i0 + 1).toNat ≤ 274877906944) ∧ Hid (Blk wr w.heap.size 111 (wdL B).toArray ∧ RowKit.Below w.heap.size w wr)) (fun _ i _ => ((intOf i) + 1).toNat)
  case atStart => exact ⟨37, 0, by omega, by omega, rfl, rfl, Lib.hid ⟨HR.out, by simp, by decide⟩, by rw [HL.out]; exact HI0⟩
  case round =>
    obtain ⟨i0, v, hi1, hi2, rfl, rfl, HV, HI⟩ := hrel
    clear HI0 hw3 HR
    by_cases h0 : i0 < 0
    · have e : i0 = -1 := by omega
      have HE : Hid (v = R) := Lib.hid (by have := HV.out.1; rw [e] at this; exact this)
      have HW : Hid (IntKind.u32.wrap (v : Int) = ((R % 4294967296 : Nat) : Int)) := Lib.hid (by rw [HE.out, IntKind.wrap_u32]; omega)
      have HBw := Lib.hid HI.out.2
      clear HV e HI
      go_wp2
      go_ret
      exact ⟨by rw [← HW.out, IntKind.wrap_u32]; rfl, HBw.out⟩
    · obtain ⟨b, rfl⟩ := Int.eq_ofNat_of_zero_le (show 0 ≤ i0 by omega)
      have HV' : Hid (gr 3 B (b + 1) v = R ∧ v % 2 ^ (b + 1) = 0 ∧ v + 2 ^ (b + 1) ≤ 274877906944) := HV
      clear HV h0
      obtain ⟨y, hy⟩ : ∃ y, v + 2 ^ b = y := ⟨_, rfl⟩
      have hp2 := Nat.pow_succ 2 b
      have hylt : y < 274877906944 := by have := HV'.out.2.2; have := Nat.two_pow_pos b; omega
      have hor : bits .or .u64 (v : Int) (IntKind.u64.wrap (2 ^ b)) = (y : Int) := by
        have e : IntKind.u64.wrap ((2 : Int) ^ b) = ((2 ^ b : Nat) : Int) := by
          have := HV'.out.2.2
          rw [IntKind.wrap_u64, show ((2 : Int) ^ b) = ((2 ^ b : Nat) : Int) by push_cast; rfl]; omega
        rw [e, or_bitI HV'.out.2.1 (by omega), hy]
      have TT : ∀ j, y ^ j * y ≤ 274877906944 ^ 3 → y ^ j ≤ 274877906944 ^ 3 → ∀ W, Calls Tryd.prog 77 #[.agg (wdL (y ^ j)).toArray, .int .u64 y] W fun e w' => e = .returned (.agg (wdL (y ^ (j + 1))).toArray) ∧ Below W.heap.size W w' := fun j h h' W => by
        rw [wdL_arr, wdL_arr]
        exact times_any (y ^ j) y (by omega) (by omega) (by omega) W
      have q : ∀ j, j ≤ 3 → y ^ j ≤ 274877906944 ^ 3 := fun j hj => Nat.le_trans (Nat.pow_le_pow_left (by omega) j) (Nat.pow_le_pow_right (by decide) hj)
      have T0 := Lib.hid (TT 0 (q 1 (by decide)) (q 0 (by decide)))
      have T1 := Lib.hid (TT 1 (q 2 (by decide)) (q 1 (by decide)))
      have T2 := Lib.hid (TT 2 (q 3 (by decide)) (q 2 (by decide)))
      have HLs := Lib.hid (fun W => less_any B (y ^ 3) HBd.out (by have := q 3 (by decide); omega) W)
      rw [← wdL_arr, ← wdL_arr] at HLs
      have HL0 := Lib.hid (show [.int .u64 1, .int .u64 0, .int .u64 0] = wdL (y ^ 0) from wdL_1.symm)
      have l5 := wdL_len B
      have o5 := wdL_one B
      have l0 := wdL_len (y ^ 0)
      have o0 := wdL_one (y ^ 0)
      have l1 := wdL_len (y ^ 1)
      have o1 := wdL_one (y ^ 1)
      have l2 := wdL_len (y ^ 2)
      have o2 := wdL_one (y ^ 2)
      have l3 := wdL_len (y ^ 3)
      have o3 := wdL_one (y ^ 3)
      generalize wdL (y ^ 0) = L0 at *
      generalize wdL (y ^ 1) = L1 at *
      generalize wdL (y ^ 2) = L2 at *
      generalize wdL (y ^ 3) = L3 at *
      generalize wdL B = LB at *
      have HO0 := Lib.hid (all_oneCell_toArray o0)
      have HE0 := Lib.hid l0
      have HS0 := Lib.hid (show L0.toArray.size = 3 by rw [List.size_toArray, l0])
      clear o0 l0
      have HO1 := Lib.hid (all_oneCell_toArray o1)
      have HE1 := Lib.hid l1
      have HS1 := Lib.hid (show L1.toArray.size = 3 by rw [List.size_toArray, l1])
      clear o1 l1
      have HO2 := Lib.hid (all_oneCell_toArray o2)
      have HE2 := Lib.hid l2
      have HS2 := Lib.hid (show L2.toArray.size = 3 by rw [List.size_toArray, l2])
      clear o2 l2
      have HO3 := Lib.hid (all_oneCell_toArray o3)
      have HE3 := Lib.hid l3
      have HS3 := Lib.hid (show L3.toArray.size = 3 by rw [List.size_toArray, l3])
      clear o3 l3
      have HO5 := Lib.hid (all_oneCell_toArray o5)
      have HE5 := Lib.hid l5
      have HS5 := Lib.hid (show LB.toArray.size = 3 by rw [List.size_toArray, l5])
      clear o5 l5
      clear TT q hp2
      go_upto_region 12 with (fail)
      refine wp_name ?_
      intro wa hwa
      have hba : RowKit.Below w.heap.size w wa := by rw [hwa]; exact bal' HI.out.2 _ HI.out.2.size
      have hB5 : Blk wa w.heap.size 111 LB.toArray := by rw [hwa]; exact HI.out.1.alloc _
      have hB0 : Blk wa wr.heap.size 111 L0.toArray := by rw [hwa, ← HL0.out]; exact Blk.new _ _ _
      have hgw := HI.out.1.lt
      clear hwa HI
      generalize wr.heap.size = g at *
      go_wp2
      refine wp_loop_rounds 4 ?_
      rw [rounds_succ]
      go_wp2_with (first
        | (refine wpList_load_mid rfl 111 (.tmp 9) rfl g 0 (by rfl) L0 _ hB0.range Tryd.underlying111 rfl (by rw [HE0.out]; kernel_rfl) ?_)
        | (go_at_call 77; refine (T0.out _).mono ?_; rintro e wb0 ⟨rfl, hb0⟩)
        | (refine wpList_store_blk rfl 111 (.tmp 9) (.tmp 39) rfl g 0 L1.toArray (by rfl) (by rfl) (hB0.kept hb0) (by rw [HS1.out, HS0.out]; exact Nat.le_refl _) (by rw [HS1.out]; kernel_rfl) HO1.out (setAt_whole (by rw [HE1.out, HS0.out])) ?_; intro wc0 hB1 hbl0 hz0 hh0))
      have hbx0 := hba.trans ((hb0.mono hba.size).trans (hbl0 w.heap.size (by omega)))
      have hB5p := (hB5.kept hb0).same (hh0 _ (by omega))
      rw [rounds_succ]
      go_wp2_with (first
        | (refine wpList_load_mid rfl 111 (.tmp 9) rfl g 0 (by rfl) L1 _ hB1.range Tryd.underlying111 rfl (by rw [HE1.out]; kernel_rfl) ?_)
        | (go_at_call 77; refine (T1.out _).mono ?_; rintro e wb1 ⟨rfl, hb1⟩)
        | (refine wpList_store_blk rfl 111 (.tmp 9) (.tmp 39) rfl g 0 L2.toArray (by rfl) (by rfl) (hB1.kept hb1) (by rw [HS2.out, HS1.out]; exact Nat.le_refl _) (by rw [HS2.out]; kernel_rfl) HO2.out (setAt_whole (by rw [HE2.out, HS1.out])) ?_; intro wc1 hB2 hbl1 hz1 hh1))
      have hbx1 := hbx0.trans ((hb1.mono hbx0.size).trans (hbl1 w.heap.size (by omega)))
      have hB5pp := (hB5p.kept hb1).same (hh1 _ (by omega))
      rw [rounds_succ]
      go_wp2_with (first
        | (refine wpList_load_mid rfl 111 (.tmp 9) rfl g 0 (by rfl) L2 _ hB2.range Tryd.underlying111 rfl (by rw [HE2.out]; kernel_rfl) ?_)
        | (go_at_call 77; refine (T2.out _).mono ?_; rintro e wb2 ⟨rfl, hb2⟩)
        | (refine wpList_store_blk rfl 111 (.tmp 9) (.tmp 39) rfl g 0 L3.toArray (by rfl) (by rfl) (hB2.kept hb2) (by rw [HS3.out, HS2.out]; exact Nat.le_refl _) (by rw [HS3.out]; kernel_rfl) HO3.out (setAt_whole (by rw [HE3.out, HS2.out])) ?_; intro wc2 hB3 hbl2 hz2 hh2))
      have hbx2 := hbx1.trans ((hb2.mono hbx1.size).trans (hbl2 w.heap.size (by omega)))
      have hB5ppp := (hB5pp.kept hb2).same (hh2 _ (by omega))
      rw [rounds_succ]
      have hbf := hbx2
      have hBf := hB5ppp
      by_cases hc : y ^ 3 ≤ B
      case' pos =>
        rw [decide_eq_false (by omega)] at HLs
        have HN : Hid (gr 3 B b y = R ∧ y % 2 ^ b = 0 ∧ y + 2 ^ b ≤ 274877906944) := Lib.hid (by
          obtain ⟨g1, g2, g3⟩ := HV'.out
          rw [gr, hy, if_pos hc] at g1
          refine ⟨g1, ?_, by rw [Nat.pow_succ] at g3; omega⟩
          rw [← hy, Nat.add_mod_right]
          exact Nat.mod_eq_zero_of_dvd (Nat.dvd_trans ⟨2, Nat.pow_succ 2 b⟩ (Nat.dvd_of_mod_eq_zero g2)))
      case' neg =>
        rw [decide_eq_true (by omega)] at HLs
        have HN : Hid (gr 3 B b v = R ∧ v % 2 ^ b = 0 ∧ v + 2 ^ b ≤ 274877906944) := Lib.hid (by
          obtain ⟨g1, g2, g3⟩ := HV'.out
          rw [gr, hy, if_neg hc] at g1
          refine ⟨g1, ?_, by rw [Nat.pow_succ] at g3; omega⟩
          exact Nat.mod_eq_zero_of_dvd (Nat.dvd_trans ⟨2, Nat.pow_succ 2 b⟩ (Nat.dvd_of_mod_eq_zero g2)))
      all_goals
        clear hc HV' hor hy
        go_wp2_with (first
          | (refine wpList_load_mid rfl 111 (.tmp 5) rfl w.heap.size 0 (by rfl) LB _ hBf.range Tryd.underlying111 rfl (by rw [HE5.out]; kernel_rfl) ?_)
          | (refine wpList_load_mid rfl 111 (.tmp 9) rfl g 0 (by rfl) L3 _ hB3.range Tryd.underlying111 rfl (by rw [HE3.out]; kernel_rfl) ?_)
          | (go_at_call 78; refine (HLs.out _).mono ?_; rintro e we ⟨rfl, hbe⟩))
        have HF : Hid (Blk we w.heap.size 111 LB.toArray ∧ RowKit.Below w.heap.size w we) := Lib.hid ⟨hBf.kept hbe, hbf.trans (hbe.mono hbf.size)⟩
        go_roundw
        case rel => exact ⟨(b : Int) - 1, _, by omega, by omega, rfl, rfl, by rw [show ((b : Int) - 1 + 1).toNat = b by omega]; exact HN, HF⟩
        case measure => simp [intOf]
end Go.Proofs.YtjcklmhkdpbbdaaDoor
