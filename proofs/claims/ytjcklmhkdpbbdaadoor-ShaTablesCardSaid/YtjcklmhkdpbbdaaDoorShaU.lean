/- Chapter 3: numbers of 192 bits: times, less: walked. -/
import Derived.Test.YtjcklmhkdpbbdaaDoorShaL
import Derived.Handy
import Derived.Lib.Mul64
import Derived.Laws.Bits64b
import Derived.Laws.Externs
namespace Go.Proofs.YtjcklmhkdpbbdaaDoor
set_option linter.unusedVariables false
set_option linter.unusedSimpArgs false
open Go.RowKit Go.Sort

theorem low32 (a : Nat) (ha : a < 18446744073709551616) : bits .and .u64 (a : Int) 4294967295 = ((a % 4294967296 : Nat) : Int) := by
  have h := bits_and_u64_nat a 4294967295 ha (by omega)
  have e : a &&& 4294967295 = a % 4294967296 := Nat.and_two_pow_sub_one_eq_mod a 32
  rw [e] at h
  exact h
theorem high32 (a : Nat) : (a : Int) / 4294967296 = ((a / 4294967296 : Nat) : Int) := by omega
theorem nmul (a b : Nat) : (a : Int) * (b : Int) = ((a * b : Nat) : Int) := (Int.natCast_mul a b).symm
theorem nadd (a b : Nat) : (a : Int) + (b : Int) = ((a + b : Nat) : Int) := (Int.natCast_add a b).symm
theorem nwrap (a : Nat) (ha : a < 18446744073709551616) : IntKind.u64.wrap (a : Int) = (a : Int) := by rw [IntKind.wrap_u64]; omega
theorem nwrapm (a : Nat) : IntKind.u64.wrap (a : Int) = ((a % 18446744073709551616 : Nat) : Int) := by rw [IntKind.wrap_u64]; omega
set_option maxHeartbeats 1000000 in
theorem mul64_any (x y : Nat) (hx : x < 18446744073709551616) (hy : y < 18446744073709551616) (w : World) :
    Calls Tryd.prog 85 #[.int .u64 x, .int .u64 y] w fun e w' => e = .returned (.tuple #[.int .u64 ((x * y / 18446744073709551616 : Nat) : Int), .int .u64 ((x * y % 18446744073709551616 : Nat) : Int)]) ∧ w = w' := by
  obtain ⟨bd, bt, bw, hhi⟩ := Lib.mul64_hi x y hx hy
  have ba := Lib.half_mul_le (a := x / 4294967296) (b := y / 4294967296) (by omega) (by omega)
  have bb := Lib.half_mul_le (a := x / 4294967296) (b := y % 4294967296) (by omega) (by omega)
  have bc := Lib.half_mul_le (a := x % 4294967296) (b := y / 4294967296) (by omega) (by omega)
  have ba' : x / 4294967296 * (y / 4294967296) < 18446744073709551616 := by omega
  have bb' : x / 4294967296 * (y % 4294967296) < 18446744073709551616 := by omega
  have bc' : x % 4294967296 * (y / 4294967296) < 18446744073709551616 := by omega
  have bh1 : x / 4294967296 * (y / 4294967296) + (x / 4294967296 * (y % 4294967296) + x % 4294967296 * (y % 4294967296) / 4294967296) / 4294967296 < 18446744073709551616 := by omega
  have bh : x / 4294967296 * (y / 4294967296) + (x / 4294967296 * (y % 4294967296) + x % 4294967296 * (y % 4294967296) / 4294967296) / 4294967296 + ((x / 4294967296 * (y % 4294967296) + x % 4294967296 * (y % 4294967296) / 4294967296) % 4294967296 + x % 4294967296 * (y / 4294967296)) / 4294967296 < 18446744073709551616 := by omega
  go_enter Tryd.func85, Tryd.ntmps85
  go_wp2
  simp only [low32 x hx, low32 y hy, high32, nmul, nadd, nwrap _ bd, nwrap _ bb', nwrap _ bt, low32 _ bt, nwrap _ bc', nwrap _ bw, nwrap _ ba', nwrap _ bh1, nwrap _ bh, nwrapm (x * y)]
  rw [hhi]
  go_ret2
  exact ⟨rfl, rfl⟩
theorem add64_run (x y : Int) (hx : 0 ≤ x) (hy : 0 ≤ y) (w : World) :
    (callFunc 86 #[.int .u64 x, .int .u64 y, .int .u64 0]).run Tryd.prog w = .ok (.value (.tuple #[.int .u64 ((x + y) % 18446744073709551616), .int .u64 ((x + y) / 18446744073709551616)])) w := by
  rw [run_callFunc_extern Tryd.func86 (by kernel_rfl) (by kernel_rfl) (by kernel_rfl) (e := add64Entry) (by kernel_rfl), run_add64 x y 0 hx hy (by decide) (by decide)]
  simp only [Result.andThen, Int.add_zero]
/-- One digit times a number, and a carry. -/
structure DigStep (d x c hi lo o e c' : Nat) : Prop where
  hhi : hi = d * x / 18446744073709551616
  hlo : lo = d * x % 18446744073709551616
  ho : o = (lo + c) % 18446744073709551616
  he : e = (lo + c) / 18446744073709551616
  hc : c' = hi + e
theorem DigStep.spec {d x c hi lo o e c' : Nat} (h : DigStep d x c hi lo o e c') (hd : d < 18446744073709551616) (hx : x < 18446744073709551616) (hc : c < 18446744073709551616) :
    o + c' * 18446744073709551616 = d * x + c ∧ o < 18446744073709551616 ∧ c' < 18446744073709551616 ∧ e ≤ 1 := by
  obtain ⟨rfl, rfl, rfl, rfl, rfl⟩ := h
  have hm : d * x ≤ 18446744073709551615 * 18446744073709551615 := Nat.mul_le_mul (by omega) (by omega)
  generalize d * x = m at *
  omega
theorem dig_mk (d x c : Nat) : ∃ hi lo o e c', DigStep d x c hi lo o e c' := ⟨_, _, _, _, _, rfl, rfl, rfl, rfl, rfl⟩
def wdCs (a b c : Nat) : List Value := [.int .u64 a, .int .u64 b, .int .u64 c]
theorem info_u64b : (Tryd.prog.info? 31).map (fun i => (i.zero, i.size)) = some (some (.int .u64 0), 1) := by kernel_rfl
theorem info_wd : (Tryd.prog.info? 111).map (fun i => (i.zero, i.size)) = some (some (.agg #[.int .u64 0, .int .u64 0, .int .u64 0]), 3) := by kernel_rfl
set_option maxRecDepth 100000 in
set_option maxHeartbeats 2000000 in
theorem times_raw (d0 d1 d2 x : Nat) (h0 : d0 < 18446744073709551616) (h1 : d1 < 18446744073709551616) (h2 : d2 < 18446744073709551616) (hx : x < 18446744073709551616)
    {hi0 lo0 o0 e0 c1 hi1 lo1 o1 e1 c2 hi2 lo2 o2 e2 c3 : Nat} (s0 : DigStep d0 x 0 hi0 lo0 o0 e0 c1) (s1 : DigStep d1 x c1 hi1 lo1 o1 e1 c2) (s2 : DigStep d2 x c2 hi2 lo2 o2 e2 c3) (w : World) :
    Calls Tryd.prog 77 #[.agg #[.int .u64 d0, .int .u64 d1, .int .u64 d2], .int .u64 x] w fun e w' => e = .returned (.agg #[.int .u64 o0, .int .u64 o1, .int .u64 o2]) ∧ Below w.heap.size w w' := by
  have hz := (zero_of_info info_wd).1
  obtain ⟨p0, q0, r0, t0⟩ := s0.spec h0 hx (by decide)
  obtain ⟨p1, q1, r1, t1⟩ := s1.spec h1 hx r0
  obtain ⟨p2, q2, r2, t2⟩ := s2.spec h2 hx r1
  have M0 := Lib.hid (fun W => mul64_any d0 x h0 hx W)
  have M1 := Lib.hid (fun W => mul64_any d1 x h1 hx W)
  have M2 := Lib.hid (fun W => mul64_any d2 x h2 hx W)
  rw [← s0.hhi, ← s0.hlo] at M0
  rw [← s1.hhi, ← s1.hlo] at M1
  rw [← s2.hhi, ← s2.hlo] at M2
  have A : ∀ {lo c o e : Nat}, o = (lo + c) % 18446744073709551616 → e = (lo + c) / 18446744073709551616 → ∀ W, (callFunc 86 #[.int .u64 (lo : Int), .int .u64 (c : Int), .int .u64 0]).run Tryd.prog W = .ok (.value (.tuple #[.int .u64 (o : Int), .int .u64 (e : Int)])) W := fun {lo c o e} ho he W => by
    have a1 : ((lo : Int) + (c : Int)) % 18446744073709551616 = (o : Int) := by omega
    have a2 : ((lo : Int) + (c : Int)) / 18446744073709551616 = (e : Int) := by omega
    rw [add64_run _ _ (by omega) (by omega), a1, a2]
  have A0 := fun W => A s0.ho s0.he W
  have A1 := fun W => A s1.ho s1.he W
  have A2 := fun W => A s2.ho s2.he W
  have W0 : IntKind.u64.wrap ((hi0 : Int) + (e0 : Int)) = (c1 : Int) := by rw [IntKind.wrap_u64]; have := s0.hc; omega
  have W1 : IntKind.u64.wrap ((hi1 : Int) + (e1 : Int)) = (c2 : Int) := by rw [IntKind.wrap_u64]; have := s1.hc; omega
  have W2 : IntKind.u64.wrap ((hi2 : Int) + (e2 : Int)) = (c3 : Int) := by rw [IntKind.wrap_u64]; have := s2.hc; omega
  simp only [Int.natCast_zero] at A0
  have ix0 : ∀ W, (Instr.index 111 (.agg #[.int .u64 (d0 : Int), .int .u64 (d1 : Int), .int .u64 (d2 : Int)]) (.int .i64 0)).run Tryd.prog W = .ok (.int .u64 (d0 : Int)) W := fun W => run_index_arr (i := 0) Tryd.underlying111 (by kernel_rfl) info_u64b (by decide) rfl W
  have ix1 : ∀ W, (Instr.index 111 (.agg #[.int .u64 (d0 : Int), .int .u64 (d1 : Int), .int .u64 (d2 : Int)]) (.int .i64 1)).run Tryd.prog W = .ok (.int .u64 (d1 : Int)) W := fun W => run_index_arr (i := 1) Tryd.underlying111 (by kernel_rfl) info_u64b (by decide) rfl W
  have ix2 : ∀ W, (Instr.index 111 (.agg #[.int .u64 (d0 : Int), .int .u64 (d1 : Int), .int .u64 (d2 : Int)]) (.int .i64 2)).run Tryd.prog W = .ok (.int .u64 (d2 : Int)) W := fun W => run_index_arr (i := 2) Tryd.underlying111 (by kernel_rfl) info_u64b (by decide) rfl W
  clear A p0 p1 p2 q0 q1 q2 r0 r1 r2 t0 t1 t2 s0 s1 s2 h0 h1 h2 hx
  go_enter Tryd.func77, Tryd.ntmps77
  go_wp2
  refine wp_loop_rounds 4 ?_
  iterate 4
    rw [rounds_succ]
    go_wp2_with (first
      | (go_at_call 85; (with_reducible refine (M0.out _).mono ?_); rintro e w1 ⟨rfl, rfl⟩)
      | (go_at_call 85; (with_reducible refine (M1.out _).mono ?_); rintro e w1 ⟨rfl, rfl⟩)
      | (go_at_call 85; (with_reducible refine (M2.out _).mono ?_); rintro e w1 ⟨rfl, rfl⟩)
      | (simp only [A0]) | (simp only [A1]) | (simp only [A2]))
  exact bodyPost_ret (v := .agg #[.int .u64 o0, .int .u64 o1, .int .u64 o2]) (by simp [results, Tryd.results77, go_sem]) rfl ⟨rfl, (((Below.refl _ w).alloc (Nat.le_refl _) _).alloc (by simp) _).alloc (by simp; omega) _⟩
/-- The digits of a number. -/
def wdA (v : Nat) : Array Value := #[.int .u64 ((v % 18446744073709551616 : Nat) : Int), .int .u64 ((v / 18446744073709551616 % 18446744073709551616 : Nat) : Int), .int .u64 ((v / 340282366920938463463374607431768211456 : Nat) : Int)]
theorem times_any (v x : Nat) (hx : x < 18446744073709551616) (hv : v * x < 6277101735386680763835789423207666416102355444464034512896) (hv0 : v < 6277101735386680763835789423207666416102355444464034512896) (w : World) :
    Calls Tryd.prog 77 #[.agg (wdA v), .int .u64 x] w fun e w' => e = .returned (.agg (wdA (v * x))) ∧ Below w.heap.size w w' := by
  obtain ⟨hi0, lo0, o0, e0, c1, s0⟩ := dig_mk (v % 18446744073709551616) x 0
  obtain ⟨hi1, lo1, o1, e1, c2, s1⟩ := dig_mk (v / 18446744073709551616 % 18446744073709551616) x c1
  obtain ⟨hi2, lo2, o2, e2, c3, s2⟩ := dig_mk (v / 340282366920938463463374607431768211456) x c2
  have b0 : v % 18446744073709551616 < 18446744073709551616 := by omega
  have b1 : v / 18446744073709551616 % 18446744073709551616 < 18446744073709551616 := by omega
  have b2 : v / 340282366920938463463374607431768211456 < 18446744073709551616 := by omega
  have H := times_raw _ _ _ x b0 b1 b2 hx s0 s1 s2 w
  obtain ⟨p0, q0, r0, _⟩ := s0.spec b0 hx (by decide)
  obtain ⟨p1, q1, r1, _⟩ := s1.spec b1 hx r0
  obtain ⟨p2, q2, r2, _⟩ := s2.spec b2 hx r1
  have e : v * x = (v % 18446744073709551616) * x + 18446744073709551616 * ((v / 18446744073709551616 % 18446744073709551616) * x) + 340282366920938463463374607431768211456 * ((v / 340282366920938463463374607431768211456) * x) := by
    rw [← Nat.mul_assoc, ← Nat.mul_assoc, ← Nat.add_mul, ← Nat.add_mul]
    congr 1
    omega
  have f0 : v * x % 18446744073709551616 = o0 := by rw [e] at hv ⊢; omega
  have f1 : v * x / 18446744073709551616 % 18446744073709551616 = o1 := by rw [e] at hv ⊢; omega
  have f2 : v * x / 340282366920938463463374607431768211456 = o2 := by rw [e] at hv ⊢; omega
  unfold wdA
  rw [f0, f1, f2]
  exact H
set_option maxRecDepth 100000 in
set_option maxHeartbeats 2000000 in
theorem less_raw (a0 a1 a2 b0 b1 b2 : Nat) (R : Bool) (hR : R = (if a2 = b2 then (if a1 = b1 then decide (a0 < b0) else decide (a1 < b1)) else decide (a2 < b2))) (w : World) :
    Calls Tryd.prog 78 #[.agg #[.int .u64 a0, .int .u64 a1, .int .u64 a2], .agg #[.int .u64 b0, .int .u64 b1, .int .u64 b2]] w fun e w' => e = .returned (.bool R) ∧ Below w.heap.size w w' := by
  have hc : (¬ a2 = b2 ∧ R = decide (a2 < b2)) ∨ (a2 = b2 ∧ ¬ a1 = b1 ∧ R = decide (a1 < b1)) ∨ (a2 = b2 ∧ a1 = b1 ∧ ¬ a0 = b0 ∧ R = decide (a0 < b0)) ∨ (a2 = b2 ∧ a1 = b1 ∧ a0 = b0 ∧ R = false) := by
    by_cases h2 : a2 = b2
    · rw [if_pos h2] at hR
      by_cases h1 : a1 = b1
      · rw [if_pos h1] at hR
        by_cases h0 : a0 = b0
        · right; right; right; exact ⟨h2, h1, h0, by rw [hR, h0]; simp⟩
        · right; right; left; exact ⟨h2, h1, h0, hR⟩
      · rw [if_neg h1] at hR
        right; left; exact ⟨h2, h1, hR⟩
    · rw [if_neg h2] at hR
      left; exact ⟨h2, hR⟩
  have Hb := Lib.hid (((Below.refl w.heap.size w).alloc (Nat.le_refl _) (.cells #[.int .u64 a0, .int .u64 a1, .int .u64 a2] 111)).alloc (by simp) (.cells #[.int .u64 b0, .int .u64 b1, .int .u64 b2] 111))
  have C1 := Lib.hid ((Blk.new w 111 #[.int .u64 a0, .int .u64 a1, .int .u64 a2]).alloc (.cells #[.int .u64 b0, .int .u64 b1, .int .u64 b2] 111))
  have C2 := Lib.hid (Blk.fresh (g := w.heap.size + 1) (w.alloc (.cells #[.int .u64 a0, .int .u64 a1, .int .u64 a2] 111)) 111 #[.int .u64 b0, .int .u64 b1, .int .u64 b2])
  clear hR
  rcases hc with ⟨h2, hR⟩ | ⟨h2, h1, hR⟩ | ⟨h2, h1, h0, hR⟩ | ⟨h2, h1, h0, hR⟩
  case' inl =>
    have n2 : ((a2 : Int) != (b2 : Int)) = true := by rw [bne_iff_ne]; omega
    have HR := Lib.hid hR
  case' inr.inl =>
    have n2 : ((a2 : Int) != (b2 : Int)) = false := by rw [bne_eq_false_iff_eq]; omega
    have n1 : ((a1 : Int) != (b1 : Int)) = true := by rw [bne_iff_ne]; omega
    have HR := Lib.hid hR
  case' inr.inr.inl =>
    have n2 : ((a2 : Int) != (b2 : Int)) = false := by rw [bne_eq_false_iff_eq]; omega
    have n1 : ((a1 : Int) != (b1 : Int)) = false := by rw [bne_eq_false_iff_eq]; omega
    have n0 : ((a0 : Int) != (b0 : Int)) = true := by rw [bne_iff_ne]; omega
    have HR := Lib.hid hR
  case' inr.inr.inr =>
    have n2 : ((a2 : Int) != (b2 : Int)) = false := by rw [bne_eq_false_iff_eq]; omega
    have n1 : ((a1 : Int) != (b1 : Int)) = false := by rw [bne_eq_false_iff_eq]; omega
    have n0 : ((a0 : Int) != (b0 : Int)) = false := by rw [bne_eq_false_iff_eq]; omega
    have HR := Lib.hid hR
  case inl =>
    clear h2 hR
    go_enter Tryd.func78, Tryd.ntmps78
    go_wp2
    refine wp_loop_rounds 4 ?_
    rw [rounds_succ]
    go_wp2
    go_quiet ((fail))
    go_wp2
    go_quiet ((fail))
    go_wp2
    go_ret
    refine ⟨by rw [HR.out]; rfl, ?_⟩
    repeat (with_reducible refine below_drewN ?_ _)
    exact Hb.out
  case inr.inl =>
    clear h2 h1 hR
    go_enter Tryd.func78, Tryd.ntmps78
    go_wp2
    refine wp_loop_rounds 4 ?_
    rw [rounds_succ]
    go_wp2
    go_quiet ((fail))
    go_wp2
    rw [rounds_succ]
    go_wp2
    go_quiet ((fail))
    go_wp2
    go_quiet ((fail))
    go_wp2
    go_ret
    refine ⟨by rw [HR.out]; rfl, ?_⟩
    repeat (with_reducible refine below_drewN ?_ _)
    exact Hb.out
  case inr.inr.inl =>
    clear h2 h1 h0 hR
    go_enter Tryd.func78, Tryd.ntmps78
    go_wp2
    refine wp_loop_rounds 4 ?_
    rw [rounds_succ]
    go_wp2
    go_quiet ((fail))
    go_wp2
    rw [rounds_succ]
    go_wp2
    go_quiet ((fail))
    go_wp2
    rw [rounds_succ]
    go_wp2
    go_quiet ((fail))
    go_wp2
    go_quiet ((fail))
    go_wp2
    go_ret
    refine ⟨by rw [HR.out]; rfl, ?_⟩
    repeat (with_reducible refine below_drewN ?_ _)
    exact Hb.out
  case inr.inr.inr =>
    clear h2 h1 h0 hR
    go_enter Tryd.func78, Tryd.ntmps78
    go_wp2
    refine wp_loop_rounds 4 ?_
    rw [rounds_succ]
    go_wp2
    go_quiet ((fail))
    go_wp2
    rw [rounds_succ]
    go_wp2
    go_quiet ((fail))
    go_wp2
    rw [rounds_succ]
    go_wp2
    go_quiet ((fail))
    go_wp2
    rw [rounds_succ]
    go_wp2
    go_ret
    refine ⟨by rw [HR.out]; rfl, ?_⟩
    repeat (with_reducible refine below_drewN ?_ _)
    exact Hb.out
theorem less_any (a b : Nat) (ha : a < 6277101735386680763835789423207666416102355444464034512896) (hb : b < 6277101735386680763835789423207666416102355444464034512896) (w : World) :
    Calls Tryd.prog 78 #[.agg (wdA a), .agg (wdA b)] w fun e w' => e = .returned (.bool (decide (a < b))) ∧ Below w.heap.size w w' := by
  refine less_raw _ _ _ _ _ _ _ ?_ w
  split
  · split
    · exact decide_eq_decide.2 (by omega)
    · exact decide_eq_decide.2 (by omega)
  · exact decide_eq_decide.2 (by omega)
end Go.Proofs.YtjcklmhkdpbbdaaDoor
