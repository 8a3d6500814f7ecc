/- Chapter 3: words of 32 bits, their turns: the leaves. -/
import Derived.Test.YtjcklmhkdpbbdaaDoorBaseL
import Derived.Test.YtjcklmhkdpbbdaaDoorAppR
import Derived.Laws.BitsAllLaws
namespace Go.Proofs.YtjcklmhkdpbbdaaDoor
set_option linter.unusedVariables false
set_option linter.unusedSimpArgs false
open Go.RowKit Go.Sort

/-- A word's number. -/
def iw (x : BitVec 32) : Int := (x.toNat : Int)
theorem iw_bd (x : BitVec 32) : 0 ≤ iw x ∧ iw x < 4294967296 := by
  have := x.isLt
  unfold iw
  omega
theorem iw_xor (x y : BitVec 32) : bits .xor .u32 (iw x) (iw y) = iw (x ^^^ y) := by
  unfold iw; rw [u32_xor_nat _ _ x.isLt y.isLt]; rfl
theorem iw_and (x y : BitVec 32) : bits .and .u32 (iw x) (iw y) = iw (x &&& y) := by
  unfold iw; rw [u32_and_nat _ _ x.isLt y.isLt]; rfl
theorem iw_or (x y : BitVec 32) : bits .or .u32 (iw x) (iw y) = iw (x ||| y) := by
  unfold iw; rw [u32_or_nat _ _ x.isLt y.isLt]; rfl
theorem iw_add (x y : BitVec 32) : (iw x + iw y) % 4294967296 = iw (x + y) := by
  unfold iw; rw [BitVec.toNat_add]; omega
theorem iw_wadd (x y : BitVec 32) : IntKind.u32.wrap (iw x + iw y) = iw (x + y) := by rw [IntKind.wrap_u32', iw_add]
theorem iw_inj {x y : BitVec 32} (h : iw x = iw y) : x = y := by
  unfold iw at h; exact BitVec.eq_of_toNat_eq (by omega)
/-- A number's word. -/
theorem iw_of {v : Int} (h0 : 0 ≤ v) (h1 : v < 4294967296) : ∃ x : BitVec 32, v = iw x := by
  obtain ⟨n, rfl⟩ := Int.eq_ofNat_of_zero_le h0
  exact ⟨BitVec.ofNat 32 n, by unfold iw; rw [BitVec.toNat_ofNat]; omega⟩
theorem iw_rot (x : BitVec 32) (a : Nat) (h0 : 0 < a) (h1 : a < 32) : bits .or .u32 (iw x * 2 ^ (32 - a) % 4294967296) (iw x / 2 ^ a) = iw (x.rotateRight a) := by
  have hx := x.isLt
  have e1 : iw x * 2 ^ (32 - a) % 4294967296 = ((x.toNat * 2 ^ (32 - a) % 4294967296 : Nat) : Int) := by unfold iw; rw [Int.natCast_emod, Int.natCast_mul, Int.natCast_pow]; rfl
  have e2 : iw x / 2 ^ a = ((x.toNat / 2 ^ a : Nat) : Int) := by unfold iw; rw [Int.natCast_ediv, Int.natCast_pow]; rfl
  rw [e1, e2, u32_or_nat _ _ (Nat.mod_lt _ (by decide)) (Nat.lt_of_le_of_lt (Nat.div_le_self _ _) hx)]
  unfold iw
  rw [BitVec.toNat_rotateRight, Nat.mod_eq_of_lt h1, Nat.shiftRight_eq_div_pow, Nat.shiftLeft_eq, Nat.or_comm]
theorem iw_rot2 (x : BitVec 32) (a : Nat) (h0 : 0 < a) (h1 : a < 32) : bits .or .u32 (iw x / 2 ^ a) (iw x * 2 ^ (32 - a) % 4294967296) = iw (x.rotateRight a) := by
  rw [← iw_rot x a h0 h1]
  obtain ⟨b0, b1⟩ := iw_bd x
  rw [u32_or _ _ (by omega) (by omega) (Int.ediv_nonneg b0 (by exact Int.pow_nonneg (by decide))) (Int.lt_of_le_of_lt (Int.ediv_le_self _ b0) b1), u32_or _ _ (Int.ediv_nonneg b0 (by exact Int.pow_nonneg (by decide))) (Int.lt_of_le_of_lt (Int.ediv_le_self _ b0) b1) (by omega) (by omega), Nat.or_comm]
theorem iw_shr (x : BitVec 32) (k : Nat) : iw x / 2 ^ k = iw (x >>> k) := by
  unfold iw; rw [BitVec.toNat_ushiftRight, Nat.shiftRight_eq_div_pow, Int.natCast_ediv, Int.natCast_pow]; rfl
set_option maxHeartbeats 1000000 in
theorem rotl7_any (x : BitVec 32) (w : World) : Calls Tryd.prog 83 #[.int .u32 (iw x), .int .i64 (-7)] w fun e w' => e = .returned (.int .u32 (iw (x.rotateRight 7))) ∧ w = w' := by
  obtain ⟨h0, h1⟩ := iw_bd x
  have hr := iw_rot x 7 (by decide) (by decide)
  have ha : bits BinOp.and IntKind.u64 (18446744073709551616 - 7) 31 = 32 - 7 := by decide +kernel
  have hn : IntKind.u64.wrap (-7) = 18446744073709551616 - 7 := by decide +kernel
  simp only [Int.reduceSub, Int.reducePow, Nat.reduceSub] at ha hr hn
  generalize hy : iw (x.rotateRight 7) = y at *
  generalize iw x = v at *
  go_enter Tryd.func83, Tryd.ntmps83
  go_wp2
  go_ret
  exact ⟨rfl, rfl⟩
set_option maxHeartbeats 1000000 in
theorem turn7_any (x : BitVec 32) (w : World) : Calls Tryd.prog 58 #[.int .u32 (iw x), .int .i64 7] w fun e w' => e = .returned (.int .u32 (iw (x.rotateRight 7))) ∧ Below w.heap.size w w' := by
  obtain ⟨h0, h1⟩ := iw_bd x
  have hr := iw_rot2 x 7 (by decide) (by decide)
  simp only [Int.reduceSub, Int.reducePow, Nat.reduceSub] at hr
  generalize hy : iw (x.rotateRight 7) = y at *
  generalize iw x = v at *
  go_enter Tryd.func58, Tryd.ntmps58
  go_wp2
  go_region
  go_wp2
  go_ret
  exact ⟨rfl, (Below.refl _ _).drew⟩
set_option maxHeartbeats 1000000 in
theorem rotl18_any (x : BitVec 32) (w : World) : Calls Tryd.prog 83 #[.int .u32 (iw x), .int .i64 (-18)] w fun e w' => e = .returned (.int .u32 (iw (x.rotateRight 18))) ∧ w = w' := by
  obtain ⟨h0, h1⟩ := iw_bd x
  have hr := iw_rot x 18 (by decide) (by decide)
  have ha : bits BinOp.and IntKind.u64 (18446744073709551616 - 18) 31 = 32 - 18 := by decide +kernel
  have hn : IntKind.u64.wrap (-18) = 18446744073709551616 - 18 := by decide +kernel
  simp only [Int.reduceSub, Int.reducePow, Nat.reduceSub] at ha hr hn
  generalize hy : iw (x.rotateRight 18) = y at *
  generalize iw x = v at *
  go_enter Tryd.func83, Tryd.ntmps83
  go_wp2
  go_ret
  exact ⟨rfl, rfl⟩
set_option maxHeartbeats 1000000 in
theorem turn18_any (x : BitVec 32) (w : World) : Calls Tryd.prog 58 #[.int .u32 (iw x), .int .i64 18] w fun e w' => e = .returned (.int .u32 (iw (x.rotateRight 18))) ∧ Below w.heap.size w w' := by
  obtain ⟨h0, h1⟩ := iw_bd x
  have hr := iw_rot2 x 18 (by decide) (by decide)
  simp only [Int.reduceSub, Int.reducePow, Nat.reduceSub] at hr
  generalize hy : iw (x.rotateRight 18) = y at *
  generalize iw x = v at *
  go_enter Tryd.func58, Tryd.ntmps58
  go_wp2
  go_region
  go_wp2
  go_ret
  exact ⟨rfl, (Below.refl _ _).drew⟩
set_option maxHeartbeats 1000000 in
theorem rotl17_any (x : BitVec 32) (w : World) : Calls Tryd.prog 83 #[.int .u32 (iw x), .int .i64 (-17)] w fun e w' => e = .returned (.int .u32 (iw (x.rotateRight 17))) ∧ w = w' := by
  obtain ⟨h0, h1⟩ := iw_bd x
  have hr := iw_rot x 17 (by decide) (by decide)
  have ha : bits BinOp.and IntKind.u64 (18446744073709551616 - 17) 31 = 32 - 17 := by decide +kernel
  have hn : IntKind.u64.wrap (-17) = 18446744073709551616 - 17 := by decide +kernel
  simp only [Int.reduceSub, Int.reducePow, Nat.reduceSub] at ha hr hn
  generalize hy : iw (x.rotateRight 17) = y at *
  generalize iw x = v at *
  go_enter Tryd.func83, Tryd.ntmps83
  go_wp2
  go_ret
  exact ⟨rfl, rfl⟩
set_option maxHeartbeats 1000000 in
theorem turn17_any (x : BitVec 32) (w : World) : Calls Tryd.prog 58 #[.int .u32 (iw x), .int .i64 17] w fun e w' => e = .returned (.int .u32 (iw (x.rotateRight 17))) ∧ Below w.heap.size w w' := by
  obtain ⟨h0, h1⟩ := iw_bd x
  have hr := iw_rot2 x 17 (by decide) (by decide)
  simp only [Int.reduceSub, Int.reducePow, Nat.reduceSub] at hr
  generalize hy : iw (x.rotateRight 17) = y at *
  generalize iw x = v at *
  go_enter Tryd.func58, Tryd.ntmps58
  go_wp2
  go_region
  go_wp2
  go_ret
  exact ⟨rfl, (Below.refl _ _).drew⟩
set_option maxHeartbeats 1000000 in
theorem rotl19_any (x : BitVec 32) (w : World) : Calls Tryd.prog 83 #[.int .u32 (iw x), .int .i64 (-19)] w fun e w' => e = .returned (.int .u32 (iw (x.rotateRight 19))) ∧ w = w' := by
  obtain ⟨h0, h1⟩ := iw_bd x
  have hr := iw_rot x 19 (by decide) (by decide)
  have ha : bits BinOp.and IntKind.u64 (18446744073709551616 - 19) 31 = 32 - 19 := by decide +kernel
  have hn : IntKind.u64.wrap (-19) = 18446744073709551616 - 19 := by decide +kernel
  simp only [Int.reduceSub, Int.reducePow, Nat.reduceSub] at ha hr hn
  generalize hy : iw (x.rotateRight 19) = y at *
  generalize iw x = v at *
  go_enter Tryd.func83, Tryd.ntmps83
  go_wp2
  go_ret
  exact ⟨rfl, rfl⟩
set_option maxHeartbeats 1000000 in
theorem turn19_any (x : BitVec 32) (w : World) : Calls Tryd.prog 58 #[.int .u32 (iw x), .int .i64 19] w fun e w' => e = .returned (.int .u32 (iw (x.rotateRight 19))) ∧ Below w.heap.size w w' := by
  obtain ⟨h0, h1⟩ := iw_bd x
  have hr := iw_rot2 x 19 (by decide) (by decide)
  simp only [Int.reduceSub, Int.reducePow, Nat.reduceSub] at hr
  generalize hy : iw (x.rotateRight 19) = y at *
  generalize iw x = v at *
  go_enter Tryd.func58, Tryd.ntmps58
  go_wp2
  go_region
  go_wp2
  go_ret
  exact ⟨rfl, (Below.refl _ _).drew⟩
set_option maxHeartbeats 1000000 in
theorem rotl6_any (x : BitVec 32) (w : World) : Calls Tryd.prog 83 #[.int .u32 (iw x), .int .i64 (-6)] w fun e w' => e = .returned (.int .u32 (iw (x.rotateRight 6))) ∧ w = w' := by
  obtain ⟨h0, h1⟩ := iw_bd x
  have hr := iw_rot x 6 (by decide) (by decide)
  have ha : bits BinOp.and IntKind.u64 (18446744073709551616 - 6) 31 = 32 - 6 := by decide +kernel
  have hn : IntKind.u64.wrap (-6) = 18446744073709551616 - 6 := by decide +kernel
  simp only [Int.reduceSub, Int.reducePow, Nat.reduceSub] at ha hr hn
  generalize hy : iw (x.rotateRight 6) = y at *
  generalize iw x = v at *
  go_enter Tryd.func83, Tryd.ntmps83
  go_wp2
  go_ret
  exact ⟨rfl, rfl⟩
set_option maxHeartbeats 1000000 in
theorem turn6_any (x : BitVec 32) (w : World) : Calls Tryd.prog 58 #[.int .u32 (iw x), .int .i64 6] w fun e w' => e = .returned (.int .u32 (iw (x.rotateRight 6))) ∧ Below w.heap.size w w' := by
  obtain ⟨h0, h1⟩ := iw_bd x
  have hr := iw_rot2 x 6 (by decide) (by decide)
  simp only [Int.reduceSub, Int.reducePow, Nat.reduceSub] at hr
  generalize hy : iw (x.rotateRight 6) = y at *
  generalize iw x = v at *
  go_enter Tryd.func58, Tryd.ntmps58
  go_wp2
  go_region
  go_wp2
  go_ret
  exact ⟨rfl, (Below.refl _ _).drew⟩
set_option maxHeartbeats 1000000 in
theorem rotl11_any (x : BitVec 32) (w : World) : Calls Tryd.prog 83 #[.int .u32 (iw x), .int .i64 (-11)] w fun e w' => e = .returned (.int .u32 (iw (x.rotateRight 11))) ∧ w = w' := by
  obtain ⟨h0, h1⟩ := iw_bd x
  have hr := iw_rot x 11 (by decide) (by decide)
  have ha : bits BinOp.and IntKind.u64 (18446744073709551616 - 11) 31 = 32 - 11 := by decide +kernel
  have hn : IntKind.u64.wrap (-11) = 18446744073709551616 - 11 := by decide +kernel
  simp only [Int.reduceSub, Int.reducePow, Nat.reduceSub] at ha hr hn
  generalize hy : iw (x.rotateRight 11) = y at *
  generalize iw x = v at *
  go_enter Tryd.func83, Tryd.ntmps83
  go_wp2
  go_ret
  exact ⟨rfl, rfl⟩
set_option maxHeartbeats 1000000 in
theorem turn11_any (x : BitVec 32) (w : World) : Calls Tryd.prog 58 #[.int .u32 (iw x), .int .i64 11] w fun e w' => e = .returned (.int .u32 (iw (x.rotateRight 11))) ∧ Below w.heap.size w w' := by
  obtain ⟨h0, h1⟩ := iw_bd x
  have hr := iw_rot2 x 11 (by decide) (by decide)
  simp only [Int.reduceSub, Int.reducePow, Nat.reduceSub] at hr
  generalize hy : iw (x.rotateRight 11) = y at *
  generalize iw x = v at *
  go_enter Tryd.func58, Tryd.ntmps58
  go_wp2
  go_region
  go_wp2
  go_ret
  exact ⟨rfl, (Below.refl _ _).drew⟩
set_option maxHeartbeats 1000000 in
theorem rotl25_any (x : BitVec 32) (w : World) : Calls Tryd.prog 83 #[.int .u32 (iw x), .int .i64 (-25)] w fun e w' => e = .returned (.int .u32 (iw (x.rotateRight 25))) ∧ w = w' := by
  obtain ⟨h0, h1⟩ := iw_bd x
  have hr := iw_rot x 25 (by decide) (by decide)
  have ha : bits BinOp.and IntKind.u64 (18446744073709551616 - 25) 31 = 32 - 25 := by decide +kernel
  have hn : IntKind.u64.wrap (-25) = 18446744073709551616 - 25 := by decide +kernel
  simp only [Int.reduceSub, Int.reducePow, Nat.reduceSub] at ha hr hn
  generalize hy : iw (x.rotateRight 25) = y at *
  generalize iw x = v at *
  go_enter Tryd.func83, Tryd.ntmps83
  go_wp2
  go_ret
  exact ⟨rfl, rfl⟩
set_option maxHeartbeats 1000000 in
theorem turn25_any (x : BitVec 32) (w : World) : Calls Tryd.prog 58 #[.int .u32 (iw x), .int .i64 25] w fun e w' => e = .returned (.int .u32 (iw (x.rotateRight 25))) ∧ Below w.heap.size w w' := by
  obtain ⟨h0, h1⟩ := iw_bd x
  have hr := iw_rot2 x 25 (by decide) (by decide)
  simp only [Int.reduceSub, Int.reducePow, Nat.reduceSub] at hr
  generalize hy : iw (x.rotateRight 25) = y at *
  generalize iw x = v at *
  go_enter Tryd.func58, Tryd.ntmps58
  go_wp2
  go_region
  go_wp2
  go_ret
  exact ⟨rfl, (Below.refl _ _).drew⟩
set_option maxHeartbeats 1000000 in
theorem rotl2_any (x : BitVec 32) (w : World) : Calls Tryd.prog 83 #[.int .u32 (iw x), .int .i64 (-2)] w fun e w' => e = .returned (.int .u32 (iw (x.rotateRight 2))) ∧ w = w' := by
  obtain ⟨h0, h1⟩ := iw_bd x
  have hr := iw_rot x 2 (by decide) (by decide)
  have ha : bits BinOp.and IntKind.u64 (18446744073709551616 - 2) 31 = 32 - 2 := by decide +kernel
  have hn : IntKind.u64.wrap (-2) = 18446744073709551616 - 2 := by decide +kernel
  simp only [Int.reduceSub, Int.reducePow, Nat.reduceSub] at ha hr hn
  generalize hy : iw (x.rotateRight 2) = y at *
  generalize iw x = v at *
  go_enter Tryd.func83, Tryd.ntmps83
  go_wp2
  go_ret
  exact ⟨rfl, rfl⟩
set_option maxHeartbeats 1000000 in
theorem turn2_any (x : BitVec 32) (w : World) : Calls Tryd.prog 58 #[.int .u32 (iw x), .int .i64 2] w fun e w' => e = .returned (.int .u32 (iw (x.rotateRight 2))) ∧ Below w.heap.size w w' := by
  obtain ⟨h0, h1⟩ := iw_bd x
  have hr := iw_rot2 x 2 (by decide) (by decide)
  simp only [Int.reduceSub, Int.reducePow, Nat.reduceSub] at hr
  generalize hy : iw (x.rotateRight 2) = y at *
  generalize iw x = v at *
  go_enter Tryd.func58, Tryd.ntmps58
  go_wp2
  go_region
  go_wp2
  go_ret
  exact ⟨rfl, (Below.refl _ _).drew⟩
set_option maxHeartbeats 1000000 in
theorem rotl13_any (x : BitVec 32) (w : World) : Calls Tryd.prog 83 #[.int .u32 (iw x), .int .i64 (-13)] w fun e w' => e = .returned (.int .u32 (iw (x.rotateRight 13))) ∧ w = w' := by
  obtain ⟨h0, h1⟩ := iw_bd x
  have hr := iw_rot x 13 (by decide) (by decide)
  have ha : bits BinOp.and IntKind.u64 (18446744073709551616 - 13) 31 = 32 - 13 := by decide +kernel
  have hn : IntKind.u64.wrap (-13) = 18446744073709551616 - 13 := by decide +kernel
  simp only [Int.reduceSub, Int.reducePow, Nat.reduceSub] at ha hr hn
  generalize hy : iw (x.rotateRight 13) = y at *
  generalize iw x = v at *
  go_enter Tryd.func83, Tryd.ntmps83
  go_wp2
  go_ret
  exact ⟨rfl, rfl⟩
set_option maxHeartbeats 1000000 in
theorem turn13_any (x : BitVec 32) (w : World) : Calls Tryd.prog 58 #[.int .u32 (iw x), .int .i64 13] w fun e w' => e = .returned (.int .u32 (iw (x.rotateRight 13))) ∧ Below w.heap.size w w' := by
  obtain ⟨h0, h1⟩ := iw_bd x
  have hr := iw_rot2 x 13 (by decide) (by decide)
  simp only [Int.reduceSub, Int.reducePow, Nat.reduceSub] at hr
  generalize hy : iw (x.rotateRight 13) = y at *
  generalize iw x = v at *
  go_enter Tryd.func58, Tryd.ntmps58
  go_wp2
  go_region
  go_wp2
  go_ret
  exact ⟨rfl, (Below.refl _ _).drew⟩
set_option maxHeartbeats 1000000 in
theorem rotl22_any (x : BitVec 32) (w : World) : Calls Tryd.prog 83 #[.int .u32 (iw x), .int .i64 (-22)] w fun e w' => e = .returned (.int .u32 (iw (x.rotateRight 22))) ∧ w = w' := by
  obtain ⟨h0, h1⟩ := iw_bd x
  have hr := iw_rot x 22 (by decide) (by decide)
  have ha : bits BinOp.and IntKind.u64 (18446744073709551616 - 22) 31 = 32 - 22 := by decide +kernel
  have hn : IntKind.u64.wrap (-22) = 18446744073709551616 - 22 := by decide +kernel
  simp only [Int.reduceSub, Int.reducePow, Nat.reduceSub] at ha hr hn
  generalize hy : iw (x.rotateRight 22) = y at *
  generalize iw x = v at *
  go_enter Tryd.func83, Tryd.ntmps83
  go_wp2
  go_ret
  exact ⟨rfl, rfl⟩
set_option maxHeartbeats 1000000 in
theorem turn22_any (x : BitVec 32) (w : World) : Calls Tryd.prog 58 #[.int .u32 (iw x), .int .i64 22] w fun e w' => e = .returned (.int .u32 (iw (x.rotateRight 22))) ∧ Below w.heap.size w w' := by
  obtain ⟨h0, h1⟩ := iw_bd x
  have hr := iw_rot2 x 22 (by decide) (by decide)
  simp only [Int.reduceSub, Int.reducePow, Nat.reduceSub] at hr
  generalize hy : iw (x.rotateRight 22) = y at *
  generalize iw x = v at *
  go_enter Tryd.func58, Tryd.ntmps58
  go_wp2
  go_region
  go_wp2
  go_ret
  exact ⟨rfl, (Below.refl _ _).drew⟩
/-- The mixes of a word. -/
def sg (a b s : Nat) (x : BitVec 32) : BitVec 32 := x.rotateRight a ^^^ x.rotateRight b ^^^ x >>> s
def sG (a b c : Nat) (x : BitVec 32) : BitVec 32 := x.rotateRight a ^^^ x.rotateRight b ^^^ x.rotateRight c
set_option maxHeartbeats 1000000 in
theorem mixed7_any (x : BitVec 32) (w : World) : Calls Tryd.prog 74 #[.int .u32 (iw x), .int .i64 7, .int .i64 18, .int .i64 3] w fun e w' => e = .returned (.int .u32 (iw (sg 7 18 3 x))) ∧ Below w.heap.size w w' := by
  obtain ⟨h0, h1⟩ := iw_bd x
  have H1 := Lib.hid (fun W => rotl7_any x W)
  have H2 := Lib.hid (fun W => rotl18_any x W)
  have hs := iw_shr x 3
  have hx1 := iw_xor (x.rotateRight 7) (x.rotateRight 18)
  have hx2 := iw_xor (x.rotateRight 7 ^^^ x.rotateRight 18) (x >>> 3)
  simp only [Int.reducePow] at hs
  have hw1 : IntKind.i64.wrap (-7) = -7 := by decide +kernel
  have hw2 : IntKind.i64.wrap (-18) = -18 := by decide +kernel
  go_enter Tryd.func74, Tryd.ntmps74
  go_wp2
  refine wp_region_quiet_below (by kernel_rfl) (by kernel_rfl) ?_
  repeat (quiet_step ((first
    | (go_at_call 83; with_reducible exact regrown_same (H1.out _))
    | (go_at_call 83; with_reducible exact regrown_same (H2.out _)))))
  refine wpQuiet_nil ?_
  rintro w3 ⟨p, rfl⟩
  have hb := below_regrown w p.d p.os
  go_wp2
  go_ret
  exact ⟨rfl, hb⟩
set_option maxHeartbeats 1000000 in
theorem mixed17_any (x : BitVec 32) (w : World) : Calls Tryd.prog 74 #[.int .u32 (iw x), .int .i64 17, .int .i64 19, .int .i64 10] w fun e w' => e = .returned (.int .u32 (iw (sg 17 19 10 x))) ∧ Below w.heap.size w w' := by
  obtain ⟨h0, h1⟩ := iw_bd x
  have H1 := Lib.hid (fun W => rotl17_any x W)
  have H2 := Lib.hid (fun W => rotl19_any x W)
  have hs := iw_shr x 10
  have hx1 := iw_xor (x.rotateRight 17) (x.rotateRight 19)
  have hx2 := iw_xor (x.rotateRight 17 ^^^ x.rotateRight 19) (x >>> 10)
  simp only [Int.reducePow] at hs
  have hw1 : IntKind.i64.wrap (-17) = -17 := by decide +kernel
  have hw2 : IntKind.i64.wrap (-19) = -19 := by decide +kernel
  go_enter Tryd.func74, Tryd.ntmps74
  go_wp2
  refine wp_region_quiet_below (by kernel_rfl) (by kernel_rfl) ?_
  repeat (quiet_step ((first
    | (go_at_call 83; with_reducible exact regrown_same (H1.out _))
    | (go_at_call 83; with_reducible exact regrown_same (H2.out _)))))
  refine wpQuiet_nil ?_
  rintro w3 ⟨p, rfl⟩
  have hb := below_regrown w p.d p.os
  go_wp2
  go_ret
  exact ⟨rfl, hb⟩
set_option maxHeartbeats 1000000 in
theorem turned6_any (x : BitVec 32) (w : World) : Calls Tryd.prog 75 #[.int .u32 (iw x), .int .i64 6, .int .i64 11, .int .i64 25] w fun e w' => e = .returned (.int .u32 (iw (sG 6 11 25 x))) ∧ w = w' := by
  obtain ⟨h0, h1⟩ := iw_bd x
  have H1 := Lib.hid (fun W => rotl6_any x W)
  have H2 := Lib.hid (fun W => rotl11_any x W)
  have H3 := Lib.hid (fun W => rotl25_any x W)
  have hx1 := iw_xor (x.rotateRight 6) (x.rotateRight 11)
  have hx2 := iw_xor (x.rotateRight 6 ^^^ x.rotateRight 11) (x.rotateRight 25)
  go_enter Tryd.func75, Tryd.ntmps75
  go_wp2_with (first
    | (go_at_call 83; with_reducible refine (H1.out _).mono ?_; rintro e w1 ⟨rfl, rfl⟩)
    | (go_at_call 83; with_reducible refine (H2.out _).mono ?_; rintro e w1 ⟨rfl, rfl⟩)
    | (go_at_call 83; with_reducible refine (H3.out _).mono ?_; rintro e w1 ⟨rfl, rfl⟩))
  go_ret
  exact ⟨rfl, rfl⟩
set_option maxHeartbeats 1000000 in
theorem turned2_any (x : BitVec 32) (w : World) : Calls Tryd.prog 75 #[.int .u32 (iw x), .int .i64 2, .int .i64 13, .int .i64 22] w fun e w' => e = .returned (.int .u32 (iw (sG 2 13 22 x))) ∧ w = w' := by
  obtain ⟨h0, h1⟩ := iw_bd x
  have H1 := Lib.hid (fun W => rotl2_any x W)
  have H2 := Lib.hid (fun W => rotl13_any x W)
  have H3 := Lib.hid (fun W => rotl22_any x W)
  have hx1 := iw_xor (x.rotateRight 2) (x.rotateRight 13)
  have hx2 := iw_xor (x.rotateRight 2 ^^^ x.rotateRight 13) (x.rotateRight 22)
  go_enter Tryd.func75, Tryd.ntmps75
  go_wp2_with (first
    | (go_at_call 83; with_reducible refine (H1.out _).mono ?_; rintro e w1 ⟨rfl, rfl⟩)
    | (go_at_call 83; with_reducible refine (H2.out _).mono ?_; rintro e w1 ⟨rfl, rfl⟩)
    | (go_at_call 83; with_reducible refine (H3.out _).mono ?_; rintro e w1 ⟨rfl, rfl⟩))
  go_ret
  exact ⟨rfl, rfl⟩
end Go.Proofs.YtjcklmhkdpbbdaaDoor
