/- Chapter 18, 21: the processors of a guest as it finds them: the plain law; the document's. -/
import Derived.Test.YtnhlcfkjhacedaaEqFlat
import Derived.Test.YtnhlcfkjhacedaaAppR
import Derived.Laws.BitsAllLaws
namespace Go.Proofs.Ytnhlcfkjhacedaa
set_option linter.unusedVariables false
open Go.RowKit Go.Sort

/-- A processor. -/
structure Vc where
  id : Int
  on : Bool
  pc : Int
  x0 : Int
  sp : Int
  deriving DecidableEq
def encV (v : Vc) : List Value := [.int .i64 v.id, .bool v.on, .int .u64 v.pc, .int .u64 v.x0, .int .u64 v.sp]
def zV : Vc := ⟨0, false, 0, 0, 0⟩
def bitN (x : Int) (k : Nat) : Bool := decide (x / 2 ^ k % 2 = 1)
theorem bit_and (x : Int) (h0 : 0 ≤ x) (h1 : x < 4294967296) (k : Nat) : bits .and .u32 (x / 2 ^ k) 1 = x / 2 ^ k % 2 := by
  obtain ⟨n, rfl⟩ := Int.eq_ofNat_of_zero_le h0
  have e : ((n : Int) / 2 ^ k) = ((n / 2 ^ k : Nat) : Int) := by simp
  have hle : n / 2 ^ k ≤ n := Nat.div_le_self _ _
  rw [e, show (1 : Int) = ((1 : Nat) : Int) from rfl, u32_and_nat _ _ (by omega) (by decide), Nat.and_one_is_mod]
  simp
def vsN (x e d : Int) : Nat → List Vc
  | 0 => []
  | k + 1 => if bitN x k then vsN x e d k ++ [if (vsN x e d k).length = 0 then ⟨k, true, e, d, 965⟩ else ⟨k, false, 0, 0, 965⟩] else vsN x e d k
theorem vsN_len (x e d : Int) : ∀ k, (vsN x e d k).length ≤ k
  | 0 => Nat.le_refl _
  | k + 1 => by
    have := vsN_len x e d k
    unfold vsN
    split
    · simp; omega
    · omega
theorem vsN_nil (x e d : Int) : ∀ k : Nat, (∀ j, j < k → bitN x j = false) → vsN x e d k = []
  | 0, _ => rfl
  | k + 1, h => by
    unfold vsN
    rw [if_neg (by simp [h k (by omega)])]
    exact vsN_nil x e d k fun j hj => h j (by omega)
theorem info_vcpu : (Try.prog.info? 28).map (fun i => (i.zero, i.size, i.bytes)) = some (some (.agg #[.int .i64 0, .bool false, .int .u64 0, .int .u64 0, .int .u64 0]), 5, 40) := by kernel_rfl
theorem vcpu_elem : ElemInfo Try.prog 25 28 5 40 := by
  obtain ⟨i, hi, hz, hs, hb⟩ := info_parts info_vcpu
  exact ⟨Try.underlying25, ⟨i, _, hi, hz, hs, hb, rfl⟩, by decide⟩
theorem one_v (l : List Vc) : ∀ u ∈ l.flatMap encV, u.oneCell' = true := by
  intro u hu; obtain ⟨x, _, hx⟩ := List.mem_flatMap.1 hu; simp [encV] at hx; rcases hx with rfl | rfl | rfl | rfl | rfl <;> rfl
theorem flat_vcpu : flatOf Try.prog 5 28 = some [.int .i64, .bool, .int .u64, .int .u64, .int .u64] := by kernel_rfl
theorem vcpu_neq (w : World) (x y : Vc) : (binOp .neq 28 (.agg #[.int .i64 x.id, .bool x.on, .int .u64 x.pc, .int .u64 x.x0, .int .u64 x.sp]) (.agg #[.int .i64 y.id, .bool y.on, .int .u64 y.pc, .int .u64 y.x0, .int .u64 y.sp])).run Try.prog w = .ok (.bool (!decide (x = y))) w := by
  have h := neq_flat w flat_vcpu (by kernel_rfl) (by decide) (by kernel_rfl) (xs := encV x) (ys := encV y) ⟨rfl, rfl, rfl, rfl, trivial⟩ ⟨rfl, rfl, rfl, rfl, trivial⟩
  have e : eqLeaves (encV x) (encV y) = decide (x = y) := by
    obtain ⟨a, b, c, d, e⟩ := x
    obtain ⟨a', b', c', d', e'⟩ := y
    rw [Bool.eq_iff_iff]
    simp [eqLeaves, encV]
  rw [e] at h
  exact h

theorem encV1 (l : List Vc) (v : Vc) : (l ++ [v]).flatMap encV = l.flatMap encV ++ encV v := by simp
set_option maxHeartbeats 4000000 in
theorem vcpus_any (x e d : Int) (hx0 : 0 ≤ x) (hx1 : x < 4294967296) (w : World) :
    Calls Try.prog 13 #[.int .u32 x, .int .u64 e, .int .u64 d] w fun e' w' => (∃ A c, e' = .returned (.slice A (vsN x e d 32).length c) ∧ Rd w' w'.heap.size 5 A (vsN x e d 32).length ((vsN x e d 32).flatMap encV)) ∧ Below w.heap.size w w' := by
  have HB := Lib.hid (fun k => bit_and x hx0 hx1 k)
  clear hx0 hx1
  go_enter Try.func13, Try.ntmps13
  go_wp2
  go_loopw [7, 8] (fun s7 i wr => ∃ k : Nat, k ≤ 32 ∧ i = .int .i64 k ∧ wr.ownsRow w.heap.size 28 5 s7 (vsN x e d k).length ((vsN x e d k).flatMap encV) ∧ Below w.heap.size w wr) (fun _ i _ => 32 - (intOf i).toNat)
  case atStart => exact ⟨0, by omega, rfl, World.ownsRow_nil _ _ _ _, Below.refl _ _⟩
  case round =>
    obtain ⟨k, hk, rfl, hown, hb⟩ := hrel
    obtain ⟨A, c, rfl, hc, hr⟩ := own_slice hown
    by_cases hlt : k < 32
    · have hbk := HB.out k
      have hl := vsN_len x e d k
      by_cases hbit : x / 2 ^ k % 2 = 1
      · have e0 : (bits .and .u32 (x / 2 ^ k) 1 == 0) = false := by rw [hbk, hbit]; rfl
        have HS := Lib.hid (show vsN x e d (k + 1) = vsN x e d k ++ [if (vsN x e d k).length = 0 then ⟨k, true, e, d, 965⟩ else ⟨k, false, 0, 0, 965⟩] by rw [vsN, if_pos (by simpa [bitN] using hbit)])
        have HM := Lib.hid (show (vsN x e d k).length + 1 ≤ maxLen by unfold maxLen; omega)
        have HM2 := Lib.hid (show ((vsN x e d k).length + 1) * 40 ≤ 140737488355328 by omega)
        clear hbk hbit
        generalize vsN x e d k = vs at *
        have lb := hb.size
        by_cases h0 : vs.length = 0
        · simp only [h0, if_true] at HS
          have HO := Lib.hid hown
          have h0' : ((vs.length : Int) == 0) = true := by simp [h0]
          clear hown hr
          go_wp2_with (at_builtin; refine wpList_app vcpu_elem rfl (.tmp 29) (.tmp 31) rfl w.heap.size ((HO.out.alloc _).alloc _) rfl rfl (Rd.fresh _ _ _ 1 5 _ rfl) (by intro u hu; simp at hu; rcases hu with rfl | rfl | rfl | rfl | rfl <;> rfl) HM.out HM2.out (by simp; omega) ?_; intro v2 w4 hown4 hb4 hgr)
          go_roundw
          case rel => exact ⟨k + 1, by omega, by go_num, by rw [HS.out, encV1, List.length_append]; exact hown4, (bal (bal hb _) _).trans hb4⟩
          case measure => simp [intOf]; omega
        · simp only [h0, if_false] at HS
          have HO := Lib.hid hown
          have h0' : ((vs.length : Int) == 0) = false := by simpa using h0
          clear hown hr h0
          go_wp2_with (at_builtin; refine wpList_app vcpu_elem rfl (.tmp 29) (.tmp 31) rfl w.heap.size ((HO.out.alloc _).alloc _) rfl rfl (Rd.fresh _ _ _ 1 5 _ rfl) (by intro u hu; simp at hu; rcases hu with rfl | rfl | rfl | rfl | rfl <;> rfl) HM.out HM2.out (by simp; omega) ?_; intro v2 w4 hown4 hb4 hgr)
          go_roundw
          case rel => exact ⟨k + 1, by omega, by go_num, by rw [HS.out, encV1, List.length_append]; exact hown4, (bal (bal hb _) _).trans hb4⟩
          case measure => simp [intOf]; omega
      · have e0 : (bits .and .u32 (x / 2 ^ k) 1 == 0) = true := by rw [hbk]; simp; omega
        have HS := Lib.hid (show vsN x e d (k + 1) = vsN x e d k by rw [vsN, if_neg (by simpa [bitN] using hbit)])
        clear hbk hbit
        go_wp2
        go_roundw
        case rel => exact ⟨k + 1, by omega, by go_num, by rw [HS.out]; exact hown, hb⟩
        case measure => simp [intOf]; omega
    · obtain rfl : k = 32 := by omega
      go_wp2
      go_ret
      exact ⟨⟨A, c, rfl, hr⟩, hb⟩
end Go.Proofs.Ytnhlcfkjhacedaa
