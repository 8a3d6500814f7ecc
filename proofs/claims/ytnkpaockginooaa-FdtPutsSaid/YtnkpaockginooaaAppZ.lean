/- append of made bytes onto a row of the call's own. -/
import Derived.Test.YtnkpaockginooaaBytes
import Derived.Lib.AppendZeros
import Derived.Lib.AppendZerosOnto
namespace Go.Proofs.Ytnkpaockginooaa
set_option linter.unusedVariables false
set_option linter.unusedSimpArgs false
open Go.RowKit

theorem zeroCells_b (n : Nat) : (Builtin.zeroCells #[Value.int .u8 0] n).toList = List.replicate n (.int .u8 0) := by
  induction n with
  | zero => simp [Builtin.zeroCells]
  | succ n ih =>
    rw [List.replicate_succ', ← ih]
    simp [Builtin.zeroCells, List.range_succ, Nat.mod_one]
theorem flatB_zeros (k : Nat) : (List.replicate k (0 : Int)).flatMap encB = List.replicate k (.int .u8 0) := by
  induction k with
  | zero => rfl
  | succ k ih => rw [List.replicate_succ, List.flatMap_cons, ih]; rfl
theorem run_app_zeros (w : World) (base : Nat) (ty : TypeId) (v : Value) (n k : Nat) (xs : List Int) (hxs : xs.length = n) (hown : w.ownsRow base 5 1 v n (xs.flatMap encB)) (hk : n + k ≤ 100000000) (hbase : base ≤ w.heap.size) :
    ∃ v' w', (Builtin.append_ #[28, 3] ty #[v, .int .i64 (k : Int)]).run Try.prog w = .ok v' w' ∧ w'.ownsRow base 5 1 v' (n + k) ((xs ++ List.replicate k 0).flatMap encB) ∧ Below base w w' ∧ w.grownBy w' v.ownBlock := by
  obtain ⟨i, hi, hz, hs, hb⟩ := info_parts info_u8
  have ht := Try.underlying28
  have htn := Try.underlying3
  have hw : IntKind.i64.wrap (k : Int) = k := by rw [IntKind.wrap_i64]; omega
  have hneg : ¬ ((k : Int) < 0) := by omega
  have hlen : ((xs ++ List.replicate k 0).flatMap encB).length = n + k := by rw [flatB_len]; simp [hxs]
  have hsum : (xs ++ List.replicate k 0).flatMap encB = xs.flatMap encB ++ List.replicate k (.int .u8 0) := by rw [List.flatMap_append, flatB_zeros]
  have hbel : ∀ w', w.grownBy w' v.ownBlock → Below base w w' := fun w' hg => (Below.refl base w).grown hg hbase (fun j hj => (hown.lt j hj).1)
  rcases Nat.eq_zero_or_pos k with h0 | h0
  · subst h0
    have hx0 : xs ++ List.replicate 0 0 = xs := by simp
    rw [hx0, Nat.add_zero]
    refine ⟨v, w, ?_, hown, Below.refl _ _, World.grownBy.refl w _⟩
    rcases hown.2 with ⟨rfl, rfl⟩ | ⟨g, cap, cur, rfl, hbg, hg, hnc, hcm, hcs, htake⟩
    · simp [Builtin.append_, run_underlying ht, run_underlying htn, sizeOf, typeInfo, hi, asInt, asIntOf, hs, show IntKind.i64.wrap 0 = 0 from rfl]
    · simp [Builtin.append_, run_underlying ht, run_underlying htn, sizeOf, typeInfo, hi, asInt, asIntOf, hs, hnc, storeCells, show IntKind.i64.wrap 0 = 0 from rfl]
  · have grown : ∀ (old : Nat), old < n + k → ∀ (row : Option Nat),
        (w.drew.alloc (.cells ((xs.flatMap encB).toArray ++ Builtin.zeroCells (Value.int .u8 0).cells k ++ Builtin.zeroCells (Value.int .u8 0).cells (grownCap w (n + k) old 5 - (n + k))) 5)).ownsRow base 5 1
          (.slice (some ⟨w.heap.size, 0, none⟩) (n + k) (grownCap w (n + k) old 5)) (n + k) ((xs ++ List.replicate k 0).flatMap encB) ∧
        w.grownBy (w.drew.alloc (.cells ((xs.flatMap encB).toArray ++ Builtin.zeroCells (Value.int .u8 0).cells k ++ Builtin.zeroCells (Value.int .u8 0).cells (grownCap w (n + k) old 5 - (n + k))) 5)) row := by
      intro old ho row
      have hge := grownCap_ge w (n + k) old 5
      have hcm : grownCap w (n + k) old 5 ≤ maxLen := grownCap_le_maxLen w (n + k) old 5 (by unfold maxLen; omega)
      refine ⟨⟨by omega, .inr ⟨w.heap.size, _, _, rfl, hbase, heap_alloc_new w.drew _, hge, hcm, ?_, ?_⟩⟩, ⟨rfl, rfl, rfl, by simp, fun j hj _ => heap_alloc_old w.drew _ hj⟩⟩
      · have : (xs.flatMap encB).length = n := by rw [flatB_len, hxs]
        have z1 : (Value.int .u8 0).cells.size = 1 := rfl
        simp only [Array.size_append, List.size_toArray, size_zeroCells, z1, this]
        omega
      · have z2 : (Value.int .u8 0).cells = #[.int .u8 0] := rfl
        rw [hsum] at hlen ⊢
        simp only [Array.toList_append, z2, zeroCells_b, List.append_assoc]
        rw [← List.append_assoc, Nat.mul_one, ← hlen]
        exact List.take_left
    rcases hown.2 with ⟨rfl, rfl⟩ | ⟨g, cap, cur, rfl, hbg, hg, hnc, hcm, hcs, htake⟩
    · obtain rfl := List.eq_nil_of_length_eq_zero hxs
      have hr := Lib.run_append_nil_zeros (P := Try.prog) w 28 3 ty 5 i _ .i64 .i64 ht htn hi hz k h0 (by rw [hs]; decide) (by omega) (by rw [hb]; omega)
      have hgr := grown 0 (by omega) (Value.ownBlock (.slice none 0 0))
      simp only [Nat.zero_add, List.flatMap_nil, Array.empty_append] at hgr ⊢
      exact ⟨_, _, hr, hgr.1, hbel _ hgr.2, hgr.2⟩
    · by_cases hroom : n + k ≤ cap
      · have hst := run_storeCells_at Try.prog g n 5 (List.replicate k (.int .u8 0)) 0 cur w hg (by simp at hcs ⊢; omega) (fun u hu => by rw [List.eq_of_mem_replicate hu]; rfl)
        simp only [Nat.add_zero] at hst
        have hkn : ¬ (k = 0) := by omega
        have h48 : ¬ (281474976710656 < (k : Int)) := by omega
        have z2 : (Value.int .u8 0).cells = #[.int .u8 0] := rfl
        have hr : (Builtin.append_ #[28, 3] ty #[.slice (some ⟨g, 0, none⟩) n cap, .int .i64 (k : Int)]).run Try.prog w = .ok (.slice (some ⟨g, 0, none⟩) (n + k) cap) (w.setRow g (cur.toList.take n ++ List.replicate k (Value.int .u8 0) ++ cur.toList.drop (n + (List.replicate k (Value.int .u8 0)).length)).toArray) := by
          simp [Builtin.append_, run_underlying ht, run_underlying htn, sizeOf, typeInfo, hi, asInt, asIntOf, hs, hw, hneg, hroom, zeroValue, hz, z2, zeroCells_b, Addr.add_lit, hst, hkn, hb, h48]
        refine ⟨_, _, hr, ⟨by omega, .inr ⟨g, cap, _, rfl, hbg, setRow_heap w g cur _ 5 _ hg, hroom, hcm, ?_, ?_⟩⟩, hbel _ ?_, ?_⟩
        · simp only [List.size_toArray, List.length_append, List.length_take, List.length_drop, Array.length_toList, List.length_replicate]
          omega
        · rw [hsum] at hlen ⊢
          have ht2 : cur.toList.take n = xs.flatMap encB := by simpa using htake
          rw [ht2]
          simp only [Nat.mul_one]
          rw [← hlen]
          exact List.take_left
        all_goals exact ⟨rfl, rfl, rfl, by simp, fun j _ hj => setRow_other w g j _ (fun e => hj (by simp [Value.ownBlock, e]))⟩
      · have holds : ∀ j u, (xs.flatMap encB)[j]? = some u → w.drew.cell? ((⟨g, 0, none⟩ : Addr).add j) = some u := (own_kept hown (Below.refl _ _).drew).cells (g := g) rfl
        have hf := run_firstCells_some (P := Try.prog) w.drew i.size n ⟨g, 0, none⟩ n cap (xs.flatMap encB) (by rw [hs, flatB_len, hxs]; omega) holds
        have hr := Lib.run_append_grow_zeros (P := Try.prog) w 28 3 ty 5 i _ .i64 .i64 ht htn hi hz (some ⟨g, 0, none⟩) n cap _ hf k h0 (by rw [hs]; decide) (by omega) (by omega) (by rw [hb]; omega) (by rw [hb]; exact growslice_fits (by omega) (by omega))
        have hgr := grown cap (by omega) (Value.ownBlock (.slice (some ⟨g, 0, none⟩) n cap))
        exact ⟨_, _, hr, hgr.1, hbel _ hgr.2, hgr.2⟩
end Go.Proofs.Ytnkpaockginooaa
