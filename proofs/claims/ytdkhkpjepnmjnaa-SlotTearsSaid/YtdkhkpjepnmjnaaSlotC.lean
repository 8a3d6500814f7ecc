/- Chapter 12, the slots: the writes by which words become a record. -/
import Derived.Test.YtdkhkpjepnmjnaaSlotB
import Derived.Test.YtdkhkpjepnmjnaaApp
namespace Go.Proofs.Ytdkhkpjepnmjnaa
set_option linter.unusedVariables false
open Go.RowKit Go.Sort

def encP (p : Int × Int) : List Value := [.int .i64 p.1, .int .u32 p.2]
theorem info_put : (Try.prog.info? 62).map (fun i => (i.zero, i.size, i.bytes)) = some (some (.agg #[.int .i64 0, .int .u32 0]), 2, 16) := by kernel_rfl
theorem put_elem : ElemInfo Try.prog 59 62 2 16 := by
  obtain ⟨i, hi, hz, hs, hb⟩ := info_parts info_put
  exact ⟨Try.underlying59, ⟨i, _, hi, hz, hs, hb, rfl⟩, by decide⟩

set_option maxHeartbeats 800000 in
theorem steps_no (id a b c d q v : Int) (h0 : 0 ≤ q) (h1 : q < 4294967296) (k0 : 0 ≤ v) (k1 : v < 4294967296) (ha : (a == 3282393660) = false) (w : World) :
    Calls Try.prog 37 #[.int .i64 id, .agg #[.int .u32 a, .int .u32 b, .int .u32 c, .int .u32 d], .agg #[.int .u32 q, .int .u32 v]] w (RetRows encP 2 [(1, q), (2, v), (3, checkN id q v), (0, 3282393660)] w) := by
  go_enter Try.func37, Try.ntmps37
  go_wp2_with (go_at_call 26; refine (words_any _ _ _ h0 h1 k0 k1 _).mono ?_; rintro e w1 ⟨rfl, hb1⟩)
  refine wp_name ?_
  intro w2 hw2
  have hb2 : RowKit.Below w.heap.size w w2 := by rw [hw2]; exact bal (below_alloc (below_alloc hb1)) _
  have hA : Blk w2 w1.heap.size 40 #[.int .u32 3282393660, .int .u32 q, .int .u32 v, .int .u32 (checkN id q v)] := by rw [hw2]; exact Blk.new _ _ _
  have hlt : w1.heap.size < w2.heap.size := hA.lt
  clear hw2 hb1
  have i0 : ∀ w, (Instr.index 101 (.agg #[.int .i64 1, .int .i64 2, .int .i64 3, .int .i64 0]) (.int .i64 0)).run Try.prog w = .ok (.int .i64 1) w := fun _ => by kernel_rfl
  have i1 : ∀ w, (Instr.index 101 (.agg #[.int .i64 1, .int .i64 2, .int .i64 3, .int .i64 0]) (.int .i64 1)).run Try.prog w = .ok (.int .i64 2) w := fun _ => by kernel_rfl
  have i2 : ∀ w, (Instr.index 101 (.agg #[.int .i64 1, .int .i64 2, .int .i64 3, .int .i64 0]) (.int .i64 2)).run Try.prog w = .ok (.int .i64 3) w := fun _ => by kernel_rfl
  have i3 : ∀ w, (Instr.index 101 (.agg #[.int .i64 1, .int .i64 2, .int .i64 3, .int .i64 0]) (.int .i64 3)).run Try.prog w = .ok (.int .i64 0) w := fun _ => by kernel_rfl
  go_loopw [7, 10, 22] (fun s _ i wr => ∃ k : Nat, k ≤ 4 ∧ i = .int .i64 k ∧ wr.ownsRow w2.heap.size 62 2 s k (([(1, q), (2, v), (3, checkN id q v), (0, 3282393660)].take k).flatMap encP) ∧ RowKit.Below w2.heap.size w2 wr) (fun _ _ i _ => 4 - (intOf i).toNat)
  case atStart => exact ⟨0, by omega, rfl, World.ownsRow_nil _ _ _ _, Below.refl _ _⟩
  case round =>
    obtain ⟨k, hk, rfl, hown, hbr⟩ := hrel
    have hc := (hA.kept hbr).cell
    have hsz := hbr.size
    by_cases hlt : k < 4
    · rcases (by omega : k = 0 ∨ k = 1 ∨ k = 2 ∨ k = 3) with rfl | rfl | rfl | rfl
      · go_wp2_with (at_builtin; refine wpList_app put_elem rfl (.tmp 25) (.tmp 31) rfl w2.heap.size (hown.alloc _) rfl rfl (Rd.fresh _ _ _ 1 2 _ rfl) (by simp [Value.oneCell']) (by simp [maxLen]) (by omega) (by simp; omega) ?_; intro v' w' hown' hb' _)
        go_roundw
        case rel => exact ⟨1, by omega, rfl, hown', (hbr.alloc hsz _).trans hb'⟩
        case measure => simp [intOf]
      · go_wp2_with (at_builtin; refine wpList_app put_elem rfl (.tmp 25) (.tmp 31) rfl w2.heap.size (hown.alloc _) rfl rfl (Rd.fresh _ _ _ 1 2 _ rfl) (by simp [Value.oneCell']) (by simp [maxLen]) (by omega) (by simp; omega) ?_; intro v' w' hown' hb' _)
        go_roundw
        case rel => exact ⟨2, by omega, rfl, hown', (hbr.alloc hsz _).trans hb'⟩
        case measure => simp [intOf]
      · go_wp2_with (at_builtin; refine wpList_app put_elem rfl (.tmp 25) (.tmp 31) rfl w2.heap.size (hown.alloc _) rfl rfl (Rd.fresh _ _ _ 1 2 _ rfl) (by simp [Value.oneCell']) (by simp [maxLen]) (by omega) (by simp; omega) ?_; intro v' w' hown' hb' _)
        go_roundw
        case rel => exact ⟨3, by omega, rfl, hown', (hbr.alloc hsz _).trans hb'⟩
        case measure => simp [intOf]
      · go_wp2_with (at_builtin; refine wpList_app put_elem rfl (.tmp 25) (.tmp 31) rfl w2.heap.size (hown.alloc _) rfl rfl (Rd.fresh _ _ _ 1 2 _ rfl) (by simp [Value.oneCell']) (by simp [maxLen]) (by omega) (by simp; omega) ?_; intro v' w' hown' hb' _)
        go_roundw
        case rel => exact ⟨4, by omega, rfl, hown', (hbr.alloc hsz _).trans hb'⟩
        case measure => simp [intOf]
    · obtain rfl : k = 4 := by omega
      go_wp2
      go_ret
      exact retRows_own hown rfl rfl (hb2.trans (hbr.mono hb2.size))

set_option maxHeartbeats 800000 in
theorem steps_yes (id a b c d q v : Int) (h0 : 0 ≤ q) (h1 : q < 4294967296) (k0 : 0 ≤ v) (k1 : v < 4294967296) (ha : a = 3282393660) (w : World) :
    Calls Try.prog 37 #[.int .i64 id, .agg #[.int .u32 a, .int .u32 b, .int .u32 c, .int .u32 d], .agg #[.int .u32 q, .int .u32 v]] w (RetRows encP 2 [(0, 0), (1, q), (2, v), (3, checkN id q v), (0, 3282393660)] w) := by
  subst ha
  go_enter Try.func37, Try.ntmps37
  go_wp2_with (first
    | (at_builtin; refine wpList_app put_elem rfl (.tmp 14) (.tmp 16) rfl (w.heap.size + 2) (World.ownsRow_nil _ _ _ _) rfl rfl (Rd.fresh _ _ _ 1 2 _ rfl) (by simp [Value.oneCell']) (by simp [maxLen]) (by omega) (by simp) ?_; intro v1 w1 hown1 hb1 _; have cB := (Blk.below (g := w.heap.size + 1) ((Blk.fresh (w.alloc _) 39 #[.int .u32 q, .int .u32 v]).alloc _) hb1 (by omega)).cell)
    | (go_at_call 26; refine (words_any _ _ _ h0 h1 k0 k1 _).mono ?_; rintro e w2 ⟨rfl, hb2⟩))
  refine wp_name ?_
  intro w3 hw3
  have hb3 : RowKit.Below w1.heap.size w1 w3 := by rw [hw3]; exact bal hb2 _
  have hA : Blk w3 w2.heap.size 40 #[.int .u32 3282393660, .int .u32 q, .int .u32 v, .int .u32 (checkN id q v)] := by rw [hw3]; exact Blk.new _ _ _
  clear hw3
  have hs1 : w.heap.size + 3 ≤ w1.heap.size := by have := hb1.size; simp at this; omega
  have hb0 : RowKit.Below w.heap.size w w3 := ((bal (bal (bal (Below.refl _ _) _) _) _).trans (hb1.mono (by omega))).trans (hb3.mono (by omega))
  have hown3 : w3.ownsRow (w.heap.size + 2) 62 2 v1 1 (([(0, 0)] : List (Int × Int)).flatMap encP) := own_kept hown1 hb3
  have hs2 := hb2.size
  clear hb1 hb2 hb3 hown1
  have i0 : ∀ w, (Instr.index 101 (.agg #[.int .i64 1, .int .i64 2, .int .i64 3, .int .i64 0]) (.int .i64 0)).run Try.prog w = .ok (.int .i64 1) w := fun _ => by kernel_rfl
  have i1 : ∀ w, (Instr.index 101 (.agg #[.int .i64 1, .int .i64 2, .int .i64 3, .int .i64 0]) (.int .i64 1)).run Try.prog w = .ok (.int .i64 2) w := fun _ => by kernel_rfl
  have i2 : ∀ w, (Instr.index 101 (.agg #[.int .i64 1, .int .i64 2, .int .i64 3, .int .i64 0]) (.int .i64 2)).run Try.prog w = .ok (.int .i64 3) w := fun _ => by kernel_rfl
  have i3 : ∀ w, (Instr.index 101 (.agg #[.int .i64 1, .int .i64 2, .int .i64 3, .int .i64 0]) (.int .i64 3)).run Try.prog w = .ok (.int .i64 0) w := fun _ => by kernel_rfl
  go_loopw [7, 10, 22] (fun s _ i wr => ∃ k : Nat, k ≤ 4 ∧ i = .int .i64 k ∧ wr.ownsRow (w.heap.size + 2) 62 2 s (k + 1) (([(0, 0), (1, q), (2, v), (3, checkN id q v), (0, 3282393660)].take (k + 1)).flatMap encP) ∧ Blk wr w2.heap.size 40 #[.int .u32 3282393660, .int .u32 q, .int .u32 v, .int .u32 (checkN id q v)] ∧ RowKit.Below w.heap.size w wr) (fun _ _ i _ => 4 - (intOf i).toNat)
  case atStart => exact ⟨0, by omega, rfl, hown3, hA, hb0⟩
  case round =>
    obtain ⟨k, hk, rfl, hown, hAr, hbr⟩ := hrel
    have hc := hAr.cell
    have hsz := hAr.lt
    by_cases hlt : k < 4
    · rcases (by omega : k = 0 ∨ k = 1 ∨ k = 2 ∨ k = 3) with rfl | rfl | rfl | rfl
      · go_wp2_with (at_builtin; refine wpList_app put_elem rfl (.tmp 25) (.tmp 31) rfl (w.heap.size + 2) (hown.alloc _) rfl rfl (Rd.fresh _ _ _ 1 2 _ rfl) (by simp [Value.oneCell']) (by simp [maxLen]) (by omega) (by simp; omega) ?_; intro v' w' hown' hb' hg')
        go_roundw
        case rel => exact ⟨1, by omega, rfl, hown', (hAr.alloc _).grown hg' (own_blk_ne hown hAr (by decide)), (bal hbr _).trans (hb'.mono (by omega))⟩
        case measure => simp [intOf]
      · go_wp2_with (at_builtin; refine wpList_app put_elem rfl (.tmp 25) (.tmp 31) rfl (w.heap.size + 2) (hown.alloc _) rfl rfl (Rd.fresh _ _ _ 1 2 _ rfl) (by simp [Value.oneCell']) (by simp [maxLen]) (by omega) (by simp; omega) ?_; intro v' w' hown' hb' hg')
        go_roundw
        case rel => exact ⟨2, by omega, rfl, hown', (hAr.alloc _).grown hg' (own_blk_ne hown hAr (by decide)), (bal hbr _).trans (hb'.mono (by omega))⟩
        case measure => simp [intOf]
      · go_wp2_with (at_builtin; refine wpList_app put_elem rfl (.tmp 25) (.tmp 31) rfl (w.heap.size + 2) (hown.alloc _) rfl rfl (Rd.fresh _ _ _ 1 2 _ rfl) (by simp [Value.oneCell']) (by simp [maxLen]) (by omega) (by simp; omega) ?_; intro v' w' hown' hb' hg')
        go_roundw
        case rel => exact ⟨3, by omega, rfl, hown', (hAr.alloc _).grown hg' (own_blk_ne hown hAr (by decide)), (bal hbr _).trans (hb'.mono (by omega))⟩
        case measure => simp [intOf]
      · go_wp2_with (at_builtin; refine wpList_app put_elem rfl (.tmp 25) (.tmp 31) rfl (w.heap.size + 2) (hown.alloc _) rfl rfl (Rd.fresh _ _ _ 1 2 _ rfl) (by simp [Value.oneCell']) (by simp [maxLen]) (by omega) (by simp; omega) ?_; intro v' w' hown' hb' hg')
        go_roundw
        case rel => exact ⟨4, by omega, rfl, hown', (hAr.alloc _).grown hg' (own_blk_ne hown hAr (by decide)), (bal hbr _).trans (hb'.mono (by omega))⟩
        case measure => simp [intOf]
    · obtain rfl : k = 4 := by omega
      go_wp2
      go_ret
      exact retRows_own hown rfl rfl hbr
end Go.Proofs.Ytdkhkpjepnmjnaa
