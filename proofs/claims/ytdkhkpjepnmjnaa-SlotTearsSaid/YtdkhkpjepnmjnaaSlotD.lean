/- Chapter 12, the slots: writes that are done to words. -/
import Derived.Test.YtdkhkpjepnmjnaaSlotC
namespace Go.Proofs.Ytdkhkpjepnmjnaa
set_option linter.unusedVariables false
open Go.RowKit Go.Sort

/-- Four words. -/
structure W4 where
  a : Int
  b : Int
  c : Int
  d : Int
def W4.arr (x : W4) : Array Value := #[.int .u32 x.a, .int .u32 x.b, .int .u32 x.c, .int .u32 x.d]
/-- One of four words is another. -/
def put4 (x : W4) (p : Int × Int) : W4 :=
  if p.1 = 0 then { x with a := p.2 } else if p.1 = 1 then { x with b := p.2 } else if p.1 = 2 then { x with c := p.2 } else if p.1 = 3 then { x with d := p.2 } else x
theorem put4_0 (x : W4) (v : Int) : put4 x (0, v) = { x with a := v } := rfl
theorem put4_1 (x : W4) (v : Int) : put4 x (1, v) = { x with b := v } := rfl
theorem put4_2 (x : W4) (v : Int) : put4 x (2, v) = { x with c := v } := rfl
theorem put4_3 (x : W4) (v : Int) : put4 x (3, v) = { x with d := v } := rfl
theorem put4_no (x : W4) (at_ v : Int) (h : ¬ (0 ≤ at_ ∧ at_ ≤ 3)) : put4 x (at_, v) = x := by
  unfold put4
  simp only
  rw [if_neg (by omega), if_neg (by omega), if_neg (by omega), if_neg (by omega)]

set_option maxHeartbeats 1000000 in
theorem after_any (x : W4) (A : Option Addr) (n c : Nat) (l : List (Int × Int)) (hl : l.length = n) (hn : n ≤ 9223372036854775807) (w : World) (hr : Rd w w.heap.size 2 A n (l.flatMap encP)) :
    Calls Try.prog 39 #[.agg x.arr, .slice A n c] w fun e w' => e = .returned (.agg (l.foldl put4 x).arr) ∧ Below w.heap.size w w' := by
  unfold W4.arr
  go_enter Try.func39, Try.ntmps39
  go_wp2
  refine wp_name ?_
  intro w1 hw1
  have hb1 : RowKit.Below w.heap.size w w1 := by rw [hw1]; exact bal (bal (Below.refl _ _) _) _
  have hA : Blk w1 w.heap.size 40 x.arr := by rw [hw1]; exact (Blk.new _ _ _).alloc _
  have hB : Blk w1 (w.heap.size + 1) 40 #[.int .u32 0, .int .u32 0, .int .u32 0, .int .u32 0] := by rw [hw1]; exact Blk.fresh _ _ _
  clear hw1
  go_loopw [6, 9] (fun _ i wr => ∃ k : Nat, k ≤ n ∧ i = .int .i64 k ∧ Blk wr w.heap.size 40 ((l.take k).foldl put4 x).arr ∧ Blk wr (w.heap.size + 1) 40 #[.int .u32 0, .int .u32 0, .int .u32 0, .int .u32 0] ∧ RowKit.Below w.heap.size w wr) (fun _ i _ => n - (intOf i).toNat)
  case atStart => exact ⟨0, by omega, rfl, hA, hB, hb1⟩
  case round =>
    obtain ⟨k, hk, rfl, hAr, hBr, hbr⟩ := hrel
    have hsz := hBr.lt
    have hsz0 := hAr.lt
    by_cases hlt : k < n
    · have hlt' : k < l.length := by omega
      obtain ⟨b, off, rfl, hbb, hc⟩ := (hr.below hbr).row (fun _ => rfl) hlt' hl
      have c0 := hc 0 (by omega)
      have c1 := hc 1 (by omega)
      simp only [encP, Nat.add_zero] at c0 c1
      have HT := Lib.hid (List.take_succ_eq_append_getElem hlt')
      clear hc hr
      generalize l[k] = p at *
      obtain ⟨at_, v⟩ := p
      have HP := Lib.hid (show (l.take (k + 1)).foldl put4 x = put4 ((l.take k).foldl put4 x) (at_, v) by rw [HT.out, List.foldl_append]; rfl)
      generalize (l.take k).foldl put4 x = y at *
      by_cases hp : 0 ≤ at_ ∧ at_ ≤ 3
      · obtain ⟨hp0, hp1⟩ := hp
        have f1 := hAr.frozen
        have e1 := hAr.cell
        unfold W4.arr at e1
        rcases (by omega : at_ = 0 ∨ at_ = 1 ∨ at_ = 2 ∨ at_ = 3) with rfl | rfl | rfl | rfl
        · go_wp2
          go_roundw
          case rel => exact ⟨k + 1, by omega, by go_num, by rw [HP.out]; exact (hAr.set_ 0 _).alloc _, (hBr.far (p := ⟨w.heap.size, 0, none⟩) (by simp) _).alloc _, bal (hbr.setCell (p := ⟨w.heap.size, 0, none⟩) (Nat.le_refl _) _) _⟩
          case measure => simp [intOf]; omega
        · go_wp2
          go_roundw
          case rel => exact ⟨k + 1, by omega, by go_num, by rw [HP.out]; exact (hAr.set_ 1 _).alloc _, (hBr.far (p := ⟨w.heap.size, 1, none⟩) (by simp) _).alloc _, bal (hbr.setCell (p := ⟨w.heap.size, 1, none⟩) (Nat.le_refl _) _) _⟩
          case measure => simp [intOf]; omega
        · go_wp2
          go_roundw
          case rel => exact ⟨k + 1, by omega, by go_num, by rw [HP.out]; exact (hAr.set_ 2 _).alloc _, (hBr.far (p := ⟨w.heap.size, 2, none⟩) (by simp) _).alloc _, bal (hbr.setCell (p := ⟨w.heap.size, 2, none⟩) (Nat.le_refl _) _) _⟩
          case measure => simp [intOf]; omega
        · go_wp2
          go_roundw
          case rel => exact ⟨k + 1, by omega, by go_num, by rw [HP.out]; exact (hAr.set_ 3 _).alloc _, (hBr.far (p := ⟨w.heap.size, 3, none⟩) (by simp) _).alloc _, bal (hbr.setCell (p := ⟨w.heap.size, 3, none⟩) (Nat.le_refl _) _) _⟩
          case measure => simp [intOf]; omega
      · have HN := Lib.hid (put4_no y at_ v hp)
        go_wp2
        all_goals first | (exfalso; omega) | skip
        all_goals go_roundw
        all_goals first
          | exact ⟨k + 1, by omega, by go_num, by rw [HP.out, HN.out]; exact hAr.alloc _, hBr.alloc _, bal hbr _⟩
          | (simp [intOf]; omega)
    · obtain rfl : k = n := by omega
      have e1 := hAr.cell
      have e2 := hBr.cell
      have f2 := hBr.frozen
      rw [List.take_of_length_le (by omega)] at hAr e1
      obtain ⟨y, hy⟩ : ∃ y, y = l.foldl put4 x := ⟨_, rfl⟩
      rw [← hy] at hAr e1
      have HY := Lib.hid hy
      clear hy
      unfold W4.arr at e1
      go_wp2
      have c3 := ((((hBr.set_ 0 (.int .u32 y.a)).set_ 1 (.int .u32 y.b)).set_ 2 (.int .u32 y.c)).set_ 3 (.int .u32 y.d)).cell
      refine bodyPost_ret (v := .agg y.arr) (by simp [results, Try.results39, go_sem, c3, W4.arr]) rfl ⟨by rw [HY.out]; rfl, ?_⟩
      exact hbr.setCell (by simp) _ |>.setCell (by simp) _ |>.setCell (by simp) _ |>.setCell (by simp) _

/-- What a tear does: the writes ahead of it are done, one is torn, the others aren't. -/
def tear (mask : Int) (x : W4) (p : Int × Int) : W4 :=
  if p.1 = 0 then { x with a := bits .or .u32 (bits .andNot .u32 x.a mask) (bits .and .u32 p.2 mask) } else if p.1 = 1 then { x with b := bits .or .u32 (bits .andNot .u32 x.b mask) (bits .and .u32 p.2 mask) }
  else if p.1 = 2 then { x with c := bits .or .u32 (bits .andNot .u32 x.c mask) (bits .and .u32 p.2 mask) } else if p.1 = 3 then { x with d := bits .or .u32 (bits .andNot .u32 x.d mask) (bits .and .u32 p.2 mask) } else x
theorem tear_no (m : Int) (x : W4) (at_ v : Int) (h : ¬ (0 ≤ at_ ∧ at_ ≤ 3)) : tear m x (at_, v) = x := by
  unfold tear
  simp only
  rw [if_neg (by omega), if_neg (by omega), if_neg (by omega), if_neg (by omega)]
/-- How many writes are done. -/
def upTo (k : Int) (n : Nat) : Nat := min k.toNat n
def tornN (x : W4) (l : List (Int × Int)) (k mask : Int) : W4 :=
  match l[upTo k l.length]? with
  | some p => tear mask ((l.take (upTo k l.length)).foldl put4 x) p
  | none => l.foldl put4 x


/-- Four cells of a block are written. -/
theorem set4 {w : World} {g : Nat} {t : TypeId} {cs : Array Value} (h : Blk w g t cs) (hs : cs.size = 4) (a b c d : Value) :
    Blk ((((w.setCell ⟨g, 0, none⟩ a).setCell ⟨g, 1, none⟩ b).setCell ⟨g, 2, none⟩ c).setCell ⟨g, 3, none⟩ d) g t #[a, b, c, d] := by
  have := (((h.set_ 0 a).set_ 1 b).set_ 2 c).set_ 3 d
  obtain ⟨l⟩ := cs
  match l, hs with
  | [_, _, _, _], _ => exact this
theorem far4 {w : World} {g g' : Nat} {t : TypeId} {cs : Array Value} (h : Blk w g t cs) (hg : g ≠ g') (a b c d : Value) :
    Blk ((((w.setCell ⟨g', 0, none⟩ a).setCell ⟨g', 1, none⟩ b).setCell ⟨g', 2, none⟩ c).setCell ⟨g', 3, none⟩ d) g t cs :=
  (((h.far (p := ⟨g', 0, none⟩) hg a).far (p := ⟨g', 1, none⟩) hg b).far (p := ⟨g', 2, none⟩) hg c).far (p := ⟨g', 3, none⟩) hg d
theorem below4 {B : Nat} {w0 w : World} (h : Below B w0 w) {g : Nat} (hg : B ≤ g) (a b c d : Value) :
    Below B w0 ((((w.setCell ⟨g, 0, none⟩ a).setCell ⟨g, 1, none⟩ b).setCell ⟨g, 2, none⟩ c).setCell ⟨g, 3, none⟩ d) :=
  (((h.setCell (p := ⟨g, 0, none⟩) hg a).setCell (p := ⟨g, 1, none⟩) hg b).setCell (p := ⟨g, 2, none⟩) hg c).setCell (p := ⟨g, 3, none⟩) hg d
end Go.Proofs.Ytdkhkpjepnmjnaa
