/- Device trees: the empty one checked; walked. -/
import Derived.Test.YtnkpaockginooaaTreeF
import Derived.Test.YtnkpaockginooaaAppS
import Derived.Carry
namespace Go.Proofs.Ytnkpaockginooaa
set_option linter.unusedVariables false
set_option linter.unusedSimpArgs false
open Go.RowKit Go.Sort

def e0 : ByteArray := ⟨#[]⟩
set_option maxHeartbeats 1000000 in
theorem twice_nil (w : World) : Calls Try.prog 87 #[.slice none 0 0] w fun e w' => e = .returned (.bool false) ∧ Below w.heap.size w w' := by
  have hmm := @run_makeMap Try.prog
  go_enter Try.func87, Try.ntmps87
  go_wp2
  refine wp_name ?_
  intro w1 hw1
  have hb1 : RowKit.Below w.heap.size w w1 := by rw [hw1]; exact bal (Below.refl _ _) _
  clear hw1
  go_loopw [9] (fun i wr => i = .int .i64 0 ∧ Below w.heap.size w wr) (fun i _ => 0)
  case atStart => exact ⟨rfl, hb1⟩
  case round =>
    obtain ⟨rfl, hb⟩ := hrel
    go_wp2
    go_ret
    exact ⟨rfl, hb⟩
set_option maxRecDepth 100000 in
set_option maxHeartbeats 2000000 in
theorem may_zero (gc : Nat) (w : World) (hB : Blk w gc 82 #[.int .i64 0, .int .i64 0]) :
    Calls Try.prog 40 #[.pointer (some ⟨gc, 0, none⟩), .agg #[.string ⟨#[]⟩, .slice none 0 0, .slice none 0 0], .int .i64 1] w fun e w' => e = .returned (.bool true) ∧ Near (fun i => i = gc) w w' := by
  have HB := Lib.hid hB
  have hlt := hB.lt
  have cB := (hB.alloc (.cells #[.string ⟨#[]⟩, .slice none 0 0, .slice none 0 0] 25)).cell
  have fB := (hB.alloc (.cells #[.string ⟨#[]⟩, .slice none 0 0, .slice none 0 0] 25)).frozen
  clear hB
  go_enter Try.func40, Try.ntmps40
  go_upto_region 2 with (fail)
  refine wp_name ?_
  intro w1 hw1
  have hB1 : Blk w1 gc 82 #[.int .i64 1, .int .i64 0] := by rw [hw1]; exact (HB.out.set_ 0 (.int .i64 1)).alloc _
  have hT1 : Blk w1 w.heap.size 25 #[.string ⟨#[]⟩, .slice none 0 0, .slice none 0 0] := by rw [hw1]; exact Blk.fresh _ _ _
  have hn1 : Near (fun i => i = gc) w w1 := by rw [hw1]; exact (Near.setCell (Near.refl (fun i => i = gc) w) (p := ⟨gc, 0, none⟩) rfl (.int .i64 1)).alloc _
  clear hw1
  clear cB fB
  have cB := hB1.cell
  have fB := hB1.frozen
  have cT := hT1.cell
  go_region
  have hB2 := (hB1.set_ 1 (.int .i64 0)).drew
  have hT2 := (hT1.far (p := ⟨gc, 1, none⟩) (by simp; omega) (.int .i64 0)).drew
  have hn2 := (hn1.setCell (p := ⟨gc, 1, none⟩) rfl (.int .i64 0)).drew
  generalize (w1.setCell ⟨gc, 1, none⟩ (.int .i64 0)).drew = w2 at *
  clear cB fB cT hB1 hT1 hn1
  have cB := hB2.cell
  have cT := hT2.cell
  go_wp2_with fail
  go_loopw [7, 66] (fun v i wr => v = .slice none 0 0 ∧ i = .int .i64 0 ∧ Below w2.heap.size w2 wr) (fun _ i _ => 0)
  case atStart => exact ⟨rfl, rfl, Below.refl _ _⟩
  case round =>
    obtain ⟨rfl, rfl, hb⟩ := hrel
    have cT := (hT2.kept hb).cell
    go_wp2_with (go_at_call 87; refine (twice_nil _).mono ?_; rintro e w3 ⟨rfl, hb3⟩; have hb4 := hb.trans (hb3.mono hb.size); have cT := (hT2.kept hb4).cell)
    go_loopw [8, 97] (fun v i wr => v = .slice none 0 0 ∧ i = .int .i64 0 ∧ Below w2.heap.size w2 wr) (fun _ i _ => 0)
    case atStart => exact ⟨rfl, rfl, hb4⟩
    case round =>
      clear hb hb4 hb3
      obtain ⟨rfl, rfl, hb⟩ := hrel
      go_wp2_with (go_at_call 87; refine (twice_nil _).mono ?_; rintro e w5 ⟨rfl, hb5⟩)
      go_ret
      exact ⟨rfl, hn2.trans (Near.of_below _ (hb.trans (hb5.mono hb.size)))⟩
theorem check_zero (w : World) : Calls Try.prog 17 #[.agg #[.string ⟨#[]⟩, .slice none 0 0, .slice none 0 0]] w fun e w' => e = .returned (.bool true) ∧ Below w.heap.size w w' := by
  have hB := Blk.new (w.alloc (.cells #[.string ⟨#[]⟩, .slice none 0 0, .slice none 0 0] 25)) 82 #[.int .i64 0, .int .i64 0]
  rw [World.size_alloc] at hB
  have HM := Lib.hid (may_zero _ _ hB)
  have HB := Lib.hid (bal (bal (Below.refl w.heap.size w) (.cells #[.string ⟨#[]⟩, .slice none 0 0, .slice none 0 0] 25)) (.cells #[.int .i64 0, .int .i64 0] 82))
  clear hB
  go_enter Try.func17, Try.ntmps17
  go_wp2_with (go_at_call 40; refine HM.out.mono ?_; rintro e w3 ⟨rfl, hn3⟩)
  go_ret
  exact ⟨rfl, HB.out.trans (hn3.below (fun i hi => by omega) (by simp; omega))⟩
end Go.Proofs.Ytnkpaockginooaa
