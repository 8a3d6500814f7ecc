/- Chapter 35, the traps: a fault looked at; may it be put? -/
import Derived.Test.YtklbdjbichfajaaTrapA
import Derived.Test.YtklbdjbichfajaaEqFlat
namespace Go.Proofs.Ytklbdjbichfajaa
set_option linter.unusedVariables false
open Go.RowKit Go.Sort

def Flt.ei (f : Flt) : Int := idxN [200, 201, 202, 300] f.er
def Flt.si (f : Flt) : Int := idxN [1, 2, 4, 8] f.sz
/-- A fault, looked at. -/
def Flt.seen (f : Flt) : List Value := f.lst ++ [.int .i64 f.ei, .int .i64 f.si]

set_option maxHeartbeats 2000000 in
theorem look_any (f : Flt) (w : World) :
    Calls Try.prog 50 #[.agg f.lst.toArray] w fun e w' => e = .returned (.agg f.seen.toArray) ∧ Below w.heap.size w w' := by
  unfold Flt.seen Flt.lst
  go_enter Try.func50, Try.ntmps50
  go_wp2
  refine wp_name ?_
  intro w1 hw1
  have hb1 : RowKit.Below w.heap.size w w1 := by rw [hw1]; exact bal (bal (Below.refl _ _) _) _
  have hA : Blk w1 w.heap.size 37 #[.int .i64 f.kd, .int .i64 f.gu, .int .i64 f.li, .int .u64 f.ipa, .int .i64 f.sz, .int .u64 f.wd, .int .i64 f.er, .int .i64 f.lv, .int .i64 f.rg] := by rw [hw1]; exact (Blk.new _ _ _).alloc _
  have hZ : Blk w1 (w.heap.size + 1) 110 #[.int .i64 0, .int .i64 0, .int .i64 0, .int .u64 0, .int .i64 0, .int .u64 0, .int .i64 0, .int .i64 0, .int .i64 0, .int .i64 0, .int .i64 0] := by rw [hw1]; exact Blk.fresh _ _ _
  clear hw1
  have cA := hA.cell
  go_region_held3 (fun w' => ∀ j, w'.cell? ⟨w.heap.size, j, none⟩ = (#[.int .i64 f.kd, .int .i64 f.gu, .int .i64 f.li, .int .u64 f.ipa, .int .i64 f.sz, .int .u64 f.wd, .int .i64 f.er, .int .i64 f.lv, .int .i64 f.rg] : Array Value)[j]?) (first | with_reducible exact cA | with_reducible exact hA.drew.cell | with_reducible exact hA2.cell | with_reducible exact hA4.cell | ((repeat (with_reducible refine cells_set ?_ (by simp) _)); exact hA4.cell))
    (first
      | (go_at_call 55; refine (errors_any _).mono ?_; rintro e w2 ⟨A2, c2, rfl, hr2, hb2⟩; have hA2 := hA.drew.kept hb2; have hZ2 := hZ.drew.kept hb2)
      | (go_at_call 75; refine (index_errno A2 4 c2 _ _ _ rfl (by decide) hr2).mono ?_; rintro e w3 ⟨rfl, rfl⟩)
      | (go_at_call 56; refine (sizes_any _).mono ?_; rintro e w4 ⟨A4, c4, rfl, hr4, hb4⟩; have hA4 := hA2.kept hb4; have hZ4 := hZ2.kept hb4; have fZ4 := hZ4.frozen; have cZ4 := hZ4.cell)
      | (go_at_call 76; refine (index_int A4 4 c4 _ _ _ rfl (by decide) hr4).mono ?_; rintro e w5 ⟨rfl, rfl⟩))
  go_wp2
  refine bodyPost_ret (v := .agg #[.int .i64 f.kd, .int .i64 f.gu, .int .i64 f.li, .int .u64 f.ipa, .int .i64 f.sz, .int .u64 f.wd, .int .i64 f.er, .int .i64 f.lv, .int .i64 f.rg, .int .i64 (idxN [200, 201, 202, 300] f.er), .int .i64 (idxN [1, 2, 4, 8] f.sz)]) (by simp [results, Try.results50, go_sem, cZ4]) rfl ⟨rfl, ?_⟩
  have hb4' := (hb1.trans ((of_drew hb2).mono hb1.size)).trans (hb4.mono (Nat.le_trans hb1.size hb2.size))
  repeat (refine RowKit.Below.setCell ?_ (by simp) _)
  exact hb4'

theorem flat_deed : flatOf Try.prog 5 35 = some [.int .i64, .int .i64, .int .i64, .int .u64, .int .i64, .int .u64] := by kernel_rfl
theorem flat_fault : flatOf Try.prog 5 37 = some [.int .i64, .int .i64, .int .i64, .int .u64, .int .i64, .int .u64, .int .i64, .int .i64, .int .i64] := by kernel_rfl
theorem flat_trap : flatOf Try.prog 5 39 = some [.int .u64, .int .u64, .int .u64] := by kernel_rfl
theorem deed_neq (w : World) (a b c d e f a' b' c' d' e' f' : Int) : (binOp .neq 35 (.agg #[.int .i64 a, .int .i64 b, .int .i64 c, .int .u64 d, .int .i64 e, .int .u64 f]) (.agg #[.int .i64 a', .int .i64 b', .int .i64 c', .int .u64 d', .int .i64 e', .int .u64 f'])).run Try.prog w =
    .ok (.bool (!(a == a' && (b == b' && (c == c' && (d == d' && (e == e' && (f == f' && true)))))))) w :=
  neq_flat w flat_deed (by kernel_rfl) (by decide) (by kernel_rfl) ⟨rfl, rfl, rfl, rfl, rfl, rfl, trivial⟩ ⟨rfl, rfl, rfl, rfl, rfl, rfl, trivial⟩
theorem fault_eql (w : World) (f g : Flt) : (binOp .eql 37 (.agg f.lst.toArray) (.agg g.lst.toArray)).run Try.prog w = .ok (.bool (eqLeaves f.lst g.lst)) w :=
  eql_flat w flat_fault (by kernel_rfl) (by decide) (by kernel_rfl) ⟨rfl, rfl, rfl, rfl, rfl, rfl, rfl, rfl, rfl, trivial⟩ ⟨rfl, rfl, rfl, rfl, rfl, rfl, rfl, rfl, rfl, trivial⟩
theorem fault_neq (w : World) (f g : Flt) : (binOp .neq 37 (.agg f.lst.toArray) (.agg g.lst.toArray)).run Try.prog w = .ok (.bool (!eqLeaves f.lst g.lst)) w :=
  neq_flat w flat_fault (by kernel_rfl) (by decide) (by kernel_rfl) ⟨rfl, rfl, rfl, rfl, rfl, rfl, rfl, rfl, rfl, trivial⟩ ⟨rfl, rfl, rfl, rfl, rfl, rfl, rfl, rfl, rfl, trivial⟩

/-- May a fault be put? -/
def MayF (f : Flt) : Prop := f.gu = 0 ∧ f.li = 0 ∧ f.wd = 0 ∧ f.ipa < 1099511627776 ∧ 0 ≤ f.ei ∧ 0 ≤ f.si ∧ 0 ≤ f.lv ∧ f.lv ≤ 3 ∧ 0 ≤ f.rg ∧ f.rg ≤ 31 ∧ (f.kd = 1 ∨ f.kd = 2 ∨ f.kd = 3 ∧ f.sz = 4 ∧ f.rg = 0)

set_option maxHeartbeats 2000000 in
theorem may_yes (f : Flt) (h : MayF f) (w : World) :
    Calls Try.prog 51 #[.agg f.seen.toArray] w fun e w' => e = .returned (.bool true) ∧ Below w.heap.size w w' := by
  have hd := fun w => deed_neq w
  have HD := Lib.hid hd
  clear hd
  obtain ⟨h1, h2, h3, h4, h5, h6, h7, h8, h9, h10, h11⟩ := h
  unfold Flt.seen Flt.lst
  generalize f.ei = ei at *
  generalize f.si = si at *
  obtain ⟨kd, gu, li, ipa, sz, wd, er, lv, rg⟩ := f
  simp only at *
  subst h1 h2 h3
  rcases h11 with rfl | rfl | ⟨rfl, rfl, rfl⟩
  all_goals
    have hd := HD.out
    go_enter Try.func51, Try.ntmps51
    go_wp2
    go_ret
    exact ⟨rfl, bal (bal (Below.refl _ _) _) _⟩

set_option maxHeartbeats 2000000 in
theorem may_no (f : Flt) (h : ¬ MayF f) (w : World) :
    Calls Try.prog 51 #[.agg f.seen.toArray] w fun e w' => e = .returned (.bool false) ∧ Below w.heap.size w w' := by
  have hd := fun w => deed_neq w
  have H := Lib.hid h
  clear h
  unfold Flt.seen Flt.lst
  unfold MayF at H
  generalize f.ei = ei at *
  generalize f.si = si at *
  obtain ⟨kd, gu, li, ipa, sz, wd, er, lv, rg⟩ := f
  simp only at *
  go_enter Try.func51, Try.ntmps51
  go_wp2
  all_goals go_ret
  all_goals refine ⟨?_, bal (bal (Below.refl _ _) _) _⟩
  all_goals first
    | rfl
    | (exfalso; refine H.out ?_; simp only [beq_iff_eq, beq_eq_false_iff_ne] at *; omega)
    | (refine congrArg (fun b => Ending.returned (.bool b)) (show (rg == 0) = false from (beq_eq_false_iff_ne).2 fun e => H.out ?_); simp only [beq_iff_eq, beq_eq_false_iff_ne] at *; omega)
end Go.Proofs.Ytklbdjbichfajaa
