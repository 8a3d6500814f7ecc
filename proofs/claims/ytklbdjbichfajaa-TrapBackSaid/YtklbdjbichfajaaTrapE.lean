/- Chapter 35, the traps: a fault is read. -/
import Derived.Test.YtklbdjbichfajaaTrapC
import Derived.Test.YtklbdjbichfajaaDescF
import Derived.Deep.CutRange
namespace Go.Proofs.Ytklbdjbichfajaa
set_option linter.unusedVariables false
open Go.RowKit Go.Sort

theorem errors_at (k : Nat) (hk : k < 4) (v : Int) (hv : [200, 201, 202, 300].getD k 0 = v) (w : World) :
    Calls Try.prog 55 #[] w fun e w' => ∃ b o c, e = .returned (.slice (some ⟨b, o, none⟩) 4 c) ∧ w'.cell? ⟨b, o + k, none⟩ = some (.int .i64 v) ∧ Below w.heap.size w w' := by
  refine (errors_any w).mono ?_
  rintro e w' ⟨A, c, rfl, hr, hb⟩
  obtain ⟨b, o, rfl, _, hc⟩ := hr.row (fun _ => rfl) (k := k) hk rfl
  refine ⟨b, o, c, rfl, ?_, hb⟩
  have := hc 0 (by omega)
  simp only [encI, Nat.add_zero, Nat.mul_one, List.getElem?_cons_zero] at this
  rw [this, ← hv, List.getD_eq_getElem?_getD, List.getElem?_eq_getElem hk]; rfl
theorem sizes_at (k : Nat) (hk : k < 4) (v : Int) (hv : [1, 2, 4, 8].getD k 0 = v) (w : World) :
    Calls Try.prog 56 #[] w fun e w' => ∃ b o c, e = .returned (.slice (some ⟨b, o, none⟩) 4 c) ∧ w'.cell? ⟨b, o + k, none⟩ = some (.int .i64 v) ∧ Below w.heap.size w w' := by
  refine (sizes_any w).mono ?_
  rintro e w' ⟨A, c, rfl, hr, hb⟩
  obtain ⟨b, o, rfl, _, hc⟩ := hr.row (fun _ => rfl) (k := k) hk rfl
  refine ⟨b, o, c, rfl, ?_, hb⟩
  have := hc 0 (by omega)
  simp only [encI, Nat.add_zero, Nat.mul_one, List.getElem?_cons_zero] at this
  rw [this, ← hv, List.getD_eq_getElem?_getD, List.getElem?_eq_getElem hk]; rfl
theorem trap_neq (w : World) (a b c a' b' c' : Int) : (binOp .neq 39 (.agg #[.int .u64 a, .int .u64 b, .int .u64 c]) (.agg #[.int .u64 a', .int .u64 b', .int .u64 c'])).run Try.prog w = .ok (.bool (!(a == a' && (b == b' && (c == c' && true))))) w :=
  neq_flat w flat_trap (by kernel_rfl) (by decide) (by kernel_rfl) ⟨rfl, rfl, rfl, trivial⟩ ⟨rfl, rfl, rfl, trivial⟩
theorem trap_eql (w : World) (a b c a' b' c' : Int) : (binOp .eql 39 (.agg #[.int .u64 a, .int .u64 b, .int .u64 c]) (.agg #[.int .u64 a', .int .u64 b', .int .u64 c'])).run Try.prog w = .ok (.bool (a == a' && (b == b' && (c == c' && true)))) w :=
  eql_flat w flat_trap (by kernel_rfl) (by decide) (by kernel_rfl) ⟨rfl, rfl, rfl, trivial⟩ ⟨rfl, rfl, rfl, trivial⟩

/-- One of two values is handed back; nothing that was there has turned. -/
def OneOf (c : Prop) [Decidable c] (v1 v2 : Value) (w : World) (e : Ending) (w' : World) : Prop := e = .returned (if c then v1 else v2) ∧ Below w.heap.size w w'


set_option maxHeartbeats 8000000 in
theorem of_any
    (esr far hp : Int) (h0 : 0 ≤ esr) (m k : Nat) (r er sz T1 T2 T3 e kd sz' rg : Int) (B : Bool) (hm : m < 16) (hk : k < 4) (He : Hid ([200, 201, 202, 300].getD (m / 4) 0 = er)) (Hs : Hid ([1, 2, 4, 8].getD k 0 = sz))
    (E5 : fieldN esr 5 0 = m) (E23 : fieldN esr 23 22 = k) (E20 : fieldN esr 20 16 = r) (hr0 : 0 ≤ r) (hr1 : r ≤ 31) (HB : Hid ((T1 == esr && (T2 == far && (T3 == hp && true))) = B))
    (K : Hid ((fieldN esr 31 26 = 32 ∧ kd = 3 ∧ sz' = 4 ∧ rg = 0) ∨ ((fieldN esr 31 26 == 32) = false ∧ fieldN esr 6 6 = 1 ∧ kd = 2 ∧ sz' = sz ∧ rg = r) ∨ ((fieldN esr 31 26 == 32) = false ∧ (fieldN esr 6 6 == 1) = false ∧ kd = 1 ∧ sz' = sz ∧ rg = r)))
    (HP : Hid (∀ W, Calls Try.prog 23 #[.agg #[.int .i64 kd, .int .i64 0, .int .i64 0, .int .u64 far, .int .i64 sz', .int .u64 0, .int .i64 er, .int .i64 ((m : Int) % 4), .int .i64 rg]] W fun e' w' => e' = .returned (.tuple #[.agg #[.int .u64 T1, .int .u64 T2, .int .u64 T3], .int .i64 e]) ∧ Below W.heap.size W w')) (w : World) :
    Calls Try.prog 24 #[.agg #[.int .u64 esr, .int .u64 far, .int .u64 hp]] w (OneOf (e = 0 ∧ B = true) (.tuple #[.agg #[.int .i64 kd, .int .i64 0, .int .i64 0, .int .u64 far, .int .i64 sz', .int .u64 0, .int .i64 er, .int .i64 ((m : Int) % 4), .int .i64 rg], .int .i64 0])
      (.tuple #[.agg #[.int .i64 0, .int .i64 0, .int .i64 0, .int .u64 0, .int .i64 0, .int .u64 0, .int .i64 0, .int .i64 0, .int .i64 0], .int .i64 350]) w) := by
  have hm4 : m / 4 < 4 := by omega
  have HER := Lib.hid (fun W => errors_at (m / 4) hm4 er He.out W)
  have HSZ := Lib.hid (fun W => sizes_at k hk sz Hs.out W)
  have hq := fun w => trap_neq w T1 T2 T3 esr far hp
  rw [HB.out] at hq
  have HQ := Lib.hid hq
  clear hq
  go_enter Try.func24, Try.ntmps24
  go_upto_region 5 with (first
    | (go_at_call 54; refine (descField_any _ _ _ h0 _).mono ?_; rintro e w1 ⟨rfl, rfl⟩)
    | (go_at_call 55; refine (HER.out _).mono ?_; rintro e w1 ⟨b1, o1, c1, rfl, hd1, hb1⟩; have hA1 := Blk.kept ((Blk.new w 39 #[.int .u64 esr, .int .u64 far, .int .u64 hp]).alloc _) hb1; have hZ1 := Blk.kept (Blk.fresh (g := w.heap.size + 1) (w.alloc _) 37 #[.int .i64 0, .int .i64 0, .int .i64 0, .int .u64 0, .int .i64 0, .int .u64 0, .int .i64 0, .int .i64 0, .int .i64 0]) hb1))
  refine wp_name ?_
  intro w2 hw2
  have lA1 := hA1.lt
  have lZ1 := hZ1.lt
  have hb2 : RowKit.Below w.heap.size w w2 := by rw [hw2]; exact bal (below_alloc (below_alloc hb1)) _
  have hA2 : Blk w2 w.heap.size 39 #[.int .u64 esr, .int .u64 far, .int .u64 hp] := by rw [hw2]; exact hA1.alloc _
  have hZ2 : Blk w2 (w.heap.size + 1) 37 #[.int .i64 0, .int .i64 0, .int .i64 0, .int .u64 0, .int .i64 0, .int .u64 0, .int .i64 0, .int .i64 0, .int .i64 0] := by rw [hw2]; exact hZ1.alloc _
  have hF2 : Blk w2 w1.heap.size 37 #[.int .i64 0, .int .i64 0, .int .i64 0, .int .u64 0, .int .i64 0, .int .u64 0, .int .i64 er, .int .i64 ((m : Int) % 4), .int .i64 0] := by rw [hw2]; exact Blk.new _ _ _
  clear hw2 hA1 hZ1 hd1
  have lt1 : w.heap.size + 1 < w1.heap.size := lZ1
  clear hb1
  generalize w1.heap.size = g at *
  have cA := hA2.cell
  have k0 : (0 : Int) ≤ (k : Int) := by omega
  have k1 : (k : Int) < 4 := by omega
  go_cut [5] from 23 to 32 (fun s5 wx => s5 = .pointer (some ⟨g, 0, none⟩) ∧ Blk wx w.heap.size 39 #[.int .u64 esr, .int .u64 far, .int .u64 hp] ∧ Blk wx (w.heap.size + 1) 37 #[.int .i64 0, .int .i64 0, .int .i64 0, .int .u64 0, .int .i64 0, .int .u64 0, .int .i64 0, .int .i64 0, .int .i64 0] ∧
    Blk wx g 37 #[.int .i64 1, .int .i64 0, .int .i64 0, .int .u64 far, .int .i64 sz, .int .u64 0, .int .i64 er, .int .i64 ((m : Int) % 4), .int .i64 0] ∧ Below w.heap.size w wx)
  case first =>
    go_region_with (first
      | (go_at_call 56; refine (HSZ.out _).mono ?_; rintro e w3 ⟨b3, o3, c3, rfl, hd3, hb3⟩; have hA3 := hA2.drew.kept hb3; have hZ3 := hZ2.drew.kept hb3; have hF3 := hF2.drew.kept hb3; have cF3 := hF3.cell; have fF3 := hF3.frozen; have cA3 := hA3.cell)
      | (go_at_call 54; refine (descField_any _ _ _ h0 _).mono ?_; rintro e w4 ⟨rfl, rfl⟩))
    all_goals go_wp2_with fail
    all_goals go_meet
    all_goals refine ⟨rfl, ?_, ?_, (((((hF3.set_ 0 _).set_ 1 _).set_ 2 _).set_ 3 _).set_ 4 _).set_ 5 _, ?_⟩
    all_goals first
      | (repeat (refine Blk.far ?_ (by simp; omega) _)
         first | exact hA3 | exact hZ3)
      | (repeat (refine RowKit.Below.setCell ?_ (by simp; omega) _)
         exact hb2.trans ((of_drew hb3).mono hb2.size))
  case rest =>
    obtain ⟨rfl, hA3, hZ3, hF3, hb3⟩ := hcut
    clear cA hA2 hZ2 hF2
    have cF3 := hF3.cell
    have fF3 := hF3.frozen
    have cA3 := hA3.cell
    rcases K.out with ⟨E31, rfl, rfl, rfl⟩ | ⟨E31, E6, rfl, rfl, rfl⟩ | ⟨E31, E6, rfl, rfl, rfl⟩
    ·
      have hF4 := (((hF3.set_ 8 (.int .i64 r)).set_ 0 (.int .i64 3)).set_ 4 (.int .i64 4)).set_ 8 (.int .i64 0)
      have hA4 := (((hA3.far (p := ⟨g, 8, none⟩) (by simp; omega) (.int .i64 r)).far (p := ⟨g, 0, none⟩) (by simp; omega) (.int .i64 3)).far (p := ⟨g, 4, none⟩) (by simp; omega) (.int .i64 4)).far (p := ⟨g, 8, none⟩) (by simp; omega) (.int .i64 0)
      have hZ4 := (((hZ3.far (p := ⟨g, 8, none⟩) (by simp; omega) (.int .i64 r)).far (p := ⟨g, 0, none⟩) (by simp; omega) (.int .i64 3)).far (p := ⟨g, 4, none⟩) (by simp; omega) (.int .i64 4)).far (p := ⟨g, 8, none⟩) (by simp; omega) (.int .i64 0)
      have hb4 := (((hb3.setCell (p := ⟨g, 8, none⟩) (by simp; omega) (.int .i64 r)).setCell (p := ⟨g, 0, none⟩) (by simp; omega) (.int .i64 3)).setCell (p := ⟨g, 4, none⟩) (by simp; omega) (.int .i64 4)).setCell (p := ⟨g, 8, none⟩) (by simp; omega) (.int .i64 0)
      go_wp2_with (first
        | (go_at_call 54; refine (descField_any _ _ _ h0 _).mono ?_; rintro e w4 ⟨rfl, rfl⟩)
        | (go_at_call 23; refine (HP.out _).mono ?_; rintro e2 w5 ⟨rfl, hb5⟩; have hF5 := hF4.kept hb5; have hA5 := hA4.kept hb5; have hZ5 := hZ4.kept hb5; have hb6 := hb4.trans (hb5.mono hb4.size); have lF5 := hF5.lt; have lA5 := hA5.lt; have lZ5 := hZ5.lt; clear hF4 hA4 hZ4 cA3 cF3 fF3; have cF5 := hF5.cell; have cA5 := hA5.cell; have cZ5 := hZ5.cell; have fZ5 := hZ5.frozen; have hq := HQ.out))
      all_goals first
        | (have he : e = 0 := by assumption
           have hB : (!B) = false := by assumption
           refine bodyPost_ret (v := .tuple #[.agg #[.int .i64 3, .int .i64 0, .int .i64 0, .int .u64 far, .int .i64 4, .int .u64 0, .int .i64 er, .int .i64 ((m : Int) % 4), .int .i64 0], .int .i64 0]) (by simp [results, Try.results24, go_sem, cZ5, lZ5]) rfl ⟨by rw [if_pos ⟨he, by simpa using hB⟩], ?_⟩)
        | (refine bodyPost_ret (v := .tuple #[.agg #[.int .i64 0, .int .i64 0, .int .i64 0, .int .u64 0, .int .i64 0, .int .u64 0, .int .i64 0, .int .i64 0, .int .i64 0], .int .i64 350]) (by simp [results, Try.results24, go_sem, cZ5, lZ5]) rfl ⟨?_, ?_⟩
           (rw [if_neg]; rintro ⟨h1, h2⟩; first | exact absurd h1 (by assumption) | (have hB : (!B) = true := by assumption
                                                                                     rw [h2] at hB; cases hB)))
      all_goals
        refine bal ?_ _
        repeat (with_reducible refine RowKit.Below.setCell ?_ (by simp) _)
        exact hb6
    ·
      have hF4 := ((hF3.set_ 8 (.int .i64 rg)).set_ 0 (.int .i64 2))
      have hA4 := ((hA3.far (p := ⟨g, 8, none⟩) (by simp; omega) (.int .i64 rg)).far (p := ⟨g, 0, none⟩) (by simp; omega) (.int .i64 2))
      have hZ4 := ((hZ3.far (p := ⟨g, 8, none⟩) (by simp; omega) (.int .i64 rg)).far (p := ⟨g, 0, none⟩) (by simp; omega) (.int .i64 2))
      have hb4 := ((hb3.setCell (p := ⟨g, 8, none⟩) (by simp; omega) (.int .i64 rg)).setCell (p := ⟨g, 0, none⟩) (by simp; omega) (.int .i64 2))
      go_wp2_with (first
        | (go_at_call 54; refine (descField_any _ _ _ h0 _).mono ?_; rintro e w4 ⟨rfl, rfl⟩)
        | (go_at_call 23; refine (HP.out _).mono ?_; rintro e2 w5 ⟨rfl, hb5⟩; have hF5 := hF4.kept hb5; have hA5 := hA4.kept hb5; have hZ5 := hZ4.kept hb5; have hb6 := hb4.trans (hb5.mono hb4.size); have lF5 := hF5.lt; have lA5 := hA5.lt; have lZ5 := hZ5.lt; clear hF4 hA4 hZ4 cA3 cF3 fF3; have cF5 := hF5.cell; have cA5 := hA5.cell; have cZ5 := hZ5.cell; have fZ5 := hZ5.frozen; have hq := HQ.out))
      all_goals first
        | (have he : e = 0 := by assumption
           have hB : (!B) = false := by assumption
           refine bodyPost_ret (v := .tuple #[.agg #[.int .i64 2, .int .i64 0, .int .i64 0, .int .u64 far, .int .i64 sz', .int .u64 0, .int .i64 er, .int .i64 ((m : Int) % 4), .int .i64 rg], .int .i64 0]) (by simp [results, Try.results24, go_sem, cZ5, lZ5]) rfl ⟨by rw [if_pos ⟨he, by simpa using hB⟩], ?_⟩)
        | (refine bodyPost_ret (v := .tuple #[.agg #[.int .i64 0, .int .i64 0, .int .i64 0, .int .u64 0, .int .i64 0, .int .u64 0, .int .i64 0, .int .i64 0, .int .i64 0], .int .i64 350]) (by simp [results, Try.results24, go_sem, cZ5, lZ5]) rfl ⟨?_, ?_⟩
           (rw [if_neg]; rintro ⟨h1, h2⟩; first | exact absurd h1 (by assumption) | (have hB : (!B) = true := by assumption
                                                                                     rw [h2] at hB; cases hB)))
      all_goals
        refine bal ?_ _
        repeat (with_reducible refine RowKit.Below.setCell ?_ (by simp) _)
        exact hb6
    ·
      have hF4 := (hF3.set_ 8 (.int .i64 rg))
      have hA4 := (hA3.far (p := ⟨g, 8, none⟩) (by simp; omega) (.int .i64 rg))
      have hZ4 := (hZ3.far (p := ⟨g, 8, none⟩) (by simp; omega) (.int .i64 rg))
      have hb4 := (hb3.setCell (p := ⟨g, 8, none⟩) (by simp; omega) (.int .i64 rg))
      go_wp2_with (first
        | (go_at_call 54; refine (descField_any _ _ _ h0 _).mono ?_; rintro e w4 ⟨rfl, rfl⟩)
        | (go_at_call 23; refine (HP.out _).mono ?_; rintro e2 w5 ⟨rfl, hb5⟩; have hF5 := hF4.kept hb5; have hA5 := hA4.kept hb5; have hZ5 := hZ4.kept hb5; have hb6 := hb4.trans (hb5.mono hb4.size); have lF5 := hF5.lt; have lA5 := hA5.lt; have lZ5 := hZ5.lt; clear hF4 hA4 hZ4 cA3 cF3 fF3; have cF5 := hF5.cell; have cA5 := hA5.cell; have cZ5 := hZ5.cell; have fZ5 := hZ5.frozen; have hq := HQ.out))
      all_goals first
        | (have he : e = 0 := by assumption
           have hB : (!B) = false := by assumption
           refine bodyPost_ret (v := .tuple #[.agg #[.int .i64 1, .int .i64 0, .int .i64 0, .int .u64 far, .int .i64 sz', .int .u64 0, .int .i64 er, .int .i64 ((m : Int) % 4), .int .i64 rg], .int .i64 0]) (by simp [results, Try.results24, go_sem, cZ5, lZ5]) rfl ⟨by rw [if_pos ⟨he, by simpa using hB⟩], ?_⟩)
        | (refine bodyPost_ret (v := .tuple #[.agg #[.int .i64 0, .int .i64 0, .int .i64 0, .int .u64 0, .int .i64 0, .int .u64 0, .int .i64 0, .int .i64 0, .int .i64 0], .int .i64 350]) (by simp [results, Try.results24, go_sem, cZ5, lZ5]) rfl ⟨?_, ?_⟩
           (rw [if_neg]; rintro ⟨h1, h2⟩; first | exact absurd h1 (by assumption) | (have hB : (!B) = true := by assumption
                                                                                     rw [h2] at hB; cases hB)))
      all_goals
        refine bal ?_ _
        repeat (with_reducible refine RowKit.Below.setCell ?_ (by simp) _)
        exact hb6
end Go.Proofs.Ytklbdjbichfajaa
