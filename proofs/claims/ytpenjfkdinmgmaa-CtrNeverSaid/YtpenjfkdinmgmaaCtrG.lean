/- Chapter 13: Recover and All: the program's and the document's, walked. -/
import Derived.Test.YtpenjfkdinmgmaaCtrF
namespace Go.Proofs.Ytpenjfkdinmgmaa
set_option linter.unusedVariables false
set_option linter.unusedSimpArgs false
open Go.RowKit Go.Sort
attribute [local go_sem] Oper.semAt_some

set_option maxRecDepth 100000 in
set_option maxHeartbeats 2000000 in
theorem now_out (g : Nat) (base : Nat → Prop) (s : Stt) (id : Int) (w : World) (h : Sto w base g s) (hn : s.ws.length ≤ 100000) (hid : id < 0 ∨ ((s.ws.length / 8 : Nat) : Int) ≤ id) :
    CallsIn Fence.wide 5 Try.prog 27 #[.agg #[.pointer (some ⟨g, 0, none⟩), .int .i64 id]] w fun e W' => e = .returned (Rr.cs2 ⟨1, 0, 0, 0⟩) ∧ Below w.heap.size w W' := by
  have hro : Fence.wide.round = none := rfl
  have h1f : Fence.wide.fn 27 := trivial
  have HC := Lib.hid (fun W (hW : Below w.heap.size w W) => count_any g base s W (h.kept hW) hn)
  generalize s.ws.length / 8 = cn at *
  clear h hn
  refine callsIn_of_wp_marks Try.func27 rfl h1f ?_ hro
  simp only [Try.ntmps27, List.size_toArray, List.length_cons, List.length_nil, Nat.reduceAdd, Nat.reduceSub, Array.replicate_succ, Array.replicate_zero, List.push_toArray, List.append_toArray, List.nil_append, List.cons_append]
  gi_wp2
  refine wpIn_name ?_
  intro w1 hw1
  obtain ⟨hb1, hA1, hK1, hQ1, hE1, hs1⟩ : RowKit.Below w.heap.size w w1 ∧ Blk w1 w.heap.size 69 #[.pointer (some ⟨g, 0, none⟩), .int .i64 id] ∧ Blk w1 (w.heap.size + 1) 3 #[.int .i64 0] ∧ Blk w1 (w.heap.size + 1 + 1) 43 #[.int .u32 0, .int .u32 0] ∧ Blk w1 (w.heap.size + 1 + 1 + 1) 27 #[.int .i64 0] ∧ w1.heap.size = w.heap.size + 4 := by
    refine ⟨?_, ?_, ?_, ?_, ?_, ?_⟩
    all_goals rw [hw1]
    · exact bal (bal (bal (bal (RowKit.Below.refl _ _) _) _) _) _
    · exact (((Blk.new _ _ _).alloc _).alloc _).alloc _
    · exact ((Blk.fresh _ _ _).alloc _).alloc _
    · exact (Blk.fresh _ _ _).alloc _
    · exact Blk.fresh _ _ _
    · simp
  clear hw1
  refine wpIn_wide.2 ?_
  refine wp_region_quiet_below (by kernel_rfl) (by kernel_rfl) ?_
  have e0 := blk_regrown hA1
  rcases hid with h0 | h0
  · have d0 : decide (id < 0) = true := decide_eq_true h0
    repeat (go_big_quiet_step (fail))
    refine wpQuiet_nil ?_
    rintro w2 ⟨p2, rfl⟩
    have hx2 := below_regrown w1 p2.d p2.os
    generalize grow (redrawn w1 p2.d) p2.os = w2 at hx2 ⊢
    have hb2 : RowKit.Below w.heap.size w w2 := hb1.trans (hx2.mono hb1.size)
    have hA2 := hA1.kept hx2
    have hK2 := hK1.kept hx2
    have hQ2 := hQ1.kept hx2
    have hE2 := hE1.kept hx2
    have hz2 := hx2.size
    clear e0 hA1 hK1 hQ1 hE1 hb1 hx2 HC
    have cK := hK2.cell
    have cQ := hQ2.cell
    have cE := hE2.cell
    have fK := hK2.frozen
    have fQ := hQ2.frozen
    have fE := hE2.frozen
    gi_wp2
    have c5 := ((((hK2.set_ 0 (.int .i64 0)).far (p := ⟨w.heap.size + 1 + 1, 0, none⟩) (by first | (simp; done) | (simp; omega)) (.int .u32 0)).far (p := ⟨w.heap.size + 1 + 1, 1, none⟩) (by first | (simp; done) | (simp; omega)) (.int .u32 0)).far (p := ⟨w.heap.size + 1 + 1 + 1, 0, none⟩) (by first | (simp; done) | (simp; omega)) (.int .i64 1)).cell 0
    have c6 := ((((hQ2.far (p := ⟨w.heap.size + 1, 0, none⟩) (by first | (simp; done) | (simp; omega)) (.int .i64 0)).set_ 0 (.int .u32 0)).set_ 1 (.int .u32 0)).far (p := ⟨w.heap.size + 1 + 1 + 1, 0, none⟩) (by first | (simp; done) | (simp; omega)) (.int .i64 1)).cell 0
    have c7 := ((((hQ2.far (p := ⟨w.heap.size + 1, 0, none⟩) (by first | (simp; done) | (simp; omega)) (.int .i64 0)).set_ 0 (.int .u32 0)).set_ 1 (.int .u32 0)).far (p := ⟨w.heap.size + 1 + 1 + 1, 0, none⟩) (by first | (simp; done) | (simp; omega)) (.int .i64 1)).cell 1
    have c8 := ((((hE2.far (p := ⟨w.heap.size + 1, 0, none⟩) (by first | (simp; done) | (simp; omega)) (.int .i64 0)).far (p := ⟨w.heap.size + 1 + 1, 0, none⟩) (by first | (simp; done) | (simp; omega)) (.int .u32 0)).far (p := ⟨w.heap.size + 1 + 1, 1, none⟩) (by first | (simp; done) | (simp; omega)) (.int .u32 0)).set_ 0 (.int .i64 1)).cell 0
    have hb3 := (((hb2.setCell (p := ⟨w.heap.size + 1, 0, none⟩) (by show _ ≤ _ + _; omega) (.int .i64 0)).setCell (p := ⟨w.heap.size + 1 + 1, 0, none⟩) (by show _ ≤ _ + _; omega) (.int .u32 0)).setCell (p := ⟨w.heap.size + 1 + 1, 1, none⟩) (by show _ ≤ _ + _; omega) (.int .u32 0)).setCell (p := ⟨w.heap.size + 1 + 1 + 1, 0, none⟩) (by show _ ≤ _ + _; omega) (.int .i64 1)
    refine ⟨Rr.cs2 ⟨1, 0, 0, 0⟩, ?_, ?_⟩
    · simp at c5 c6 c7 c8
      simp [Rr.cs2, results, Try.f27, go_sem, c5, c6, c7, c8]
    · exact ⟨rfl, hb3⟩
  · by_cases h2 : id < 0
    · exfalso; omega
    · have d0 : decide (id < 0) = false := decide_eq_false h2
      have d1 : decide ((cn : Int) ≤ id) = true := decide_eq_true h0
      repeat (go_big_quiet_step ((go_at_call 16; exact regrown_same (HC.out _ (hb1.trans ((below_regrown w1 _ _).mono hb1.size))))))
      refine wpQuiet_nil ?_
      rintro w2 ⟨p2, rfl⟩
      have hx2 := below_regrown w1 p2.d p2.os
      generalize grow (redrawn w1 p2.d) p2.os = w2 at hx2 ⊢
      have hb2 : RowKit.Below w.heap.size w w2 := hb1.trans (hx2.mono hb1.size)
      have hA2 := hA1.kept hx2
      have hK2 := hK1.kept hx2
      have hQ2 := hQ1.kept hx2
      have hE2 := hE1.kept hx2
      have hz2 := hx2.size
      clear e0 hA1 hK1 hQ1 hE1 hb1 hx2 HC
      have cK := hK2.cell
      have cQ := hQ2.cell
      have cE := hE2.cell
      have fK := hK2.frozen
      have fQ := hQ2.frozen
      have fE := hE2.frozen
      gi_wp2
      have c5 := ((((hK2.set_ 0 (.int .i64 0)).far (p := ⟨w.heap.size + 1 + 1, 0, none⟩) (by first | (simp; done) | (simp; omega)) (.int .u32 0)).far (p := ⟨w.heap.size + 1 + 1, 1, none⟩) (by first | (simp; done) | (simp; omega)) (.int .u32 0)).far (p := ⟨w.heap.size + 1 + 1 + 1, 0, none⟩) (by first | (simp; done) | (simp; omega)) (.int .i64 1)).cell 0
      have c6 := ((((hQ2.far (p := ⟨w.heap.size + 1, 0, none⟩) (by first | (simp; done) | (simp; omega)) (.int .i64 0)).set_ 0 (.int .u32 0)).set_ 1 (.int .u32 0)).far (p := ⟨w.heap.size + 1 + 1 + 1, 0, none⟩) (by first | (simp; done) | (simp; omega)) (.int .i64 1)).cell 0
      have c7 := ((((hQ2.far (p := ⟨w.heap.size + 1, 0, none⟩) (by first | (simp; done) | (simp; omega)) (.int .i64 0)).set_ 0 (.int .u32 0)).set_ 1 (.int .u32 0)).far (p := ⟨w.heap.size + 1 + 1 + 1, 0, none⟩) (by first | (simp; done) | (simp; omega)) (.int .i64 1)).cell 1
      have c8 := ((((hE2.far (p := ⟨w.heap.size + 1, 0, none⟩) (by first | (simp; done) | (simp; omega)) (.int .i64 0)).far (p := ⟨w.heap.size + 1 + 1, 0, none⟩) (by first | (simp; done) | (simp; omega)) (.int .u32 0)).far (p := ⟨w.heap.size + 1 + 1, 1, none⟩) (by first | (simp; done) | (simp; omega)) (.int .u32 0)).set_ 0 (.int .i64 1)).cell 0
      have hb3 := (((hb2.setCell (p := ⟨w.heap.size + 1, 0, none⟩) (by show _ ≤ _ + _; omega) (.int .i64 0)).setCell (p := ⟨w.heap.size + 1 + 1, 0, none⟩) (by show _ ≤ _ + _; omega) (.int .u32 0)).setCell (p := ⟨w.heap.size + 1 + 1, 1, none⟩) (by show _ ≤ _ + _; omega) (.int .u32 0)).setCell (p := ⟨w.heap.size + 1 + 1 + 1, 0, none⟩) (by show _ ≤ _ + _; omega) (.int .i64 1)
      refine ⟨Rr.cs2 ⟨1, 0, 0, 0⟩, ?_, ?_⟩
      · simp at c5 c6 c7 c8
        simp [Rr.cs2, results, Try.f27, go_sem, c5, c6, c7, c8]
      · exact ⟨rfl, hb3⟩
theorem now_any (g : Nat) (base : Nat → Prop) (s : Stt) (id : Int) (w : World) (h : Sto w base g s) (hu : U32s s.ws) (hn : s.ws.length ≤ 100000) :
    Calls Try.prog 27 #[.agg #[.pointer (some ⟨g, 0, none⟩), .int .i64 id]] w fun e w' => e = .returned (recN s.ws id).cs2 ∧ Below w.heap.size w w' := by
  refine callsIn_wide.1 (?_ : CallsIn Fence.wide 5 Try.prog _ _ _ _)
  unfold recN
  split
  · rename_i h1
    exact now_out g base s id w h hn h1
  · rename_i h1
    obtain ⟨k, rfl⟩ := Int.eq_ofNat_of_zero_le (show 0 ≤ id by omega)
    have := now_in g base s k w h hu hn (by omega)
    rw [pick_run] at this
    exact this
set_option maxHeartbeats 1000000 in
theorem rec_any (g : Nat) (base : Nat → Prop) (s : Stt) (id : Int) (w : World) (h : Sto w base g s) (hu : U32s s.ws) (hn : s.ws.length ≤ 100000) :
    Calls Try.prog 10 #[.pointer (some ⟨g, 0, none⟩), .int .i64 id] w fun e w' => e = .returned (.tuple #[.int .u32 (recN s.ws id).v, .int .i64 (recN s.ws id).err]) ∧ Below w.heap.size w w' := by
  have HN := Lib.hid (now_any g base s id w h hu hn)
  generalize recN s.ws id = R at *
  obtain ⟨err, at_, q, v⟩ := R
  unfold Rr.cs2 at HN
  simp only at HN ⊢
  clear h hu hn
  go_enter Try.func10, Try.ntmps10
  go_wp2_with (go_at_call 27; refine HN.out.mono ?_; rintro e w1 ⟨rfl, hb1⟩)
  exact bodyPost_ret (v := .tuple #[.int .u32 v, .int .i64 err]) (by simp [results, Try.results10, go_sem]) rfl ⟨rfl, bal hb1 _⟩
end Go.Proofs.Ytpenjfkdinmgmaa
