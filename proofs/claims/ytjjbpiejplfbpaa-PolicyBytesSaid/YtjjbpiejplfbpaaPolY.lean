/- Chapter 27: the document's manifest read out of bytes. -/
import Derived.Test.YtjjbpiejplfbpaaPolX
import Derived.Test.YtjjbpiejplfbpaaPolS
namespace Go.Proofs.Ytjjbpiejplfbpaa
set_option linter.unusedVariables false
set_option linter.unusedSimpArgs false
open Go.RowKit Go.Sort Go.Shelf

theorem recAt_sub {l : List Int} {a m j : Nat} (h : j + 44 ≤ m) : recAt (subB l a m) j = recAt l (a + j) := by
  rw [recAt_n, recAt_n, nAt_sub (by omega), nAt_sub (by omega), nAt_sub (by omega)]
  have : subB (subB l a m) (j + 12) 32 = subB l (a + j + 12) 32 := by
    unfold subB
    rw [List.drop_take, List.take_take, List.drop_drop, Nat.min_eq_left (by omega), Nat.add_assoc]
  rw [this]
  rfl
theorem mf_result2 {w : World} {tmps : Array Value} {g : Nat} {cs : List Value} (hB : Blk w g 55 cs.toArray) (hl : cs.length = 71) (ha : tmps.getD 2 undef = .pointer (some ⟨g, 0, none⟩)) : (results Try.f18 tmps).run Try.prog w = .ok (.tuple #[.agg cs.toArray, tmps.getD 3 undef]) w :=
  results_cell_tmp rfl ha (hB.rangeIn (fun j v hv => by rw [Nat.zero_add]; simpa using hv)) Try.underlying55 rfl (by rw [hl]; kernel_rfl)
theorem build_mfr (w : World) (r : List Int) (h : r.length = 64) : (Instr.build 55 #[(5, .agg (r.flatMap encB).toArray)]).run Try.prog w = .ok (.agg (Mf.cs ⟨0, 0, 0, 0, 0, r, none, 0, 0, [], none, 0, 0, []⟩).toArray) w := by
  rw [list_of 64 r h]
  generalize (fun i => r.getD i 0) = f
  exact run_build w _ _ _ (by kernel_rfl)
/-- While the manifest is read: the result's box, the manifest's own, its log, its guests. -/
structure MB (w : World) (M : Mf) (log : List Rc) (gs : List St) (W : World) : Prop where
  gr : Blk W w.heap.size 55 m0cs
  mb : ∃ A c A2 c2, Blk W (w.heap.size + 1) 55 (Mf.cs (M.lie A log.length c A2 gs.length c2)).toArray ∧ W.ownsRow (w.heap.size + 2) 69 35 (.slice A log.length c) log.length (log.flatMap Rc.cs) ∧ W.ownsRow (w.heap.size + 2) 72 6 (.slice A2 gs.length c2) gs.length (gs.flatMap encSt)
  bl : Below w.heap.size w W
  sz : w.heap.size + 2 ≤ W.heap.size
theorem MB.below {w W W' : World} {M : Mf} {log : List Rc} {gs : List St} (h : MB w M log gs W) (hb : Below W.heap.size W W') : MB w M log gs W' := by
  obtain ⟨A, c, A2, c2, h1, h2, h3⟩ := h.mb
  exact ⟨h.gr.kept hb, ⟨A, c, A2, c2, h1.kept hb, own_kept h2 hb, own_kept h3 hb⟩, h.bl.trans (hb.mono h.bl.size), Nat.le_trans h.sz hb.size⟩
theorem mf_set0 (m : Mf) (x : Int) : m.cs.toArray.setIfInBounds 0 (.int .u32 x) = (Mf.cs { m with ver := x }).toArray := by simp [Mf.cs]
theorem mf_set1 (m : Mf) (x : Int) : m.cs.toArray.setIfInBounds 1 (.int .u64 x) = (Mf.cs { m with vt := x }).toArray := by simp [Mf.cs]
theorem mf_set2 (m : Mf) (x : Int) : m.cs.toArray.setIfInBounds 2 (.int .u64 x) = (Mf.cs { m with irq := x }).toArray := by simp [Mf.cs]
theorem mf_set3 (m : Mf) (x : Int) : m.cs.toArray.setIfInBounds 3 (.int .u64 x) = (Mf.cs { m with str := x }).toArray := by simp [Mf.cs]
theorem mf_set4 (m : Mf) (x : Int) : m.cs.toArray.setIfInBounds 4 (.int .i64 x) = (Mf.cs { m with fr := x }).toArray := by simp [Mf.cs]

set_option maxRecDepth 100000 in
set_option maxHeartbeats 8000000 in
theorem refMfOf_early (A : Option Addr) (n c : Nat) (l : List Int) (w : World) (hl : l.length = n) (hok : BytesOk l) (hm : n ≤ 30000) (hnc : n ≤ c) (hr : Rd w w.heap.size 1 A n (l.flatMap encB)) (hbd : ¬ (104 ≤ n ∧ recN l ≤ 64 ∧ 108 + 44 * recN l ≤ n)) :
    Calls Try.prog 18 #[.slice A n c] w (MofRes l w) := by
  have hz2 := (zero_of_info info_mf).1
  have hsz2 : m0cs.size = 71 := by decide +kernel
  have hm0 : ∀ u ∈ m0cs.toList, u.oneCell' = true := by decide +kernel
  have HBu := Lib.hid (fun W => build_mf0 W)
  have HBelow := Lib.hid (bal (Below.refl w.heap.size w) (.cells m0cs 55))
  have HG0 := Lib.hid (Blk.new w 55 m0cs)
  have hst0 := fun W => store_mf (cs := m0cs.toList) (by simpa using hsz2) hm0 W
  by_cases h104 : n < 104
  · have HNo := Lib.hid (show mofOk l = false by unfold mofOk; rw [decide_eq_false (by omega)]; rfl)
    have H1 := Lib.hid (fun W => refNumber_no A n c 4 100 false W (by omega) (by decide) (.inr (by omega)))
    simp only [Int.cast_ofNat_Int] at H1
    clear hr hl hok
    go_enter Try.func18, Try.ntmps18
    go_wp2_with (first
      | (go_at_call 33; refine (H1.out _).mono ?_; rintro e w1 ⟨rfl, rfl⟩)
      | (refine wpList_built rfl 55 #[] rfl (vals := #[]) (by go_simp) (HBu.out _) ?_))
    refine bodyPost_ret (mf_result2 (g := w.heap.size) (cs := m0cs.toList) ?_ ?_ ?_) ?_ ?_
    · simpa using HG0.out
    · simpa using hsz2
    · rfl
    · rfl
    · exact ⟨.inr ⟨HNo.out, rfl⟩, HBelow.out⟩
  · have H100 := Lib.hid (fun W hb => refNumAt (s := 4) hl hok (by omega) (by decide) hr (a := 100) rfl (by omega) (c := c) W hb)
    obtain ⟨q0, q1⟩ := nAt_bd (s := 4) hok (a := 100) (by omega)
    have hq : recN l = (nAt 4 l 100).toNat := rfl
    obtain ⟨q, hqe⟩ := Int.eq_ofNat_of_zero_le q0
    rw [hqe] at H100 q1 hq
    simp only [Int.cast_ofNat_Int] at H100
    have hq : recN l = q := by rw [hq]; rfl
    clear q0 hqe
    have hq1 : q < 4294967296 := by have q2 : (q : Int) < 4294967296 := by simpa using q1
                                    omega
    clear q1
    have ew : IntKind.i64.wrap (q : Int) = (q : Int) := IntWalk.i64_in _ (by omega)
    have hbad : 64 < q ∨ (¬ 64 < q ∧ n < 108 + 44 * q) := by rw [hq] at hbd; omega
    have HNo := Lib.hid (show mofOk l = false by
      unfold mofOk
      rcases hbad with h | h
      · have : ofLogOk (logOf l) = false := by unfold ofLogOk; rw [logN_of, hq, decide_eq_false (by omega)]; rfl
        rw [this]; simp
      · rw [decide_eq_false (show ¬ (104 ≤ l.length ∧ 108 + 44 * recN l ≤ l.length) by omega)]; rfl)
    clear hr hl hok hq
    rcases hbad with h1 | ⟨h1, h2⟩
    all_goals
      go_enter Try.func18, Try.ntmps18
      go_wp2_with (first
        | (go_at_call 33; refine (H100.out _ HBelow.out).mono ?_; rintro e w1 ⟨rfl, rfl⟩)
        | (refine wpList_built rfl 55 #[] rfl (vals := #[]) (by go_simp) (HBu.out _) ?_))
      refine bodyPost_ret (mf_result2 (g := w.heap.size) (cs := m0cs.toList) ?_ ?_ ?_) ?_ ?_
      · simpa using HG0.out
      · simpa using hsz2
      · rfl
      · rfl
      · exact ⟨.inr ⟨HNo.out, rfl⟩, HBelow.out⟩
end Go.Proofs.Ytjjbpiejplfbpaa
