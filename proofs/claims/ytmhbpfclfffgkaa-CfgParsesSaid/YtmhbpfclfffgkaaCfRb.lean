/- Chapter 14: the document's reader: take, number; walked. -/
import Derived.Test.YtmhbpfclfffgkaaCfRa
namespace Go.Proofs.Ytmhbpfclfffgkaa
set_option linter.unusedVariables false
set_option linter.unusedSimpArgs false
open Go.RowKit Go.Sort

theorem madeB (k : Nat) : (madeCells #[Value.int .u8 0] k).toList = (List.replicate k (0 : Int)).flatMap encB := by
  have h1 : (madeCells #[Value.int .u8 0] k).toList = List.replicate k (.int .u8 0) := by
    induction k with
    | zero => simp [madeCells]
    | succ k ih =>
      rw [List.replicate_succ', ← ih]
      simp [madeCells, List.range_succ, Nat.mod_one]
  rw [h1, flatB_map, List.map_replicate]
theorem blk_range' {w : World} {g : Nat} {t : TypeId} {cs : List Value} (h : Blk w g t cs.toArray) : w.rangeAt g 0 cs := fun j u hu => by
  rw [Nat.zero_add, h.cell]
  simpa using hu
theorem RPart.made {x : RIn} {k : Nat} {w W : World} (hk : k ≤ 1000) (hg : x.g < w.heap.size) (hW : W = w.alloc (.cells (madeCells #[.int .u8 0] k) 5)) : RPart x k (List.replicate k 0) (.slice (some ⟨w.heap.size, 0, none⟩) k k) W := by
  subst hW
  refine ⟨w.heap.size, 0, k, rfl, by omega, by simp, Nat.le_refl _, by unfold maxLen; omega, List.length_replicate, fun y hy => by rw [List.eq_of_mem_replicate hy]; decide, ?_⟩
  have h := blk_range' (cs := (List.replicate k (0 : Int)).flatMap encB) (by
    have h2 := Blk.new w 5 (madeCells #[.int .u8 0] k)
    rw [← madeB]; exact h2)
  exact h
set_option maxRecDepth 100000 in
set_option maxHeartbeats 2000000 in
theorem rtake_any (k : Nat) (h1 : 1 ≤ k) (hk : k ≤ 1000) : RCall 69 (fun x => #[.pointer (some ⟨x.g, 0, none⟩), .int .i64 k]) (takeP k) (fun x l v w => RPart x k l v w) := by
  intro x s t w hx hD
  have HX := Lib.hid hx
  have HD := Lib.hid hD
  have HB := Lib.hid hD.box
  have cB := hD.box.cell
  have hC := blk_regrown hD.box
  have hgl := hD.box.lt
  have ht := hD.le
  have HF := Lib.hid (fun s t W (h : RD x s t W) => rfail_any x s t W hx h 141 t (by decide))
  have hmm : x.n ≤ 65536 := hx.m
  have hnc : x.n ≤ x.c := hx.mc
  have hmk : ∀ W : World, (Instr.makeSlice 22 (.int .i64 (k : Int)) (.int .i64 (k : Int))).run Try.prog W = .ok (.slice (some ⟨W.heap.size, 0, none⟩) k k) (W.alloc (.cells (madeCells #[.int .u8 0] k) 5)) := fun W => by
    have := make_b W k k (by omega) (by omega)
    rwa [Nat.mul_one] at this
  obtain ⟨B, g, A, n, c, b⟩ := x
  simp only at hmm hnc HF hgl ht
  rcases s with y | a
  · have h0 : (y.2 == 0) = false := by simp [hD.ne y rfl]
    have h2 : (y.2 != 0) = true := by simp [hD.ne y rfl]
    simp only [errS, plcS] at cB HB hC hgl ht
    clear hx hD
    go_enter Try.func69, Try.ntmps69
    go_upto_region 1 with (fail)
    go_quiet (fail)
    have hbq := below_drewN (Below.refl w.heap.size w) nq
    have hD3 := HD.out.below HX.out hbq
    have hB3 := HB.out.kept hbq
    have hg3 := hB3.lt
    have HN := Lib.hid (Near.of_below (fun i => i = g) hbq)
    generalize w.drewN nq = w3 at *
    have cB3 := hB3.cell
    have HD3 := Lib.hid hD3
    have HPt := Lib.hid (RPart.made (x := ⟨B, g, A, n, c, b⟩) hk hg3 rfl)
    have hba := Lib.hid (bal (Below.refl w3.heap.size w3) (.cells (madeCells #[.int .u8 0] k) 5))
    clear hbq cB hC hD3 hB3
    go_wp2
    go_ret
    exact ⟨HN.out.trans (Near.of_below _ hba.out), List.replicate k 0, _, _, t, rfl, HPt.out, HD3.out.below HX.out hba.out, Step.failed _ _ _ _⟩
  · obtain rfl := hD.at_ a rfl
    simp only [errS, plcS] at cB HB hC hgl ht
    have HR := Lib.hid hD.r
    have q1 : IntKind.i64.wrap ((n : Int) - (t : Int)) = (n : Int) - (t : Int) := IntWalk.i64_in _ (by omega)
    have HLb := Lib.hid hx.hb
    clear hx hD
    by_cases hlt : t + k ≤ n
    · have q2 : decide ((n : Int) - (t : Int) < (k : Int)) = false := decide_eq_false (by omega)
      go_enter Try.func69, Try.ntmps69
      go_upto_region 1 with (fail)
      go_quiet (fail)
      have hbq := below_drewN (Below.refl w.heap.size w) nq
      have hD3 := HD.out.below HX.out hbq
      have hB3 := HB.out.kept hbq
      have HN := Lib.hid (Near.of_below (fun i => i = g) hbq)
      generalize w.drewN nq = w3 at *
      clear hbq cB hC q1 q2 hmk
      have cB3 := hB3.cell
      have q3 : IntKind.i64.wrap ((t : Int) + (k : Int)) = (t : Int) + (k : Int) := IntWalk.i64_in _ (by omega)
      have f1 : (0 : Int) ≤ (t : Int) := by omega
      have f2 : (t : Int) ≤ (t : Int) + (k : Int) := by omega
      have f3 : (t : Int) + (k : Int) ≤ (c : Int) := by omega
      have f4 : ¬ c = t := by omega
      have e1 : ((t : Int) + (k : Int)).toNat - t = k := by omega
      have hC := blk_regrown hB3
      have HD3 := Lib.hid hD3
      have HB3 := Lib.hid hB3
      clear hD3 hB3
      obtain ⟨bA, oA, hA, hbA, hrA⟩ := HD3.out.r.2 (by simp only; omega)
      simp only at hA
      subst hA
      go_upto_region 5 with (fail)
      go_quiet (fail)
      have hbq := below_drewN (Below.refl w3.heap.size w3) nq
      have hD5 := HD3.out.below HX.out hbq
      have hB5 := HB3.out.kept hbq
      have HN5 := Lib.hid (HN.out.trans (Near.of_below (fun i => i = g) hbq))
      generalize w3.drewN nq = w5 at *
      clear hbq hC cB3
      have cB5 := hB5.cell
      have fB5 := hB5.frozen
      have HD5 := Lib.hid hD5
      have HB5 := Lib.hid hB5
      clear hD5 hB5 q3 f2 f3 e1
      have HA := Lib.hid (show (t : Int) + (k : Int) = ((t + k : Nat) : Int) by omega)
      go_wp2
      go_ret
      refine ⟨HN5.out.setCell (p := ⟨g, 1, none⟩) rfl _, (b.drop t).take k, _, .ok (t + k), t + k, rfl, ?_, ⟨?_, HD5.out.r.setCell (p := ⟨g, 1, none⟩) HX.out.gB _, hlt, fun a h => (by cases h; rfl), fun e h => (by cases h)⟩, Step.take_yes (by rw [HLb.out]; exact hlt)⟩
      · have hgB : B ≤ g := HX.out.gB
        have hbA2 : bA < B := hbA
        have hl := HLb.out
        (try simp only at hl)
        have h5 := Rd.sub (HD5.out.r) HX.out.hb (a := t) (m := k) hlt
        refine ⟨bA, oA + t, c - t, rfl, by simp only; omega, ?_, by omega, ?_, by rw [List.length_take, List.length_drop]; omega, sub_ok HX.out.ok t k, ?_⟩
        · have := HB5.out.lt
          simp
          omega
        · have := HX.out.cm
          simp only at this
          omega
        · obtain ⟨b', o', e, _, hc⟩ := (h5.setCell (p := ⟨g, 1, none⟩) hgB (.int .i64 ((t : Int) + (k : Int)))).2 (by omega)
          simp only [Option.some.injEq, Addr.mk.injEq, and_true] at e
          obtain ⟨rfl, rfl⟩ := e
          exact hc
      · have h1 := HB5.out.set_ 1 (.int .i64 ((t : Int) + (k : Int)))
        rw [HA.out] at h1 ⊢
        simpa [errS, plcS] using h1
    · have q2 : decide ((n : Int) - (t : Int) < (k : Int)) = true := decide_eq_true (by omega)
      go_enter Try.func69, Try.ntmps69
      go_upto_region 1 with (fail)
      go_quiet (fail)
      have hbq := below_drewN (Below.refl w.heap.size w) nq
      have hD3 := HD.out.below HX.out hbq
      have hB3 := HB.out.kept hbq
      have HN := Lib.hid (Near.of_below (fun i => i = g) hbq)
      generalize w.drewN nq = w3 at *
      clear hbq cB hC q1 q2
      have cB3 := hB3.cell
      have HD3 := Lib.hid hD3
      clear hD3 hB3
      go_upto_region 3 with (go_at_call 30; refine (HF.out _ _ _ HD3.out).mono ?_; rintro e1 w4 ⟨rfl, hD4, hn4⟩)
      have hN4 := HN.out.trans hn4
      have HN4 := Lib.hid hN4
      have cB4 := hD4.box.cell
      have hg4 := hD4.box.lt
      have HD4 := Lib.hid hD4
      clear hN4 hn4 hD4 cB3
      simp only [failS, errS, plcS] at cB4 HD4 hg4
      have HPt := Lib.hid (RPart.made (x := ⟨B, g, A, n, c, b⟩) hk hg4 rfl)
      have hba := Lib.hid (bal (Below.refl w4.heap.size w4) (.cells (madeCells #[.int .u8 0] k) 5))
      have hno : ¬ t + k ≤ b.length := by
        have hl := HLb.out
        (try simp only at hl)
        omega
      have HNo := Lib.hid hno
      clear hno
      go_wp2
      go_ret
      exact ⟨HN4.out.trans (Near.of_below _ hba.out), List.replicate k 0, _, _, t, rfl, HPt.out, HD4.out.below HX.out hba.out, Step.take_no HNo.out _⟩
theorem RPart.rd {x : RIn} {k : Nat} {l : List Int} {b o : Nat} {w : World} (h : w.rangeAt b o (l.flatMap encB)) (hb : b < w.heap.size) (hl : l.length = k) : Rd w w.heap.size 1 (some ⟨b, o, none⟩) k (l.flatMap encB) := ⟨by rw [flatB_len, hl]; omega, fun _ => ⟨b, o, rfl, hb, h⟩⟩
set_option maxRecDepth 100000 in
set_option maxHeartbeats 2000000 in
theorem rnumber_any (k : Nat) (most e : Int) (h1 : 1 ≤ k) (hk : k ≤ 8) (he : e ≠ 0) : RCall 29 (fun x => #[.pointer (some ⟨x.g, 0, none⟩), .int .i64 k, .int .u64 most, .int .i64 e]) (numP k most e) (fun x y v w => v = .int .u64 y ∧ 0 ≤ y ∧ y < 256 ^ k) := by
  intro x s t w hx hD
  have HX := Lib.hid hx
  have HD := Lib.hid hD
  have cB := hD.box.cell
  have HT := Lib.hid (rtake_any k h1 (by omega) x s t w hx hD)
  have HF := Lib.hid (fun s t' W (h : RD x s t' W) => rfail_any x s t' W hx h e t he)
  have HS := Lib.hid (Step.here (b := x.b) hD.at_)
  clear hx hD
  go_enter Try.func29, Try.ntmps29
  go_wp2_with (go_at_call 69; refine HT.out.mono ?_; rintro e1 w1 ⟨hn1, l, v, s1, t1, rfl, ⟨b, o, c, rfl, hbg, hbl, hnc, hcm, hl, hok, hr⟩, hD1, hS1⟩)
  have HNu := Lib.hid (refNumber_yes (some ⟨b, o, none⟩) k c k l 0 false w1 hl hok (by omega) hk (by omega) (RPart.rd (x := x) hr hbl hl))
  have hn8 := numB_bd k l hl hok
  rw [show seqN l 0 k false = l by simp [seqN, ← hl]] at HNu
  obtain ⟨N, hN⟩ : ∃ N, numB l = N := ⟨_, rfl⟩
  rw [hN] at HNu hn8
  have HN := Lib.hid hN
  have HD1 := Lib.hid hD1
  have HS1 := Lib.hid hS1
  clear hN hD1 hS1 hr hok hl
  by_cases hmo : N ≤ most
  · have hd : decide (most < N) = false := decide_eq_false (by omega)
    go_wp2_with (go_at_call 68; refine HNu.out.mono ?_; rintro e2 w2 ⟨rfl, rfl⟩)
    go_ret
    refine ⟨hn1, N, _, s1, t1, rfl, ⟨rfl, hn8⟩, HD1.out, HS.out.bnd (HS1.out.bnd ?_)⟩
    rw [HN.out]
    exact (Step.must_yes (decide_eq_true hmo) _ _ _ _).bnd (Step.ret _ _ _)
  · have hd : decide (most < N) = true := decide_eq_true (by omega)
    go_wp2_with (first
      | (go_at_call 68; refine HNu.out.mono ?_; rintro e2 w2 ⟨rfl, rfl⟩)
      | (go_at_call 30; refine (HF.out _ _ _ HD1.out).mono ?_; rintro e1 w4 ⟨rfl, hD4, hn4⟩))
    go_ret
    refine ⟨hn1.trans hn4, N, _, _, t1, rfl, ⟨rfl, hn8⟩, hD4, HS.out.bnd (HS1.out.bnd ?_)⟩
    rw [HN.out]
    exact (Step.must_no (decide_eq_false (by omega)) _ _ _ _).bnd (Step.ret _ _ _)
end Go.Proofs.Ytmhbpfclfffgkaa
