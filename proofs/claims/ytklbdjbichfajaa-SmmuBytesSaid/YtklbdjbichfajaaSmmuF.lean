/- Chapter 23, the stream table: bytes that are no entries. -/
import Derived.Test.YtklbdjbichfajaaSmmuC
namespace Go.Proofs.Ytklbdjbichfajaa
set_option linter.unusedVariables false
open Go.RowKit Go.Sort

set_option maxHeartbeats 1000000 in
theorem sof_out (A : Option Addr) (n c : Nat) (w : World) (hn : n ≤ 1000000) (h : n % 16 ≠ 0 ∨ 4096 < n) :
    Calls Try.prog 44 #[.slice A n c] w fun e w' => e = .returned (.tuple #[.slice none 0 0, .int .i64 230]) ∧ Below w.heap.size w w' := by
  by_cases h1 : n % 16 = 0
  · have h2 : 4096 < n := by omega
    have e1 : (((n : Int) % 16) != 0) = false := by rw [bne_eq_false_iff_eq]; omega
    clear h h1
    go_enter Try.func44, Try.ntmps44
    go_wp2
    go_ret2
    exact ⟨rfl, Below.refl _ _⟩
  · have e1 : (((n : Int) % 16) != 0) = true := by rw [bne_iff_ne]; omega
    clear h h1
    go_enter Try.func44, Try.ntmps44
    go_wp2
    go_ret2
    exact ⟨rfl, Below.refl _ _⟩

set_option maxRecDepth 100000 in
set_option maxHeartbeats 8000000 in
theorem sof_no (A : Option Addr) (m c : Nat) (l : List Int) (w : World) (hl : l.length = 16 * m) (hok : BytesOk l) (hm : m ≤ 256) (hc : ¬ ∀ i, i < m → (chunkS l i).isSome = true) (hr : Rd w w.heap.size 1 A (16 * m) (l.flatMap encB)) :
    Calls Try.prog 44 #[.slice A (16 * m) c] w fun e w' => e = .returned (.tuple #[.slice none 0 0, .int .i64 230]) ∧ Below w.heap.size w w' := by
  have HL := Lib.hid hl
  have HO := Lib.hid hok
  have HC := Lib.hid hc
  have HR := Lib.hid hr
  clear hl hok hc hr
  have h16 : ((16 * (m : Int)).tmod 16 != 0) = false := by simp
  have h16' : ((16 * (m : Int)) % 16 != 0) = false := by simp
  go_enter Try.func44, Try.ntmps44
  go_wp2
  go_loopw [4, 5] (fun v i wr => ∃ k : Nat, k ≤ m ∧ i = .int .i64 (16 * (k : Int)) ∧ Hid (∀ j, j < k → (chunkS l j).isSome = true) ∧ ∃ A' c' ss, v = .slice A' k c' ∧ wr.ownsRow w.heap.size 90 3 (.slice A' k c') k ss ∧ Below w.heap.size w wr) (fun _ i _ => 16 * m - (intOf i).toNat)
  case atStart => exact ⟨0, by omega, rfl, fun j hj => absurd hj (by omega), none, 0, [], rfl, World.ownsRow_nil _ _ _ _, Below.refl _ _⟩
  case round =>
    obtain ⟨k, hk, rfl, hall, A', c', ss, rfl, hown, hb⟩ := hrel
    clear h16 h16'
    by_cases hlt : k < m
    · have hwr := hb.size
      have g1 : ∀ W : World, W = wr → Calls Try.prog 72 #[.slice A (16 * m) c, .int .i64 (16 * (k : Int))] W fun e w' => e = .returned (.tuple #[.int .u64 (numB (seqB l (16 * k) true)), .bool true]) ∧ W = w' := by
        rintro W rfl
        have := le64_yes A (16 * m) c l (16 * k) W HL.out HO.out (by omega) (by omega) ((HR.out.below hb).more hb.size)
        rwa [Int.natCast_mul] at this
      have g2 : ∀ W : World, W = wr → Calls Try.prog 72 #[.slice A (16 * m) c, .int .i64 (16 * (k : Int) + 8)] W fun e w' => e = .returned (.tuple #[.int .u64 (numB (seqB l (16 * k + 8) true)), .bool true]) ∧ W = w' := by
        rintro W rfl
        have := le64_yes A (16 * m) c l (16 * k + 8) W HL.out HO.out (by omega) (by omega) ((HR.out.below hb).more hb.size)
        rwa [Int.natCast_add, Int.natCast_mul] at this
      have HAll : Hid ((chunkS l k).isSome = true → ∀ j, j < k + 1 → (chunkS l j).isSome = true) := fun h j hj => by
        rcases Nat.lt_or_ge j k with h1 | h1
        · exact hall.out j h1
        · obtain rfl : j = k := by omega
          exact h
      have b1 := numB_bd 8 (seqB l (16 * k) true) (seqB_len (by rw [HL.out]; omega)) (seqB_ok HO.out)
      have b2 := numB_bd 8 (seqB l (16 * k + 8) true) (seqB_len (by rw [HL.out]; omega)) (seqB_ok HO.out)
      rw [show (256 : Int) ^ 8 = 18446744073709551616 by decide] at b1 b2
      have hch : (chunkS l k).isSome = (if numB (seqB l (16 * k) true) = 0 then (if numB (seqB l (16 * k + 8) true) = 0 then some (⟨false, 0, 0⟩ : Ste) else none) else if numB (seqB l (16 * k) true) = 13 + numB (seqB l (16 * k) true) / 65536 % 256 * 65536 ∧ numB (seqB l (16 * k + 8) true) < 281474976710656 then some ⟨true, numB (seqB l (16 * k) true) / 65536 % 256, numB (seqB l (16 * k + 8) true)⟩ else none).isSome := rfl
      generalize numB (seqB l (16 * k) true) = f at *
      generalize numB (seqB l (16 * k + 8) true) = r at *
      have G1 := Lib.hid g1
      have G2 := Lib.hid g2
      have HMx := Lib.hid (show k + 1 ≤ maxLen by unfold maxLen; omega)
      have HMy := Lib.hid (show (k + 1) * 24 ≤ 140737488355328 by omega)
      obtain ⟨f0, f1⟩ := b1
      obtain ⟨r0, r1⟩ := b2
      clear g1 g2
      by_cases hf : f = 0
      · rw [if_pos hf] at hch
        subst hf
        have hmy : (⟨false, 0, r⟩ : Ste).may = decide (r = 0) := by simp [Ste.may]
        have HY0 := fun W => smay_any ⟨false, 0, r⟩ r0 W
        rw [hmy] at HY0
        by_cases hr0 : r = 0
        · rw [if_pos hr0] at hch
          have HN := Lib.hid (HAll.out (by rw [hch]; rfl))
          rw [decide_eq_true hr0] at HY0
          have HY := Lib.hid HY0
          clear hch HY0 hmy hr0 f0 f1
          go_wp2_with (first
            | (go_at_call 72; with_reducible (refine (G1.out _ rfl).mono ?_); rintro e w2 ⟨rfl, rfl⟩)
            | (go_at_call 72; with_reducible (refine (G2.out _ rfl).mono ?_); rintro e w2 ⟨rfl, rfl⟩)
            | (go_at_call 69; refine (HY.out _).mono ?_; rintro e w3 ⟨rfl, hb3⟩; have hB3 := (Blk.new wr 90 #[.bool false, .int .i64 0, .int .u64 r]).kept hb3; have cB3 := hB3.cell; have hb4 := (hb.alloc hb.size _).trans (hb3.mono (Nat.le_trans hb.size (by simp))); have hown3 := own_kept (hown.alloc _) hb3; have hs4 := hb4.size)
            | (at_builtin; refine wpList_app ste_elem rfl (.tmp 59) (.tmp 61) rfl w.heap.size (hown3.alloc _) rfl rfl (Rd.fresh _ _ _ 1 3 _ rfl) (by simp [Value.oneCell']) HMx.out HMy.out (by simp; omega) ?_; intro v5 w5 hown5 hb5 _; obtain ⟨A5, c5, rfl, _, _⟩ := own_slice hown5))
          go_roundw
          case rel => exact ⟨k + 1, by omega, by rw [show 16 * ((k + 1 : Nat) : Int) = 16 * (k : Int) + 16 by omega], HN.out, A5, c5, _, rfl, hown5, (hb4.alloc hs4 _).trans hb5⟩
          case measure => simp [intOf]; omega
        · rw [decide_eq_false hr0] at HY0
          have HY := Lib.hid HY0
          clear hch HY0 hmy hr0 f0 f1
          go_wp2_with (first
            | (go_at_call 72; with_reducible (refine (G1.out _ rfl).mono ?_); rintro e w2 ⟨rfl, rfl⟩)
            | (go_at_call 72; with_reducible (refine (G2.out _ rfl).mono ?_); rintro e w2 ⟨rfl, rfl⟩)
            | (go_at_call 69; refine (HY.out _).mono ?_; rintro e w3 ⟨rfl, hb3⟩; have hb4 := (hb.alloc hb.size _).trans (hb3.mono (Nat.le_trans hb.size (by simp)))))
          go_ret2
          exact ⟨rfl, hb4⟩
      · rw [if_neg hf] at hch
        have q1 : bits .and .u64 (f / 65536) 255 = f / 65536 % 256 := and255 _ (by omega) (by omega)
        have q2 := or13' (f / 65536 % 256) (by omega) (by omega)
        have q4 : (f != 0) = true := by simpa using hf
        have i0 : 0 ≤ f / 65536 % 256 := by omega
        have i1 : f / 65536 % 256 ≤ 255 := by omega
        have hmy : (⟨true, f / 65536 % 256, r⟩ : Ste).may = decide (r < 281474976710656) := by
          simp only [Ste.may, if_true]
          congr 1
          simp only [eq_iff_iff]
          constructor
          · exact fun h => h.2.2
          · exact fun h => ⟨i0, i1, h⟩
        have HY0 := fun W => smay_any ⟨true, f / 65536 % 256, r⟩ r0 W
        rw [hmy] at HY0
        by_cases hf2 : f = 13 + f / 65536 % 256 * 65536
        · have q3 : (f != 13 + f / 65536 % 256 * 65536) = false := by rw [bne_eq_false_iff_eq]; exact hf2
          by_cases hr2 : r < 281474976710656
          · rw [if_pos ⟨hf2, hr2⟩] at hch
            have HN := Lib.hid (HAll.out (by rw [hch]; rfl))
            rw [decide_eq_true hr2] at HY0
            have HY := Lib.hid HY0
            clear hch HY0 hmy hf hf2
            generalize f / 65536 % 256 = id at *
            go_wp2_with (first
              | (go_at_call 72; with_reducible (refine (G1.out _ rfl).mono ?_); rintro e w2 ⟨rfl, rfl⟩)
              | (go_at_call 72; with_reducible (refine (G2.out _ rfl).mono ?_); rintro e w2 ⟨rfl, rfl⟩)
              | (go_at_call 69; refine (HY.out _).mono ?_; rintro e w3 ⟨rfl, hb3⟩; have hB3 := (Blk.new wr 90 #[.bool true, .int .i64 id, .int .u64 r]).kept hb3; have cB3 := hB3.cell; have hb4 := (hb.alloc hb.size _).trans (hb3.mono (Nat.le_trans hb.size (by simp))); have hown3 := own_kept (hown.alloc _) hb3; have hs4 := hb4.size)
              | (at_builtin; refine wpList_app ste_elem rfl (.tmp 59) (.tmp 61) rfl w.heap.size (hown3.alloc _) rfl rfl (Rd.fresh _ _ _ 1 3 _ rfl) (by simp [Value.oneCell']) HMx.out HMy.out (by simp; omega) ?_; intro v5 w5 hown5 hb5 _; obtain ⟨A5, c5, rfl, _, _⟩ := own_slice hown5))
            go_roundw
            case rel => exact ⟨k + 1, by omega, by rw [show 16 * ((k + 1 : Nat) : Int) = 16 * (k : Int) + 16 by omega], HN.out, A5, c5, _, rfl, hown5, (hb4.alloc hs4 _).trans hb5⟩
            case measure => simp [intOf]; omega
          · rw [decide_eq_false hr2] at HY0
            have HY := Lib.hid HY0
            clear hch HY0 hmy hf hf2 hr2
            generalize f / 65536 % 256 = id at *
            go_wp2_with (first
              | (go_at_call 72; with_reducible (refine (G1.out _ rfl).mono ?_); rintro e w2 ⟨rfl, rfl⟩)
              | (go_at_call 72; with_reducible (refine (G2.out _ rfl).mono ?_); rintro e w2 ⟨rfl, rfl⟩)
              | (go_at_call 69; refine (HY.out _).mono ?_; rintro e w3 ⟨rfl, hb3⟩; have hb4 := (hb.alloc hb.size _).trans (hb3.mono (Nat.le_trans hb.size (by simp)))))
            go_ret2
            exact ⟨rfl, hb4⟩
        · have q3 : (f != 13 + f / 65536 % 256 * 65536) = true := by rw [bne_iff_ne]; exact hf2
          clear hch HY0 hmy hf hf2
          generalize f / 65536 % 256 = id at *
          go_wp2_with (first
            | (go_at_call 72; with_reducible (refine (G1.out _ rfl).mono ?_); rintro e w2 ⟨rfl, rfl⟩)
            | (go_at_call 72; with_reducible (refine (G2.out _ rfl).mono ?_); rintro e w2 ⟨rfl, rfl⟩))
          go_ret2
          exact ⟨rfl, hb.alloc hb.size _⟩
    · obtain rfl : k = m := by omega
      exact absurd hall.out HC.out
end Go.Proofs.Ytklbdjbichfajaa
