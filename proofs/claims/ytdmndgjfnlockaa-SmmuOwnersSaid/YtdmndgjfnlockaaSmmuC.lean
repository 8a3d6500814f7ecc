/- Chapter 23, the stream table: entries are read. -/
import Derived.Test.YtdmndgjfnlockaaSmmuB
namespace Go.Proofs.Ytdmndgjfnlockaa
set_option linter.unusedVariables false
open Go.RowKit Go.Sort

theorem le64_yes (A : Option Addr) (n c : Nat) (l : List Int) (a : Nat) (w : World) (hl : l.length = n) (hok : BytesOk l) (hm : n ≤ 1000000000) (h : a + 8 ≤ n) (hr : Rd w w.heap.size 1 A n (l.flatMap encB)) :
    Calls Try.prog 34 #[.slice A n c, .int .i64 a] w fun e w' => e = .returned (.tuple #[.int .u64 (numB (seqB l a true)), .bool true]) ∧ w = w' := by
  have HP := Lib.hid (read64_yes A n c l a true w hl hok hm h hr)
  clear hl hok h hr
  go_enter Try.func34, Try.ntmps34
  go_wp2_with (go_at_call 38; refine HP.out.mono ?_; rintro e w1 ⟨rfl, rfl⟩)
  go_ret2
  exact ⟨rfl, rfl⟩

/-- The entry that sixteen bytes are. -/
def chunkS (l : List Int) (i : Nat) : Option Ste :=
  let f := numB (seqB l (16 * i) true)
  let r := numB (seqB l (16 * i + 8) true)
  if f = 0 then (if r = 0 then some ⟨false, 0, 0⟩ else none)
  else if f = 13 + f / 65536 % 256 * 65536 ∧ r < 281474976710656 then some ⟨true, f / 65536 % 256, r⟩ else none
theorem info_ste : (Try.prog.info? 52).map (fun i => (i.zero, i.size, i.bytes)) = some (some (.agg #[.bool false, .int .i64 0, .int .u64 0]), 3, 24) := by kernel_rfl
theorem ste_elem : ElemInfo Try.prog 44 52 3 24 := by
  obtain ⟨i, hi, hz, hs, hb⟩ := info_parts info_ste
  exact ⟨Try.underlying44, ⟨i, _, hi, hz, hs, hb, rfl⟩, by decide⟩
theorem and255 (x : Int) (h0 : 0 ≤ x) (h1 : x < 18446744073709551616) : bits .and .u64 x 255 = x % 256 := by
  obtain ⟨n, rfl⟩ := Int.eq_ofNat_of_zero_le h0
  have := u64_and_nat n 255 (by omega) (by decide)
  rw [show (255 : Int) = ((255 : Nat) : Int) from rfl, this, show (255 : Nat) = 2 ^ 8 - 1 by decide, Nat.and_two_pow_sub_one_eq_mod]
  simp

set_option maxRecDepth 100000 in
set_option maxHeartbeats 4000000 in
theorem sof_yes (A : Option Addr) (m c : Nat) (l : List Int) (ss : List Ste) (w : World) (hl : l.length = 16 * m) (hok : BytesOk l) (hm : m ≤ 256) (hss : ss.length = m) (hc : ∀ i, (h : i < ss.length) → chunkS l i = some ss[i]) (hr : Rd w w.heap.size 1 A (16 * m) (l.flatMap encB)) :
    Calls Try.prog 24 #[.slice A (16 * m) c] w fun e w' => ∃ A' c', e = .returned (.tuple #[.slice A' m c', .int .i64 0]) ∧ w'.ownsRow w.heap.size 52 3 (.slice A' m c') m (ss.flatMap encS) ∧ Below w.heap.size w w' := by
  have HL := Lib.hid hl
  have HO := Lib.hid hok
  have HS := Lib.hid hss
  have HC := Lib.hid hc
  have HR := Lib.hid hr
  clear hl hok hss hc hr
  have h16 : ((16 * (m : Int)).tmod 16 != 0) = false := by simp
  have h16' : ((16 * (m : Int)) % 16 != 0) = false := by simp
  go_enter Try.func24, Try.ntmps24
  go_wp2
  go_loopw [4, 5] (fun v i wr => ∃ k : Nat, k ≤ m ∧ i = .int .i64 (16 * (k : Int)) ∧ ∃ A' c', v = .slice A' k c' ∧ wr.ownsRow w.heap.size 52 3 (.slice A' k c') k ((ss.take k).flatMap encS) ∧ Below w.heap.size w wr) (fun _ i _ => 16 * m - (intOf i).toNat)
  case atStart => exact ⟨0, by omega, rfl, none, 0, rfl, World.ownsRow_nil _ _ _ _, Below.refl _ _⟩
  case round =>
    obtain ⟨k, hk, rfl, A', c', rfl, hown, hb⟩ := hrel
    clear h16 h16'
    by_cases hlt : k < m
    · have hlt' : k < ss.length := by rw [HS.out]; exact hlt
      have hwr := hb.size
      have g1 : ∀ W : World, W = wr → Calls Try.prog 34 #[.slice A (16 * m) c, .int .i64 (16 * (k : Int))] W fun e w' => e = .returned (.tuple #[.int .u64 (numB (seqB l (16 * k) true)), .bool true]) ∧ W = w' := by
        rintro W rfl
        have := le64_yes A (16 * m) c l (16 * k) W HL.out HO.out (by omega) (by omega) ((HR.out.below hb).more hb.size)
        rwa [Int.natCast_mul] at this
      have g2 : ∀ W : World, W = wr → Calls Try.prog 34 #[.slice A (16 * m) c, .int .i64 (16 * (k : Int) + 8)] W fun e w' => e = .returned (.tuple #[.int .u64 (numB (seqB l (16 * k + 8) true)), .bool true]) ∧ W = w' := by
        rintro W rfl
        have := le64_yes A (16 * m) c l (16 * k + 8) W HL.out HO.out (by omega) (by omega) ((HR.out.below hb).more hb.size)
        rwa [Int.natCast_add, Int.natCast_mul] at this
      have hch := HC.out k hlt'
      have b1 := numB_bd 8 (seqB l (16 * k) true) (seqB_len (by rw [HL.out]; omega)) (seqB_ok HO.out)
      have b2 := numB_bd 8 (seqB l (16 * k + 8) true) (seqB_len (by rw [HL.out]; omega)) (seqB_ok HO.out)
      have HT := Lib.hid (List.take_succ_eq_append_getElem hlt')
      unfold chunkS at hch
      simp only at hch
      rw [show (256 : Int) ^ 8 = 18446744073709551616 by decide] at b1 b2
      generalize numB (seqB l (16 * k) true) = f at *
      generalize numB (seqB l (16 * k + 8) true) = r at *
      generalize ss[k] = s at *
      have G1 := Lib.hid g1
      have G2 := Lib.hid g2
      have HMx := Lib.hid (show k + 1 ≤ maxLen by unfold maxLen; omega)
      have HMy := Lib.hid (show (k + 1) * 24 ≤ 140737488355328 by omega)
      obtain ⟨f0, f1⟩ := b1
      obtain ⟨r0, r1⟩ := b2
      clear g1 g2
      by_cases hf : f = 0
      · rw [if_pos hf] at hch
        have hr0 : r = 0 := by
          by_cases h : r = 0
          · exact h
          · rw [if_neg h] at hch; cases hch
        rw [if_pos hr0] at hch
        obtain rfl : (⟨false, 0, 0⟩ : Ste) = s := by simpa using hch
        subst hf hr0
        clear hch f0 f1 r0 r1
        have HY := Lib.hid (fun W => smay_any ⟨false, 0, 0⟩ (by decide) W)
        go_wp2_with (first
          | (go_at_call 34; with_reducible (refine (G1.out _ rfl).mono ?_); rintro e w2 ⟨rfl, rfl⟩)
          | (go_at_call 34; with_reducible (refine (G2.out _ rfl).mono ?_); rintro e w2 ⟨rfl, rfl⟩)
          | (go_at_call 31; refine (HY.out _).mono ?_; rintro e w3 ⟨rfl, hb3⟩; have hB3 := (Blk.new wr 52 #[.bool false, .int .i64 0, .int .u64 0]).kept hb3; have cB3 := hB3.cell; have hb4 := (hb.alloc hb.size _).trans (hb3.mono (Nat.le_trans hb.size (by simp))); have hown3 := own_kept (hown.alloc _) hb3; have hs4 := hb4.size)
          | (at_builtin; refine wpList_app ste_elem rfl (.tmp 59) (.tmp 61) rfl w.heap.size (hown3.alloc _) rfl rfl (Rd.fresh _ _ _ 1 3 _ rfl) (by simp [Value.oneCell']) HMx.out HMy.out (by simp; omega) ?_; intro v5 w5 hown5 hb5 _; obtain ⟨A5, c5, rfl, _, _⟩ := own_slice hown5))
        go_roundw
        case rel =>
          refine ⟨k + 1, by omega, by rw [show 16 * ((k + 1 : Nat) : Int) = 16 * (k : Int) + 16 by omega], A5, c5, rfl, ?_, (hb4.alloc hs4 _).trans hb5⟩
          rw [HT.out, List.flatMap_append]
          exact hown5
        case measure => simp [intOf]; omega
      · rw [if_neg hf] at hch
        have hcond : f = 13 + f / 65536 % 256 * 65536 ∧ r < 281474976710656 := by
          by_cases h : f = 13 + f / 65536 % 256 * 65536 ∧ r < 281474976710656
          · exact h
          · rw [if_neg h] at hch; cases hch
        rw [if_pos hcond] at hch
        obtain rfl : (⟨true, f / 65536 % 256, r⟩ : Ste) = s := by simpa using hch
        have q1 : bits .and .u64 (f / 65536) 255 = f / 65536 % 256 := and255 _ (by omega) (by omega)
        have q2 := or13' (f / 65536 % 256) (by omega) (by omega)
        have q3 : (f != 13 + f / 65536 % 256 * 65536) = false := by rw [bne_eq_false_iff_eq]; exact hcond.1
        have q4 : (f != 0) = true := by simpa using hf
        have i0 : 0 ≤ f / 65536 % 256 := by omega
        have i1 : f / 65536 % 256 ≤ 255 := by omega
        have rl := hcond.2
        have hmy : (⟨true, f / 65536 % 256, r⟩ : Ste).may = true := by simp [Ste.may]; omega
        have HY0 := fun W => smay_any ⟨true, f / 65536 % 256, r⟩ r0 W
        rw [hmy] at HY0
        have HY := Lib.hid HY0
        clear hch hcond HY0 hmy hf
        generalize f / 65536 % 256 = id at *
        go_wp2_with (first
          | (go_at_call 34; with_reducible (refine (G1.out _ rfl).mono ?_); rintro e w2 ⟨rfl, rfl⟩)
          | (go_at_call 34; with_reducible (refine (G2.out _ rfl).mono ?_); rintro e w2 ⟨rfl, rfl⟩)
          | (go_at_call 31; refine (HY.out _).mono ?_; rintro e w3 ⟨rfl, hb3⟩; have hB3 := (Blk.new wr 52 #[.bool true, .int .i64 id, .int .u64 r]).kept hb3; have cB3 := hB3.cell; have hb4 := (hb.alloc hb.size _).trans (hb3.mono (Nat.le_trans hb.size (by simp))); have hown3 := own_kept (hown.alloc _) hb3; have hs4 := hb4.size)
          | (at_builtin; refine wpList_app ste_elem rfl (.tmp 59) (.tmp 61) rfl w.heap.size (hown3.alloc _) rfl rfl (Rd.fresh _ _ _ 1 3 _ rfl) (by simp [Value.oneCell']) HMx.out HMy.out (by simp; omega) ?_; intro v5 w5 hown5 hb5 _; obtain ⟨A5, c5, rfl, _, _⟩ := own_slice hown5))
        go_roundw
        case rel =>
          refine ⟨k + 1, by omega, by rw [show 16 * ((k + 1 : Nat) : Int) = 16 * (k : Int) + 16 by omega], A5, c5, rfl, ?_, (hb4.alloc hs4 _).trans hb5⟩
          rw [HT.out, List.flatMap_append]
          exact hown5
        case measure => simp [intOf]; omega
    · obtain rfl : k = m := by omega
      rw [List.take_of_length_le (by rw [HS.out]; exact Nat.le_refl _)] at hown
      go_wp2
      go_ret2
      exact ⟨A', c', rfl, hown, hb⟩
end Go.Proofs.Ytdmndgjfnlockaa
