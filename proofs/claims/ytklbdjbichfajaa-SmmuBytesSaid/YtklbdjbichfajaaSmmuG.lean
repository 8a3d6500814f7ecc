/- Chapter 23, the document's stream table: entries read. -/
import Derived.Test.YtklbdjbichfajaaSmmuE
import Derived.Test.YtklbdjbichfajaaSmmuD
import Derived.Laws.BytesArg
namespace Go.Proofs.Ytklbdjbichfajaa
set_option linter.unusedVariables false
open Go.RowKit Go.Sort

theorem conv_str {w : World} {B n : Nat} {A : Option Addr} {l : List Int} (h : Rd w B 1 A n (l.flatMap encB)) (hl : l.length = n) (c : Nat) :
    (convert 59 9 (.slice A n c)).run Try.prog w = .ok (.string (strOfNums l)) w := by
  rcases Nat.eq_zero_or_pos n with h0 | h0
  · subst h0
    obtain rfl := List.eq_nil_of_length_eq_zero hl
    rcases A with _ | ⟨b, o, sp⟩
    · exact run_convert_bytes_nil w 59 5 Try.underlying59 Try.underlying5 0 c 9 Try.underlying9
    · rw [run_convert_bytes_string w 59 9 5 _ 0 c Try.underlying59 Try.underlying5 Try.underlying9, run_bytesToString w _ 0 c [] (by simp [loadCells, loadCellsFrom])]
      rfl
  · obtain ⟨b, o, rfl, _, hc⟩ := h.cells h0
    refine run_convert_bytes_arg w 59 5 Try.underlying59 Try.underlying5 b o n c l hl (fun i hi => ?_) 9 Try.underlying9
    rw [hc i (by omega)]
    have := flatMap_get (enc := encB) (s := 1) (fun _ => rfl) l i 0 (by omega) (by omega)
    rw [Nat.mul_one, Nat.add_zero] at this
    rw [this]
    simp [encB, List.getD_eq_getElem?_getD, show i < l.length by omega]
theorem strOfNums_inj {l1 l2 : List Int} (h1 : BytesOk l1) (h2 : BytesOk l2) (h : (strOfNums l1).toList = (strOfNums l2).toList) : l1 = l2 := by
  rw [ByteArray.toList_eq, ByteArray.toList_eq, strOfNums_data, strOfNums_data] at h
  have hl : l1.length = l2.length := by simpa using congrArg List.length h
  refine List.ext_getElem hl fun i a b => ?_
  have e := congrArg (fun l : List UInt8 => l[i]?) h
  simp only [List.getElem?_map, List.getElem?_eq_getElem a, List.getElem?_eq_getElem b, Option.map_some, Option.some.injEq] at e
  have x1 := h1 _ (List.getElem_mem a)
  have x2 := h2 _ (List.getElem_mem b)
  have := congrArg UInt8.toNat e
  simp only [UInt8.toNat_ofNat'] at this
  omega

/-- The entry that the document reads of sixteen bytes. -/
def entryS (l : List Int) (i : Nat) : Ste := ⟨numB (seqB l (16 * i) true) % 2 == 1, numB (seqB l (16 * i) true) / 65536 % 256, numB (seqB l (16 * i + 8) true)⟩
def tabS (l : List Int) (m : Nat) : List Ste := (List.range m).map (entryS l)
theorem tabS_len (l : List Int) (m : Nat) : (tabS l m).length = m := by simp [tabS]
theorem tabS_step (l : List Int) (k : Nat) : tabS l (k + 1) = tabS l k ++ [entryS l k] := by simp [tabS, List.range_succ]
theorem and1 (x : Int) (h0 : 0 ≤ x) (h1 : x < 18446744073709551616) : bits .and .u64 x 1 = x % 2 := by
  obtain ⟨n, rfl⟩ := Int.eq_ofNat_of_zero_le h0
  have := u64_and_nat n 1 (by omega) (by decide)
  rw [show (1 : Int) = ((1 : Nat) : Int) from rfl, this, show (1 : Nat) = 2 ^ 1 - 1 by decide, Nat.and_two_pow_sub_one_eq_mod]
  simp

theorem refNumber8 (A : Option Addr) (n c : Nat) (l : List Int) (a : Nat) (low : Bool) (w : World) (hl : l.length = n) (hok : BytesOk l) (hm : n ≤ 1000000000) (h : a + 8 ≤ n) (hr : Rd w w.heap.size 1 A n (l.flatMap encB)) :
    Calls Try.prog 73 #[.slice A n c, .int .i64 a, .int .i64 8, .bool low] w fun e w' => e = .returned (.tuple #[.int .u64 (numB (seqB l a low)), .bool true]) ∧ w = w' :=
  refNumber_yes A n c 8 l a low w hl hok hm (Nat.le_refl _) h hr

theorem tabS_ok {l : List Int} {m : Nat} (hl : l.length = 16 * m) (hok : BytesOk l) : ∀ s ∈ tabS l m, 0 ≤ s.root ∧ s.root < 18446744073709551616 := by
  intro s hs
  obtain ⟨i, hi, rfl⟩ := List.mem_map.1 hs
  have hi' := List.mem_range.1 hi
  have b2 := numB_bd 8 (seqB l (16 * i + 8) true) (seqB_len (by omega)) (seqB_ok hok)
  rwa [show (256 : Int) ^ 8 = 18446744073709551616 by decide] at b2

set_option maxRecDepth 100000 in
set_option maxHeartbeats 4000000 in
theorem tableOf_any (A : Option Addr) (m c : Nat) (l : List Int) (w : World) (hl : l.length = 16 * m) (hok : BytesOk l) (hm : m ≤ 256) (hr : Rd w w.heap.size 1 A (16 * m) (l.flatMap encB)) :
    Calls Try.prog 45 #[.slice A (16 * m) c] w fun e w' => ((sputOk (tabS l m) = true ∧ steBytes (tabS l m) = l ∧ ∃ A' c', e = .returned (.tuple #[.slice A' m c', .int .i64 0]) ∧ w'.ownsRow w.heap.size 90 3 (.slice A' m c') m ((tabS l m).flatMap encS)) ∨
      (¬ (sputOk (tabS l m) = true ∧ steBytes (tabS l m) = l) ∧ e = .returned (.tuple #[.slice none 0 0, .int .i64 230]))) ∧ Below w.heap.size w w' := by
  have HL := Lib.hid hl
  have HO := Lib.hid hok
  have HR := Lib.hid hr
  clear hl hok hr
  have h16 : ((16 * (m : Int)).tmod 16 != 0) = false := by simp
  have h16' : ((16 * (m : Int)) % 16 != 0) = false := by simp
  go_enter Try.func45, Try.ntmps45
  go_wp2
  go_loopw [4, 5] (fun v i wr => ∃ k : Nat, k ≤ m ∧ i = .int .i64 (16 * (k : Int)) ∧ ∃ A' c', v = .slice A' k c' ∧ wr.ownsRow w.heap.size 90 3 (.slice A' k c') k ((tabS l k).flatMap encS) ∧ Below w.heap.size w wr) (fun _ i _ => 16 * m - (intOf i).toNat)
  case atStart => exact ⟨0, by omega, rfl, none, 0, rfl, World.ownsRow_nil _ _ _ _, Below.refl _ _⟩
  case round =>
    obtain ⟨k, hk, rfl, A', c', rfl, hown, hb⟩ := hrel
    clear h16 h16'
    by_cases hlt : k < m
    · have hwr := hb.size
      have g1 : ∀ W : World, W = wr → Calls Try.prog 73 #[.slice A (16 * m) c, .int .i64 (16 * (k : Int)), .int .i64 8, .bool true] W fun e w' => e = .returned (.tuple #[.int .u64 (numB (seqB l (16 * k) true)), .bool true]) ∧ W = w' := by
        rintro W rfl
        have := refNumber8 A (16 * m) c l (16 * k) true W HL.out HO.out (by omega) (by omega) ((HR.out.below hb).more hb.size)
        rwa [Int.natCast_mul] at this
      have g2 : ∀ W : World, W = wr → Calls Try.prog 73 #[.slice A (16 * m) c, .int .i64 (16 * (k : Int) + 8), .int .i64 8, .bool true] W fun e w' => e = .returned (.tuple #[.int .u64 (numB (seqB l (16 * k + 8) true)), .bool true]) ∧ W = w' := by
        rintro W rfl
        have := refNumber8 A (16 * m) c l (16 * k + 8) true W HL.out HO.out (by omega) (by omega) ((HR.out.below hb).more hb.size)
        rwa [Int.natCast_add, Int.natCast_mul] at this
      have b1 := numB_bd 8 (seqB l (16 * k) true) (seqB_len (by rw [HL.out]; omega)) (seqB_ok HO.out)
      have b2 := numB_bd 8 (seqB l (16 * k + 8) true) (seqB_len (by rw [HL.out]; omega)) (seqB_ok HO.out)
      rw [show (256 : Int) ^ 8 = 18446744073709551616 by decide] at b1 b2
      have hT : tabS l (k + 1) = tabS l k ++ [⟨numB (seqB l (16 * k) true) % 2 == 1, numB (seqB l (16 * k) true) / 65536 % 256, numB (seqB l (16 * k + 8) true)⟩] := tabS_step l k
      generalize numB (seqB l (16 * k) true) = f at *
      generalize numB (seqB l (16 * k + 8) true) = r at *
      have G1 := Lib.hid g1
      have G2 := Lib.hid g2
      have HT := Lib.hid hT
      have HMx := Lib.hid (show k + 1 ≤ maxLen by unfold maxLen; omega)
      have HMy := Lib.hid (show (k + 1) * 24 ≤ 140737488355328 by omega)
      obtain ⟨f0, f1⟩ := b1
      obtain ⟨r0, r1⟩ := b2
      have q1 : bits .and .u64 (f / 65536) 255 = f / 65536 % 256 := and255 _ (by omega) (by omega)
      have q2 : bits .and .u64 f 1 = f % 2 := and1 _ f0 f1
      have i0 : 0 ≤ f / 65536 % 256 := by omega
      have i1 : f / 65536 % 256 ≤ 255 := by omega
      clear g1 g2 hT
      generalize f / 65536 % 256 = id at *
      go_wp2_with (first
        | (go_at_call 73; with_reducible (refine (G1.out _ rfl).mono ?_); rintro e w2 ⟨rfl, rfl⟩)
        | (go_at_call 73; with_reducible (refine (G2.out _ rfl).mono ?_); rintro e w2 ⟨rfl, rfl⟩)
        | (at_builtin; refine wpList_app ste_elem rfl (.tmp 50) (.tmp 52) rfl w.heap.size ((hown.alloc _).alloc _) rfl rfl (Rd.fresh _ _ _ 1 3 _ rfl) (by simp [Value.oneCell']) HMx.out HMy.out (by simp; omega) ?_; intro v5 w5 hown5 hb5 _; obtain ⟨A5, c5, rfl, _, _⟩ := own_slice hown5))
      go_roundw
      case rel =>
        refine ⟨k + 1, by omega, by rw [show 16 * ((k + 1 : Nat) : Int) = 16 * (k : Int) + 16 by omega], A5, c5, rfl, ?_, ((hb.alloc hb.size _).alloc (by simp; omega) _).trans hb5⟩
        rw [HT.out, List.flatMap_append]
        exact hown5
      case measure => simp [intOf]; omega
    · obtain rfl : k = m := by omega
      have HP := Lib.hid (refPutTable_any A' k c' (tabS l k) wr (tabS_len l k) (by omega) (tabS_ok HL.out HO.out) (Rd.of_own hown))
      cases hp : sputOk (tabS l k) with
      | false =>
        have HPF := Lib.hid hp
        clear hp
        go_wp2_with (go_at_call 43; refine HP.out.mono ?_; rintro e w2 ⟨hres, hb2⟩; obtain ⟨hy, _⟩ | ⟨_, rfl⟩ := hres; (exfalso; rw [HPF.out] at hy; cases hy))
        go_ret2
        exact ⟨.inr ⟨fun h => (by have := h.1; rw [HPF.out] at this; cases this), rfl⟩, hb.trans (hb2.mono hb.size)⟩
      | true =>
        have HPF := Lib.hid hp
        clear hp
        have HSL := Lib.hid (show (steBytes (tabS l k)).length = 16 * k by rw [steBytes_len, tabS_len])
        by_cases heq : steBytes (tabS l k) = l
        · have HE := Lib.hid heq
          clear heq
          go_wp2_with (go_at_call 43; refine HP.out.mono ?_; rintro e w2 ⟨hres, hb2⟩; obtain ⟨_, A2, c2, rfl, hown2⟩ | ⟨hn, _⟩ := hres; rotate_left; (exfalso; rw [HPF.out] at hn; cases hn); have s1 := conv_str (Rd.of_own hown2) HSL.out c2; have s2 := conv_str (HR.out.below (hb.trans (hb2.mono hb.size))) HL.out c; rw [HE.out] at s1; have hown3 := own_kept hown hb2)
          go_ret2
          exact ⟨.inl ⟨HPF.out, HE.out, A', c', rfl, hown3⟩, hb.trans (hb2.mono hb.size)⟩
        · have HNE := Lib.hid heq
          have hne : ((strOfNums (steBytes (tabS l k))).toList == (strOfNums l).toList) = false := by
            rw [beq_eq_false_iff_ne]; exact fun h => heq (strOfNums_inj (steBytes_ok _) HO.out h)
          have HS := Lib.hid hne
          clear heq hne
          go_wp2_with (go_at_call 43; refine HP.out.mono ?_; rintro e w2 ⟨hres, hb2⟩; obtain ⟨_, A2, c2, rfl, hown2⟩ | ⟨hn, _⟩ := hres; rotate_left; (exfalso; rw [HPF.out] at hn; cases hn); have s1 := conv_str (Rd.of_own hown2) HSL.out c2; have s2 := conv_str (HR.out.below (hb.trans (hb2.mono hb.size))) HL.out c; have hne := HS.out)
          go_ret2
          exact ⟨.inr ⟨fun h => HNE.out h.2, rfl⟩, hb.trans (hb2.mono hb.size)⟩
end Go.Proofs.Ytklbdjbichfajaa
