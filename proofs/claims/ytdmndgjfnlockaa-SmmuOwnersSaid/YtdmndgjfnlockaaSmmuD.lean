/- Chapter 23: entries that are put are read as they were; the law SmmuBack. -/
import Derived.Test.YtdmndgjfnlockaaSmmuC
namespace Go.Proofs.Ytdmndgjfnlockaa
set_option linter.unusedVariables false
open Go.RowKit Go.Sort Go.ChangeShapes Go.WideShapes

theorem byteN_step (x : Int) (j : Nat) : x / 2 ^ (8 * j) = x / 2 ^ (8 * (j + 1)) * 256 + byteN x j := by
  unfold byteN
  have e : (2 : Int) ^ (8 * (j + 1)) = 2 ^ (8 * j) * 256 := by rw [show 8 * (j + 1) = 8 * j + 8 by omega, Int.pow_add]; rfl
  rw [e, ← Int.ediv_ediv_of_nonneg (Int.le_of_lt (Int.pow_pos (by decide)))]
  omega
theorem numB_back (x : Int) (h0 : 0 ≤ x) (h1 : x < 18446744073709551616) : numB ((bytesOf true x).reverse) = x := by
  have e : (bytesOf true x).reverse = [byteN x 7, byteN x 6, byteN x 5, byteN x 4, byteN x 3, byteN x 2, byteN x 1, byteN x 0] := rfl
  have a0 := byteN_step x 0
  have a1 := byteN_step x 1
  have a2 := byteN_step x 2
  have a3 := byteN_step x 3
  have a4 := byteN_step x 4
  have a5 := byteN_step x 5
  have a6 := byteN_step x 6
  have a7 := byteN_step x 7
  have a8 : x / 2 ^ (8 * (7 + 1)) = 0 := Int.ediv_eq_zero_of_lt h0 (by simpa using h1)
  rw [e]
  simp only [numB, List.foldl_cons, List.foldl_nil]
  rw [show x / 2 ^ (8 * 0) = x by simp] at a0
  generalize x / 2 ^ (8 * (0 + 1)) = y1 at *
  rw [a8] at a7
  clear a8
  simp only [Nat.reduceAdd, Nat.reduceMul] at *
  omega
theorem bytesOf_ok (low : Bool) (x : Int) : BytesOk (bytesOf low x) := by
  intro y hy
  obtain ⟨i, _, rfl⟩ := List.mem_map.1 hy
  unfold byteN
  omega
theorem steBytes_ok (l : List Ste) : BytesOk (steBytes l) := by
  intro y hy
  obtain ⟨x, _, hx⟩ := List.mem_flatMap.1 hy
  exact bytesOf_ok _ _ y hx
theorem steBytes_drop : ∀ (l : List Ste) (i : Nat), (steBytes l).drop (16 * i) = steBytes (l.drop i)
  | [], i => by simp [steBytes]
  | s :: l, 0 => by simp
  | s :: l, i + 1 => by
    have ih := steBytes_drop l i
    have e : steBytes (s :: l) = (bytesOf true s.first ++ bytesOf true s.root) ++ steBytes l := by simp [steBytes, Ste.words]
    have h16 : (bytesOf true s.first ++ bytesOf true s.root).length = 16 := by simp [bytesOf_len]
    rw [e, show 16 * (i + 1) = (bytesOf true s.first ++ bytesOf true s.root).length + 16 * i by rw [h16]; omega, List.drop_length_add_append, ih]
    rfl
theorem chunk_back (l : List Ste) (i : Nat) (h : i < l.length) (hr : ∀ s ∈ l, 0 ≤ s.root ∧ s.root < 18446744073709551616) (hm : l.all Ste.may = true) : chunkS (steBytes l) i = some l[i] := by
  have hd := steBytes_drop l i
  rw [List.drop_eq_getElem_cons h] at hd
  have h1 := hr _ (List.getElem_mem h)
  have h2 := List.all_eq_true.1 hm _ (List.getElem_mem h)
  generalize l[i] = s at *
  have e : steBytes (s :: l.drop (i + 1)) = bytesOf true s.first ++ (bytesOf true s.root ++ steBytes (l.drop (i + 1))) := by simp [steBytes, Ste.words]
  have s1 : seqB (steBytes l) (16 * i) true = (bytesOf true s.first).reverse := by
    unfold seqB
    rw [if_pos rfl, hd, e, List.take_append_of_le_length (by rw [bytesOf_len]; exact Nat.le_refl _), List.take_of_length_le (by rw [bytesOf_len]; exact Nat.le_refl _)]
  have s2 : seqB (steBytes l) (16 * i + 8) true = (bytesOf true s.root).reverse := by
    unfold seqB
    rw [if_pos rfl, ← List.drop_drop, hd, e, List.drop_append_of_le_length (by rw [bytesOf_len]; exact Nat.le_refl _), List.drop_of_length_le (by rw [bytesOf_len]; exact Nat.le_refl _), List.nil_append,
      List.take_append_of_le_length (by rw [bytesOf_len]; exact Nat.le_refl _), List.take_of_length_le (by rw [bytesOf_len]; exact Nat.le_refl _)]
  unfold chunkS
  simp only
  obtain ⟨ok, id, root⟩ := s
  simp only at h1
  rw [s1, s2, numB_back root h1.1 h1.2]
  cases ok with
  | false =>
    simp [Ste.may] at h2
    obtain ⟨rfl, rfl⟩ := h2
    rw [numB_back _ (by simp [Ste.first]) (by simp [Ste.first])]
    rfl
  | true =>
    simp [Ste.may] at h2
    obtain ⟨i0, i1, i2⟩ := h2
    have hf : (⟨true, id, root⟩ : Ste).first = 13 + id * 65536 := rfl
    rw [hf, numB_back _ (by omega) (by omega), if_neg (by omega), show (13 + id * 65536) / 65536 % 256 = id by omega, if_pos ⟨rfl, i2⟩]

set_option maxHeartbeats 2000000 in
theorem sameTable_eq (A A2 : Option Addr) (n c c2 : Nat) (l : List Ste) (w : World) (hl : l.length = n) (hn : n ≤ 1000000) (hr : Rd w w.heap.size 3 A n (l.flatMap encS)) (hr2 : Rd w w.heap.size 3 A2 n (l.flatMap encS)) :
    Calls Try.prog 21 #[.slice A n c, .slice A2 n c2] w fun e w' => e = .returned (.bool true) ∧ Below w.heap.size w w' := by
  have HL := Lib.hid hl
  have HR := Lib.hid hr
  have HR2 := Lib.hid hr2
  clear hl hr hr2
  go_enter Try.func21, Try.ntmps21
  go_wp2
  go_loopw [5, 13] (fun _ i wr => ∃ k : Nat, k ≤ n ∧ i = .int .i64 k ∧ Below w.heap.size w wr) (fun _ i _ => n - (intOf i).toNat)
  case atStart => exact ⟨0, by omega, rfl, Below.refl _ _⟩
  case round =>
    obtain ⟨k, hk, rfl, hbr⟩ := hrel
    by_cases hlt : k < n
    · have hlt' : k < l.length := by rw [HL.out]; exact hlt
      obtain ⟨b1, o1, rfl, hb1, hc1⟩ := (HR.out.below hbr).row (fun _ => rfl) hlt' HL.out
      obtain ⟨b2, o2, rfl, hb2, hc2⟩ := (HR2.out.below hbr).row (fun _ => rfl) hlt' HL.out
      have d0 := hc1 0 (by omega)
      have d1 := hc1 1 (by omega)
      have d2 := hc1 2 (by omega)
      have e0 := hc2 0 (by omega)
      have e1 := hc2 1 (by omega)
      have e2 := hc2 2 (by omega)
      simp only [encS, Nat.add_zero, List.getElem?_cons_zero, List.getElem?_cons_succ] at d0 d1 d2 e0 e1 e2
      clear hc1 hc2
      generalize l[k] = s at *
      obtain ⟨ok, id, root⟩ := s
      simp only at *
      have hq : ∀ w, (binOp .neq 52 (.agg #[.bool ok, .int .i64 id, .int .u64 root]) (.agg #[.bool ok, .int .i64 id, .int .u64 root])).run Try.prog w = .ok (.bool false) w := fun w => by rw [ste_neq]; simp
      go_wp2
      go_quiet (fail)
      go_wp2
      go_roundw
      case rel => exact ⟨k + 1, by omega, by go_num, below_drewN hbr _⟩
      case measure => simp [intOf]; omega
    · go_wp2
      go_ret
      exact ⟨rfl, hbr⟩

set_option maxHeartbeats 2000000 in
theorem smmuBack_any (A : Option Addr) (n c : Nat) (l : List Ste) (w : World) (hl : l.length = n) (hm : n ≤ 9223372036854775807) (h0 : ∀ s ∈ l, 0 ≤ s.root ∧ s.root < 18446744073709551616) (hr : Rd w w.heap.size 3 A n (l.flatMap encS)) :
    Calls Try.prog 8 #[.slice A n c] w fun e w' => e = .returned (.bool true) ∧ Below w.heap.size w w' := by
  have HL := Lib.hid hl
  have HR := Lib.hid hr
  have H0 := Lib.hid h0
  clear hl hr h0
  by_cases h300 : n ≤ 300
  · cases hp : sputOk l with
    | false =>
      have HP := Lib.hid hp
      clear hp
      go_enter Try.func8, Try.ntmps8
      go_wp2_with (first
        | (go_at_call 17; refine (awake23_any _).mono ?_; rintro e w1 ⟨rfl, hb1⟩)
        | (go_at_call 22; refine (sput_no A n c l _ HL.out (by omega) (fun s hs => (H0.out s hs).1) ((HR.out.below hb1).more hb1.size) HP.out).mono ?_; rintro e w2 ⟨rfl, hb2⟩))
      go_ret
      exact ⟨rfl, hb1.trans (hb2.mono hb1.size)⟩
    | true =>
      have hp' := hp
      unfold sputOk at hp'
      simp only [Bool.and_eq_true, decide_eq_true_eq] at hp'
      obtain ⟨h256, hmay⟩ := hp'
      have h256' : n ≤ 256 := by rw [HL.out] at h256; exact h256
      have HC := Lib.hid (fun i (h : i < l.length) => chunk_back l i h H0.out hmay)
      have HP := Lib.hid hp
      have HSL := Lib.hid (show (steBytes l).length = 16 * n by rw [steBytes_len, HL.out])
      clear hp hmay h256
      go_enter Try.func8, Try.ntmps8
      go_wp2_with (first
        | (go_at_call 17; refine (awake23_any _).mono ?_; rintro e w1 ⟨rfl, hb1⟩)
        | (go_at_call 22; refine (sput_yes A n c l _ HL.out H0.out ((HR.out.below hb1).more hb1.size) HP.out).mono ?_; rintro e w2 ⟨A2, c2, rfl, hown2, hb2⟩)
        | (go_at_call 24; refine (sof_yes A2 n c2 (steBytes l) l _ HSL.out (steBytes_ok l) h256' HL.out HC.out (Rd.of_own hown2)).mono ?_; rintro e w3 ⟨A3, c3, rfl, hown3, hb3⟩)
        | (go_at_call 21; refine (sameTable_eq A3 A n c3 c l _ HL.out (by omega) (Rd.of_own hown3) ((HR.out.below (hb1.trans ((hb2.trans (hb3.mono hb2.size)).mono hb1.size))).more (Nat.le_trans hb1.size (Nat.le_trans hb2.size hb3.size)))).mono ?_; rintro e w4 ⟨rfl, hb4⟩))
      go_ret
      have b2 := hb1.trans (hb2.mono hb1.size)
      have b3 := b2.trans (hb3.mono b2.size)
      exact ⟨rfl, b3.trans (hb4.mono b3.size)⟩
  · go_enter Try.func8, Try.ntmps8
    go_wp2_with (go_at_call 17; refine (awake23_any _).mono ?_; rintro e w1 ⟨rfl, hb1⟩)
    go_ret
    exact ⟨rfl, hb1⟩

theorem flat_s {cs : List Value} (h : FlatOk [.bool, .int .i64, .int .u64] cs) : ∃ s : Ste, cs = encS s ∧ 0 ≤ s.root ∧ s.root < 18446744073709551616 := by
  match cs, h with
  | [.bool a, .int _ b, .int _ c], ⟨rfl, _, rfl, wc, _⟩ => exact ⟨⟨a, b, c⟩, rfl, wf_nonneg wc, wf_lt wc⟩
theorem maxLen_le {n : Nat} (h : n ≤ maxLen) : n ≤ 9223372036854775807 := by unfold maxLen at h; exact h
set_option maxRecDepth 100000 in
theorem open_stes {H : Type} {enc : TypeId × Value → H} {W : World} {v : Value} {d : DataW H} {p : List MemPlace} {b0 : Nat} {r : Reach}
    (hv : Value.okWide Try.prog W r b0 44 v) (h : DataW.Trod enc Try.prog W 0 (fun _ => true) true 44 v d p) (hlt : ∀ x ∈ p, x.block < W.heap.size) :
    ∃ (A : Option Addr) (n c : Nat) (l : List Ste), v = .slice A n c ∧ n ≤ c ∧ n ≤ maxLen ∧ l.length = n ∧ (∀ s ∈ l, 0 ≤ s.root ∧ s.root < 18446744073709551616) ∧ Rd W W.heap.size 3 A n (l.flatMap encS) := by
  obtain ⟨A, n, cp, xss, rfl, hnc, hcm, hx, hok, hr⟩ := open_rows Try.underlying44 flat_ste (by kernel_rfl) (by decide) hv h hlt
  obtain ⟨l, hl, hf, hb⟩ := list_of_rows (enc := encS) (ok := fun s => 0 ≤ s.root ∧ s.root < 18446744073709551616) xss (fun xs hxs => by obtain ⟨p, rfl, h⟩ := flat_s (hok xs hxs); exact ⟨p, rfl, h⟩)
  rw [hf] at hr
  exact ⟨A, n, cp, l, rfl, hnc, Nat.le_trans hnc hcm, hl.trans hx, hb, hr⟩
set_option maxRecDepth 100000 in
theorem smmuBack_law : LawWalk Try.prog 8 Try.f8 := by
  intro H enc W base args ds p hval hA hlt hfz hsz
  rw [Try.params8] at hA hval
  obtain ⟨v0, d0, rfl, rfl, h0⟩ := trodAll_one hA
  obtain ⟨A, n, c, l, rfl, hnc, hm, hl, hb, hr⟩ := open_stes (hval 0 44 v0 rfl rfl) h0 hlt
  exact smmuBack_any A n c l W hl (maxLen_le hm) hb hr
theorem smmuBack_proved : Rows.SmmuBackSaid :=
  OpenClaim.holds_of_wide 8 Try.f8 rfl rfl rfl rfl rfl rfl rfl ⟨rfl, rfl, rfl, rfl, rfl⟩ rfl rfl rfl rfl rfl (by kernel_rfl) Try.func8 (by kernel_rfl)
    (of_decide_eq_true (by kernel_rfl)) (by unfold Func.isWrapper; rw [if_neg (of_decide_eq_false (by kernel_rfl))]; exact ⟨rfl, rfl⟩)
    (fun os started H enc _ => law_lifted (C := Try.checked) (s := Rows.smmuBackSpec) started own laidOut (by kernel_rfl) Try.func8 rfl (n := 1) (by kernel_rfl) (fun ds h => by match ds, h with | [_], _ => rfl) (tb := 4) (by kernel_rfl) Try.underlying4 (by kernel_rfl)
      (ChangeSpec.witness6 (enc := enc) (C := Try.checked) false ⟨#[], #[.slice none 0 0], []⟩ 8 (by kernel_rfl) (by kernel_rfl) (by kernel_rfl) (by kernel_rfl)) smmuBack_law)
end Go.Proofs.Ytdmndgjfnlockaa
