/- Chapter 14: the parser's cursor; walked. -/
import Derived.Test.YtmhbpfclfffgkaaCfP
import Derived.Test.YtmhbpfclfffgkaaRegT
namespace Go.Proofs.Ytmhbpfclfffgkaa
set_option linter.unusedVariables false
set_option linter.unusedSimpArgs false
open Go.RowKit Go.Sort

/-- What is thrown. -/
abbrev thrownC (a x : Int) : Ending := .panicked [{ v := .iface 115 (.agg #[.int .i64 a, .int .i64 x]), recovered := false }]
theorem must_yes (a x : Int) (w : World) : Calls Try.prog 42 #[.bool true, .int .i64 a, .int .i64 x] w fun e w' => e = .returned (.tuple #[]) ∧ w = w' := by
  go_enter Try.func42, Try.ntmps42
  go_wp2
  go_end0
  exact ⟨rfl, rfl⟩
theorem must_no (a x : Int) (w : World) : Calls Try.prog 42 #[.bool false, .int .i64 a, .int .i64 x] w fun e w' => e = thrownC a x ∧ w = w' := by
  go_enter Try.func42, Try.ntmps42
  go_wp2
  exact ⟨rfl, rfl, rfl⟩
/-- The parser in memory; what it reads lies below B, ahead of its box. -/
structure Prs where
  g : Nat
  A : Option Addr
  n : Nat
  c : Nat
def Prs.cs (p : Prs) (a : Nat) : Array Value := #[.slice p.A p.n p.c, .int .i64 a]
structure PRows (w : World) (p : Prs) (b : List Int) (B : Nat) : Prop where
  hb : b.length = p.n
  ok : BytesOk b
  m : p.n ≤ 65536
  mc : p.n ≤ p.c
  cm : p.c ≤ maxLen
  gB : B ≤ p.g
  r : Rd w B 1 p.A p.n (b.flatMap encB)
theorem PRows.near {w w' : World} {p : Prs} {b : List Int} {B : Nat} (h : PRows w p b B) (hn : Near (fun i => i = p.g) w w') (hg : p.g < w.heap.size) : PRows w' p b B :=
  ⟨h.hb, h.ok, h.m, h.mc, h.cm, h.gB, h.r.below (hn.below (fun i hi => by rw [hi]; exact h.gB) (by have := h.gB; omega))⟩
/-- What a call that reads answers: a value and a new place, or it throws. -/
def POut {α : Type} (p : Prs) (Rv : α → Value → World → Prop) (r : PE α) (w : World) (e : Ending) (w' : World) : Prop :=
  Near (fun i => i = p.g) w w' ∧ ((∃ (a : Nat) (x : Int), r = .error (a, x) ∧ e = thrownC a x) ∨ ∃ (x : α) (a' : Nat) (v : Value), r = .ok (x, a') ∧ e = .returned v ∧ Rv x v w' ∧ Blk w' p.g 56 (p.cs a'))
/-- A call at any place of the bytes. -/
def PCall {α : Type} (f : FuncId) (args : Prs → Array Value) (s : PR α) (Rv : Prs → Nat → α → Value → World → Prop) : Prop :=
  ∀ (p : Prs) (b : List Int) (B a : Nat) (w : World), PRows w p b B → Blk w p.g 56 (p.cs a) → a ≤ p.n → Calls Try.prog f (args p) w (POut p (Rv p B) (s b a) w)
/-- A part of the bytes. -/
def BytesAt (B n : Nat) (l : List Int) (v : Value) (w : World) : Prop := ∃ A c, v = .slice A n c ∧ n ≤ c ∧ c ≤ maxLen ∧ l.length = n ∧ BytesOk l ∧ Rd w B 1 A n (l.flatMap encB)
theorem Rd.sub {w : World} {B n b o : Nat} {l : List Int} (h : Rd w B 1 (some ⟨b, o, none⟩) n (l.flatMap encB)) (hl : l.length = n) {a m : Nat} (ha : a + m ≤ n) : Rd w B 1 (some ⟨b, o + a, none⟩) m (((l.drop a).take m).flatMap encB) := by
  refine ⟨by rw [flatB_len]; simp [hl]; omega, fun hm => ?_⟩
  obtain ⟨b', o', e, hb, hc⟩ := h.2 (by omega)
  simp only [Option.some.injEq, Addr.mk.injEq, and_true] at e
  obtain ⟨rfl, rfl⟩ := e
  refine ⟨b, o + a, rfl, hb, fun j u hu => ?_⟩
  rw [flatB_map] at hu
  have hj : j < m := by
    have := (List.getElem?_eq_some_iff.1 hu).1
    simp at this
    omega
  have h2 := hc (a + j) u (by
    rw [flatB_map, List.getElem?_map]
    rw [List.getElem?_map, List.getElem?_take, if_pos hj, List.getElem?_drop] at hu
    exact hu)
  rw [show o + a + j = o + (a + j) by omega]
  exact h2
set_option maxRecDepth 100000 in
set_option maxHeartbeats 2000000 in
theorem take_any (n : Nat) (h1 : 1 ≤ n) (hn : n ≤ 65536) : PCall 99 (fun p => #[.pointer (some ⟨p.g, 0, none⟩), .int .i64 n]) (takeP n) (fun p B l v w => BytesAt B n l v w) := by
  intro p b B a w hR hB ha
  obtain ⟨g, A, m, c⟩ := p
  obtain ⟨hb, ok, hm, hmc, hcm, hgB, hr⟩ := hR
  simp only [Prs.cs] at hB hb hr hm hmc ha hgB ⊢
  have cB := hB.cell
  have HB := Lib.hid hB
  have hC := blk_regrown hB
  have q1 : IntKind.i64.wrap ((m : Int) - (a : Int)) = (m : Int) - (a : Int) := IntWalk.i64_in _ (by omega)
  by_cases h : a + n ≤ m
  · have q2 : decide ((n : Int) ≤ (m : Int) - (a : Int)) = true := decide_eq_true (by omega)
    go_enter Try.func99, Try.ntmps99
    go_upto_region 1 with (fail)
    refine wp_name ?_
    intro w1 hw1
    subst hw1
    refine wp_region_tail_below 16 (by kernel_rfl) (by kernel_rfl) ?_
    simp only [List.take_succ_cons, List.take_zero, List.drop_succ_cons, List.drop_zero]
    repeat (quiet_step ((fail)))
    refine wpQuiet_nil ?_
    rintro w3 ⟨p, rfl⟩
    have hb3 := below_regrown w1 p.d p.os
    have hB3 := HB.out.kept hb3
    have hr3 := hr.below (hb3.mono (by have := HB.out.lt; omega))
    generalize grow (redrawn w1 p.d) p.os = w3 at *
    clear q2
    have q3 : IntKind.i64.wrap ((a : Int) + (n : Int)) = ((a + n : Nat) : Int) := by rw [IntWalk.i64_in _ (by omega)]; omega
    have cB3 := hB3.cell
    have fB3 := hB3.frozen
    go_upto_region 3 with (go_at_call 42; refine (must_yes _ _ _).mono ?_; rintro e w5 ⟨rfl, rfl⟩)
    have hB4 : Blk (w3.setCell ⟨g, 1, none⟩ (.int .i64 ((a : Int) + (n : Int)))) g 56 #[.slice A m c, .int .i64 ((a : Int) + (n : Int))] := by
      have := hB3.set_ 1 (.int .i64 ((a : Int) + (n : Int)))
      simpa using this
    have hn4 : Near (fun i => i = g) w1 (w3.setCell ⟨g, 1, none⟩ (.int .i64 ((a : Int) + (n : Int)))) := (Near.of_below (fun i => i = g) hb3).setCell (p := ⟨g, 1, none⟩) rfl _
    have hr4 := hr3.setCell (p := ⟨g, 1, none⟩) hgB (.int .i64 ((a : Int) + (n : Int)))
    obtain ⟨bA, oA, rfl, _⟩ := hr4.2 (by omega)
    clear cB3 fB3 hB3 hr3 hb3 cB hC HB hB hr q1 q3
    generalize w3.setCell ⟨g, 1, none⟩ (.int .i64 ((a : Int) + (n : Int))) = w4 at *
    have q4 : IntKind.i64.wrap (a : Int) = (a : Int) := IntWalk.i64_in _ (by omega)
    have f1 : (0 : Int) ≤ (a : Int) := by omega
    have f2 : (a : Int) ≤ (a : Int) + (n : Int) := by omega
    have f3 : (a : Int) + (n : Int) ≤ (c : Int) := by omega
    have f4 : ¬ c = a := by omega
    have hC := blk_regrown hB4
    refine wp_region_tail_below 15 (by kernel_rfl) (by kernel_rfl) ?_
    simp only [List.take_succ_cons, List.take_zero, List.drop_succ_cons, List.drop_zero]
    repeat (quiet_step ((fail)))
    refine wpQuiet_nil ?_
    rintro w5 ⟨p, rfl⟩
    have hb5 := below_regrown w4 p.d p.os
    have hB5 := hB4.kept hb5
    have hn5 : Near (fun i => i = g) w1 (grow (redrawn w4 p.d) p.os) := hn4.trans (Near.of_below _ hb5)
    have hr5 := Rd.sub (hr4.below (hb5.mono (by have := hB4.lt; omega))) hb h
    have e1 : ((a : Int) + (n : Int)).toNat - a = n := by omega
    rw [e1]
    generalize grow (redrawn w4 p.d) p.os = w5 at *
    clear q4 f1 f2 f3 hC hb5
    go_wp2
    go_ret
    refine ⟨hn5, .inr ⟨(b.drop a).take n, a + n, _, takeP_yes (by omega), rfl, ⟨_, _, rfl, by omega, by omega, by rw [List.length_take, List.length_drop]; omega, sub_ok ok a n, hr5⟩, ?_⟩⟩
    simpa [Prs.cs] using hB5
  · have q2 : decide ((n : Int) ≤ (m : Int) - (a : Int)) = false := decide_eq_false (by omega)
    rw [takeP_no (by omega)]
    go_enter Try.func99, Try.ntmps99
    go_upto_region 1 with (fail)
    refine wp_name ?_
    intro w1 hw1
    subst hw1
    refine wp_region_tail_below 16 (by kernel_rfl) (by kernel_rfl) ?_
    simp only [List.take_succ_cons, List.take_zero, List.drop_succ_cons, List.drop_zero]
    repeat (quiet_step ((fail)))
    refine wpQuiet_nil ?_
    rintro w3 ⟨p, rfl⟩
    have hb3 := below_regrown w1 p.d p.os
    generalize grow (redrawn w1 p.d) p.os = w3 at *
    go_wp2_with (go_at_call 42; refine (must_no _ _ _).mono ?_; rintro e w5 ⟨rfl, rfl⟩)
    exact ⟨rfl, Near.of_below _ hb3, .inl ⟨a, 141, rfl, rfl⟩⟩
/-- What a number is made of, on the way. -/
theorem or_shift (x c : Int) (h0 : 0 ≤ x) (h1 : x < 72057594037927936) (k0 : 0 ≤ c) (k1 : c < 256) : bits .or .u64 (x * 256) c = x * 256 + c := or_byte x c h0 h1 k0 k1
set_option maxRecDepth 100000 in
set_option maxHeartbeats 2000000 in
theorem number_any (s : Nat) (most e : Int) (h1 : 1 ≤ s) (h8 : s ≤ 8) (hm : 0 ≤ most ∧ most < 18446744073709551616) : PCall 95 (fun p => #[.pointer (some ⟨p.g, 0, none⟩), .int .i64 s, .int .u64 most, .int .i64 e]) (numP s most e) (fun p B x v w => v = .int .u64 x ∧ 0 ≤ x ∧ x ≤ most) := by
  intro p b B a w hR hB ha
  have HT := Lib.hid (fun W (hW : PRows W p b B) (hB : Blk W p.g 56 (p.cs a)) => take_any s h1 (by omega) p b B a W hW hB ha)
  have HR := Lib.hid hR
  have HB := Lib.hid hB
  have cB := hB.cell
  unfold Prs.cs at cB
  clear hR hB
  go_enter Try.func95, Try.ntmps95
  by_cases h : a + s ≤ p.n
  · rw [takeP_yes (by rw [HR.out.hb]; exact h)] at HT
    go_upto_region 3 with (go_at_call 99; refine (HT.out w HR.out HB.out).mono ?_; rintro e1 w1 ⟨hn1, ⟨_, _, ⟨⟩, _⟩ | ⟨l, a', v, ⟨⟩, rfl, ⟨A, c, rfl, hc, hcm, hl, hok, hr⟩, hB1⟩⟩)
    obtain ⟨bA, oA, rfl, hbA, hcell⟩ := hr.cells (by omega)
    generalize hll : (b.drop a).take s = l at *
    have HC := Lib.hid (fun k (hk : k < s) => show ∃ y, w1.cell? ⟨bA, oA + k, none⟩ = some (.int .u8 y) ∧ 0 ≤ y ∧ y < 256 ∧ numB (l.take (k + 1)) = numB (l.take k) * 256 + y ∧ 0 ≤ numB (l.take k) ∧ numB (l.take k) < 72057594037927936 from by
      have hlk : k < l.length := by omega
      have h2 := flatMap_get (enc := encB) (s := 1) (fun _ => rfl) l k 0 (by omega) hlk
      rw [Nat.mul_one, Nat.add_zero] at h2
      have h3 := hok _ (List.getElem_mem hlk)
      refine ⟨l[k], by rw [hcell k (by omega), h2]; rfl, h3.1, h3.2, by rw [List.take_succ_eq_append_getElem hlk, numB_snoc], ?_⟩
      have h4 := numB_bd k (l.take k) (by rw [List.length_take]; omega) (fun x hx => hok x (List.mem_of_mem_take hx))
      refine ⟨h4.1, Int.lt_of_lt_of_le h4.2 ?_⟩
      exact pw64 k (by omega))
    have HN0 := Lib.hid (numB_bd s l hl hok).1
    have HF := Lib.hid (show l.take s = l from List.take_of_length_le (by omega))
    clear hcell hr hok
    go_loopw [10, 12, 21] (fun x _ i wr => ∃ k : Nat, k ≤ s ∧ i = .int .i64 k ∧ x = .int .u64 (numB (l.take k)) ∧ w1 = wr) (fun _ _ i _ => s - (intOf i).toNat)
    case atStart => exact ⟨0, by omega, rfl, rfl, rfl⟩
    case round =>
      obtain ⟨k, hk, rfl, rfl, rfl⟩ := hrel
      by_cases hlt : k < s
      · obtain ⟨y, d0, y0, y1, hs, x0, x1⟩ := HC.out k hlt
        have HY := Lib.hid (or_shift (numB (l.take k)) y x0 x1 y0 y1)
        have HZ := Lib.hid hs
        clear hs
        generalize numB (l.take k) = x at *
        go_wp2
        go_roundw
        case rel => exact ⟨k + 1, by omega, by go_num, by rw [HZ.out, HY.out], trivial⟩
        case measure => simp [intOf]; omega
      · obtain rfl : k = s := by omega
        rw [HF.out]
        have hne : a + k ≤ b.length := by rw [HR.out.hb]; exact h
        have h0 := HN0.out
        by_cases hmo : numB l ≤ most
        · have HP := Lib.hid (numP_yes (m := most) (e := e) hne (by rw [hll]; exact hmo))
          rw [hll] at HP
          have hd := decide_eq_true hmo
          go_wp2_with (go_at_call 42; refine (must_yes _ _ _).mono ?_; rintro e w5 ⟨rfl, rfl⟩)
          go_ret
          exact ⟨hn1, .inr ⟨_, _, _, HP.out, rfl, ⟨rfl, h0, hmo⟩, hB1⟩⟩
        · have HP := Lib.hid (numP_big (m := most) (e := e) hne (by rw [hll]; exact hmo))
          have hd := decide_eq_false hmo
          go_wp2_with (go_at_call 42; refine (must_no _ _ _).mono ?_; rintro e w5 ⟨rfl, rfl⟩)
          exact ⟨rfl, hn1, .inl ⟨_, _, HP.out, rfl⟩⟩
  · have hne : ¬ a + s ≤ b.length := by rw [HR.out.hb]; exact h
    rw [takeP_no hne] at HT
    rw [numP_short hne]
    go_wp2_with (go_at_call 99; refine (HT.out w HR.out HB.out).mono ?_; rintro e1 w1 ⟨hn1, ⟨_, _, ⟨⟩, rfl⟩ | ⟨l, a', v, ⟨⟩, _⟩⟩)
    exact ⟨rfl, hn1, .inl ⟨_, _, rfl, rfl⟩⟩
end Go.Proofs.Ytmhbpfclfffgkaa
