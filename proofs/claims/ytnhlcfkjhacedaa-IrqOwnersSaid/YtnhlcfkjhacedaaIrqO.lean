/- Chapter 22, routes as bytes: bytes as routes, the program's and the document's. -/
import Derived.Test.YtnhlcfkjhacedaaIrqQ
import Derived.Deep.RegionLaw
namespace Go.Proofs.Ytnhlcfkjhacedaa
set_option linter.unusedVariables false
open Go.RowKit Go.Sort

def routeOf (l : List Int) (i : Nat) : Rt := ⟨l.getD (4 * i) 0 - 1, l.getD (4 * i + 1) 0, l.getD (4 * i + 2) 0 == 1⟩
def tabR (l : List Int) (m : Nat) : List Rt := (List.range m).map (routeOf l)
def chunkR (l : List Int) (i : Nat) : Bool := decide (l.getD (4 * i + 2) 0 ≤ 1) && decide (l.getD (4 * i + 3) 0 = 0) && (routeOf l i).may
theorem tabR_len (l : List Int) (m : Nat) : (tabR l m).length = m := by simp [tabR]
theorem tabR_step (l : List Int) (k : Nat) : tabR l (k + 1) = tabR l k ++ [routeOf l k] := by simp [tabR, List.range_succ]
theorem tabR_all (l : List Int) (m : Nat) (h : ∀ i, i < m → chunkR l i = true) : (tabR l m).all Rt.may = true := by
  rw [List.all_eq_true]
  intro r hr
  obtain ⟨i, hi, rfl⟩ := List.mem_map.1 hr
  have := h i (List.mem_range.1 hi)
  simp [chunkR] at this
  exact this.2
theorem getD_take4 (l : List Int) (k : Nat) (h : 4 * k + 4 ≤ l.length) : l.take (4 * (k + 1)) = l.take (4 * k) ++ [l.getD (4 * k) 0, l.getD (4 * k + 1) 0, l.getD (4 * k + 2) 0, l.getD (4 * k + 3) 0] := by
  have g : ∀ j, j < l.length → l.take (j + 1) = l.take j ++ [l.getD j 0] := fun j hj => by
    rw [List.take_succ_eq_append_getElem hj, List.getD_eq_getElem?_getD, List.getElem?_eq_getElem hj]; rfl
  rw [show 4 * (k + 1) = 4 * k + 1 + 1 + 1 + 1 by omega, g _ (by omega), g _ (by omega), g _ (by omega), g _ (by omega)]
  simp
theorem edgeB_of {x : Int} (h : x = 0 ∨ x = 1) : edgeB (x == 1) = x := by rcases h with rfl | rfl <;> rfl
theorem bytes_of (l : List Int) (hok : BytesOk l) (i : Nat) (h : 4 * i + 4 ≤ l.length) (hc : chunkR l i = true) : (routeOf l i).bytes = [l.getD (4 * i) 0, l.getD (4 * i + 1) 0, l.getD (4 * i + 2) 0, l.getD (4 * i + 3) 0] := by
  simp only [chunkR, Bool.and_eq_true, decide_eq_true_eq] at hc
  have h2 : 0 ≤ l.getD (4 * i + 2) 0 := by
    rw [List.getD_eq_getElem?_getD, List.getElem?_eq_getElem (by omega)]
    exact (hok _ (List.getElem_mem _)).1
  obtain ⟨⟨h1, h3⟩, _⟩ := hc
  rw [h3]
  simp only [routeOf, Rt.bytes]
  rw [edgeB_of (by omega), Int.sub_add_cancel]
theorem tab_of (l : List Int) (m : Nat) (hl : l.length = 4 * m) (hok : BytesOk l) (hm : m ≤ 1020) (h : ∀ i, i < m → chunkR l i = true) : rputOk (tabR l m) = true ∧ rBytes (tabR l m) = l := by
  constructor
  · unfold rputOk
    rw [tabR_len, tabR_all l m h]
    simpa using hm
  · have key : ∀ k, k ≤ m → rBytes (tabR l k) = l.take (4 * k) := by
      intro k
      induction k with
      | zero => intro _; rfl
      | succ k ih =>
        intro hk
        rw [tabR_step, rBytes_snoc, ih (by omega), getD_take4 l k (by omega), bytes_of l hok k (by omega) (h k (by omega))]
    have := key m (Nat.le_refl _)
    rwa [← hl, List.take_length] at this
theorem rBytes_at : ∀ (l : List Rt) (i j : Nat) (h : i < l.length) (hj : j < 4), (rBytes l).getD (4 * i + j) 0 = (l[i]).bytes.getD j 0
  | [], i, _, h, _ => absurd h (by simp)
  | r :: l, 0, j, _, hj => by
    have : rBytes (r :: l) = r.bytes ++ rBytes l := by simp [rBytes]
    rw [this, Nat.mul_zero, Nat.zero_add, List.getD_eq_getElem?_getD, List.getElem?_append_left (by simpa [Rt.bytes] using hj), List.getD_eq_getElem?_getD]
    rfl
  | r :: l, i + 1, j, h, hj => by
    have : rBytes (r :: l) = r.bytes ++ rBytes l := by simp [rBytes]
    have hb : r.bytes.length = 4 := rfl
    rw [this, List.getD_eq_getElem?_getD, List.getElem?_append_right (by rw [hb]; omega), hb, show 4 * (i + 1) + j - 4 = 4 * i + j by omega, ← List.getD_eq_getElem?_getD, rBytes_at l i j (by simpa using h) hj]
    rfl
theorem route_back (l : List Rt) (i : Nat) (h : i < l.length) : routeOf (rBytes l) i = l[i] ∧ (l.all Rt.may = true → chunkR (rBytes l) i = true) := by
  have b0 := rBytes_at l i 0 h (by omega)
  have b1 := rBytes_at l i 1 h (by omega)
  have b2 := rBytes_at l i 2 h (by omega)
  have b3 := rBytes_at l i 3 h (by omega)
  have hm := fun (ha : l.all Rt.may = true) => List.all_eq_true.1 ha _ (List.getElem_mem h)
  rw [Nat.add_zero] at b0
  have hr : routeOf (rBytes l) i = l[i] := by
    unfold routeOf
    rw [b0, b1, b2]
    generalize l[i] = r
    obtain ⟨own, cpu, edge⟩ := r
    cases edge <;> simp [Rt.bytes, edgeB]
  refine ⟨hr, fun ha => ?_⟩
  unfold chunkR
  rw [hr, hm ha, b2, b3]
  generalize l[i] = r
  obtain ⟨own, cpu, edge⟩ := r
  cases edge <;> simp [Rt.bytes, edgeB]
theorem tab_back (l : List Rt) : tabR (rBytes l) l.length = l := by
  refine List.ext_getElem (by simp [tabR]) fun i h1 h2 => ?_
  simp only [tabR, List.getElem_map, List.getElem_range]
  exact (route_back l i h2).1
theorem chunks_of (l : List Int) (m : Nat) (h : rputOk (tabR l m) = true ∧ rBytes (tabR l m) = l) : ∀ i, i < m → chunkR l i = true := by
  intro i hi
  obtain ⟨h1, h2⟩ := h
  unfold rputOk at h1
  simp only [Bool.and_eq_true] at h1
  have := (route_back (tabR l m) i (by rw [tabR_len]; exact hi)).2 h1.2
  rwa [h2] at this

/-- Routes out of bytes, or refused. -/
def RofRes (l : List Int) (m : Nat) (w : World) (e : Ending) (w' : World) : Prop :=
  ((rputOk (tabR l m) = true ∧ rBytes (tabR l m) = l) ∧ (∃ A' c', e = .returned (.tuple #[.slice A' m c', .int .i64 0]) ∧ w'.ownsRow w.heap.size 58 3 (.slice A' m c') m ((tabR l m).flatMap encR)) ∨
    ¬ (rputOk (tabR l m) = true ∧ rBytes (tabR l m) = l) ∧ e = .returned (.tuple #[.slice none 0 0, .int .i64 220])) ∧ Below w.heap.size w w'

set_option maxRecDepth 100000 in
set_option maxHeartbeats 8000000 in
theorem rof_any (A : Option Addr) (m c : Nat) (l : List Int) (w : World) (hl : l.length = 4 * m) (hok : BytesOk l) (hm : m ≤ 1020) (hr : Rd w w.heap.size 1 A (4 * m) (l.flatMap encB)) :
    Calls Try.prog 28 #[.slice A (4 * m) c] w (RofRes l m w) := by
  have HYes := Lib.hid (tab_of l m hl hok hm)
  have HNo := Lib.hid (chunks_of l m)
  have HL := Lib.hid hl
  have HO := Lib.hid hok
  have HR := Lib.hid hr
  clear hl hok hr
  have h16 : ((4 * (m : Int)).tmod 4 != 0) = false := by simp
  have h16' : ((4 * (m : Int)) % 4 != 0) = false := by simp
  go_enter Try.func28, Try.ntmps28
  go_wp2
  go_loopw [4, 5] (fun v i wr => ∃ k : Nat, k ≤ m ∧ i = .int .i64 (4 * (k : Int)) ∧ Hid (∀ j, j < k → chunkR l j = true) ∧ ∃ A' c', v = .slice A' k c' ∧ wr.ownsRow w.heap.size 58 3 (.slice A' k c') k ((tabR l k).flatMap encR) ∧ Below w.heap.size w wr) (fun _ i _ => 4 * m - (intOf i).toNat)
  case atStart => exact ⟨0, by omega, rfl, Lib.hid fun j hj => absurd hj (by omega), none, 0, rfl, World.ownsRow_nil _ _ _ _, Below.refl _ _⟩
  case round =>
    obtain ⟨k, hk, rfl, hall, A', c', rfl, hown, hb⟩ := hrel
    clear h16 h16'
    by_cases hlt : k < m
    · obtain ⟨b, o, rfl, hbb, hc⟩ := (HR.out.below hb).cells (by omega)
      have hcl : ∀ j, j < 4 → wr.cell? ⟨b, o + (4 * k + j), none⟩ = some (.int .u8 (l.getD (4 * k + j) 0)) := fun j hj => by
        rw [hc (4 * k + j) (by omega)]
        have := flatMap_get (enc := encB) (s := 1) (fun _ => rfl) l (4 * k + j) 0 (by omega) (by rw [HL.out]; omega)
        rw [Nat.mul_one, Nat.add_zero] at this
        rw [this, List.getD_eq_getElem?_getD, List.getElem?_eq_getElem (l := l) (by rw [HL.out]; omega)]
        rfl
      have d0 := hcl 0 (by omega)
      have d1 := hcl 1 (by omega)
      have d2 := hcl 2 (by omega)
      have d3 := hcl 3 (by omega)
      have hbd : ∀ j, j < 4 → 0 ≤ l.getD (4 * k + j) 0 ∧ l.getD (4 * k + j) 0 < 256 := fun j hj => by
        rw [List.getD_eq_getElem?_getD, List.getElem?_eq_getElem (by rw [HL.out]; omega)]
        exact HO.out _ (List.getElem_mem _)
      have b0 := hbd 0 (by omega)
      have b1 := hbd 1 (by omega)
      have b2 := hbd 2 (by omega)
      have b3 := hbd 3 (by omega)
      have hch : chunkR l k = (decide (l.getD (4 * k + 2) 0 ≤ 1) && decide (l.getD (4 * k + 3) 0 = 0) && (⟨l.getD (4 * k + 0) 0 - 1, l.getD (4 * k + 1) 0, l.getD (4 * k + 2) 0 == 1⟩ : Rt).may) := rfl
      have HT := Lib.hid (show tabR l (k + 1) = tabR l k ++ [⟨l.getD (4 * k + 0) 0 - 1, l.getD (4 * k + 1) 0, l.getD (4 * k + 2) 0 == 1⟩] from tabR_step l k)
      clear hcl hbd hc
      rw [Nat.add_zero (4 * k)] at d0
      generalize l.getD (4 * k + 0) 0 = x0 at *
      generalize l.getD (4 * k + 1) 0 = x1 at *
      generalize l.getD (4 * k + 2) 0 = x2 at *
      generalize l.getD (4 * k + 3) 0 = x3 at *
      have HAll : Hid (chunkR l k = true → ∀ j, j < k + 1 → chunkR l j = true) := Lib.hid fun h j hj => by
        rcases Nat.lt_or_ge j k with h1 | h1
        · exact hall.out j h1
        · obtain rfl : j = k := by omega
          exact h
      have HBad : Hid (chunkR l k = false → ¬ (rputOk (tabR l m) = true ∧ rBytes (tabR l m) = l)) := Lib.hid fun h h' => by
        have := HNo.out h' k hlt
        rw [h] at this; cases this
      have hwr := hb.size
      have HMx := Lib.hid (show k + 1 ≤ maxLen by unfold maxLen; omega)
      have HMy := Lib.hid (show (k + 1) * 24 ≤ 140737488355328 by omega)
      have HY := Lib.hid (fun W => rmay_any ⟨x0 - 1, x1, x2 == 1⟩ W)
      generalize (⟨x0 - 1, x1, x2 == 1⟩ : Rt).may = my at *
      have i1 : IntKind.i64.wrap (4 * (k : Int) + 1) = 4 * (k : Int) + 1 := IntWalk.i64_in _ (by omega)
      have n1 : (4 * (k : Int) + 1).toNat = 4 * k + 1 := by omega
      have n2 : (4 * (k : Int) + 2).toNat = 4 * k + 2 := by omega
      have n3 : (4 * (k : Int) + 3).toNat = 4 * k + 3 := by omega
      have n0 : (4 * (k : Int)).toNat = 4 * k := by omega
      have z0 : 0 ≤ 4 * (k : Int) := by omega
      have hbw : b < wr.heap.size := Nat.lt_of_lt_of_le hbb hwr
      go_wp2
      go_region
      generalize hw3 : (wr.alloc (.cells #[.int .i64 (x0 - 1), .int .i64 x1, .bool (x2 == 1)] 58)).drew = w3
      have hb3 : RowKit.Below wr.heap.size wr w3 := by rw [← hw3]; exact (bal (Below.refl _ _) _).drew
      have hB3 : Blk w3 wr.heap.size 58 #[.int .i64 (x0 - 1), .int .i64 x1, .bool (x2 == 1)] := by rw [← hw3]; exact (Blk.new _ _ _).drew
      clear hw3
      have d2' := (hb3.cell (p := ⟨b, o + (4 * k + 2), none⟩) hbw).trans d2
      have d3' := (hb3.cell (p := ⟨b, o + (4 * k + 3), none⟩) hbw).trans d3
      have cB3 := hB3.cell
      have hw3b := hb.trans (hb3.mono hwr)
      have hown3 := own_kept hown hb3
      clear d0 d1 d2 d3
      by_cases g2 : 1 < x2
      · have HN := Lib.hid (HBad.out (by rw [hch, decide_eq_false (by omega)]; rfl))
        clear hch
        go_wp2
        go_ret2
        exact ⟨.inr ⟨HN.out, rfl⟩, hw3b⟩
      · by_cases g3 : x3 = 0
        · subst g3
          cases my with
          | false =>
            have HN := Lib.hid (HBad.out (by rw [hch]; simp))
            clear hch
            go_wp2_with (go_at_call 43; refine (HY.out _).mono ?_; rintro e w4 ⟨rfl, hb4⟩)
            go_ret2
            exact ⟨.inr ⟨HN.out, rfl⟩, hw3b.trans (hb4.mono hw3b.size)⟩
          | true =>
            have HA := Lib.hid (HAll.out (by rw [hch, decide_eq_true (by omega)]; rfl))
            clear hch
            go_wp2_with (first
              | (go_at_call 43; refine (HY.out _).mono ?_; rintro e w4 ⟨rfl, hb4⟩; have hB4 := hB3.kept hb4; have cB4 := hB4.cell; have hw4b := hw3b.trans (hb4.mono hw3b.size); have hown4 := own_kept hown3 hb4)
              | (at_builtin; refine wpList_app route_elem rfl (.tmp 60) (.tmp 62) rfl w.heap.size (hown4.alloc _) rfl rfl (Rd.fresh _ _ _ 1 3 _ rfl) (by simp [Value.oneCell']) HMx.out HMy.out (by have := hw4b.size; simp; omega) ?_; intro v5 w5 hown5 hb5 _; obtain ⟨A5, c5, rfl, _, _⟩ := own_slice hown5))
            go_roundw
            case rel =>
              refine ⟨k + 1, by omega, by rw [show 4 * ((k + 1 : Nat) : Int) = 4 * (k : Int) + 4 by omega], HA.out, A5, c5, rfl, ?_, (bal' hw4b _ hw4b.size).trans hb5⟩
              rw [HT.out, List.flatMap_append]
              exact hown5
            case measure => simp [intOf]; omega
        · have HN := Lib.hid (HBad.out (by rw [hch, decide_eq_false g3]; simp))
          have g4 : (x3 != 0) = true := by rw [bne_iff_ne]; exact g3
          clear hch g3
          go_wp2
          go_ret2
          exact ⟨.inr ⟨HN.out, rfl⟩, hw3b⟩
    · obtain rfl : k = m := by omega
      have HG := Lib.hid (HYes.out hall.out)
      go_wp2
      go_ret2
      exact ⟨.inl ⟨HG.out, A', c', rfl, hown⟩, hb⟩

set_option maxHeartbeats 1000000 in
theorem rofOut_any (A : Option Addr) (n c : Nat) (w : World) (hn : n ≤ 1000000) (h : n % 4 ≠ 0 ∨ 4080 < n) :
    Calls Try.prog 28 #[.slice A n c] w fun e w' => e = .returned (.tuple #[.slice none 0 0, .int .i64 220]) ∧ Below w.heap.size w w' := by
  by_cases h1 : n % 4 = 0
  · have h2 : 4080 < n := by omega
    have e1 : (((n : Int) % 4) != 0) = false := by rw [bne_eq_false_iff_eq]; omega
    clear h h1
    go_enter Try.func28, Try.ntmps28
    go_wp2
    go_ret2
    exact ⟨rfl, Below.refl _ _⟩
  · have e1 : (((n : Int) % 4) != 0) = true := by rw [bne_iff_ne]; omega
    clear h h1
    go_enter Try.func28, Try.ntmps28
    go_wp2
    go_ret2
    exact ⟨rfl, Below.refl _ _⟩
theorem refRofOut_any (A : Option Addr) (n c : Nat) (w : World) (hn : n ≤ 1000000) (h : n % 4 ≠ 0 ∨ 4080 < n) :
    Calls Try.prog 29 #[.slice A n c] w fun e w' => e = .returned (.tuple #[.slice none 0 0, .int .i64 220]) ∧ Below w.heap.size w w' := by
  by_cases h1 : n % 4 = 0
  · have h2 : 4080 < n := by omega
    have e1 : (((n : Int) % 4) != 0) = false := by rw [bne_eq_false_iff_eq]; omega
    clear h h1
    go_enter Try.func29, Try.ntmps29
    go_wp2
    go_ret2
    exact ⟨rfl, Below.refl _ _⟩
  · have e1 : (((n : Int) % 4) != 0) = true := by rw [bne_iff_ne]; omega
    clear h h1
    go_enter Try.func29, Try.ntmps29
    go_wp2
    go_ret2
    exact ⟨rfl, Below.refl _ _⟩

set_option maxRecDepth 100000 in
set_option maxHeartbeats 8000000 in
theorem refRof_any (A : Option Addr) (m c : Nat) (l : List Int) (w : World) (hl : l.length = 4 * m) (hok : BytesOk l) (hm : m ≤ 1020) (hr : Rd w w.heap.size 1 A (4 * m) (l.flatMap encB)) :
    Calls Try.prog 29 #[.slice A (4 * m) c] w (RofRes l m w) := by
  have HL := Lib.hid hl
  have HO := Lib.hid hok
  have HR := Lib.hid hr
  clear hl hok hr
  have h16 : ((4 * (m : Int)).tmod 4 != 0) = false := by simp
  have h16' : ((4 * (m : Int)) % 4 != 0) = false := by simp
  go_enter Try.func29, Try.ntmps29
  go_wp2
  go_loopw [4, 5] (fun v i wr => ∃ k : Nat, k ≤ m ∧ i = .int .i64 (4 * (k : Int)) ∧ ∃ A' c', v = .slice A' k c' ∧ wr.ownsRow w.heap.size 58 3 (.slice A' k c') k ((tabR l k).flatMap encR) ∧ Below w.heap.size w wr) (fun _ i _ => 4 * m - (intOf i).toNat)
  case atStart => exact ⟨0, by omega, rfl, none, 0, rfl, World.ownsRow_nil _ _ _ _, Below.refl _ _⟩
  case round =>
    obtain ⟨k, hk, rfl, A', c', rfl, hown, hb⟩ := hrel
    clear h16 h16'
    by_cases hlt : k < m
    · obtain ⟨b, o, hA, hbb, hc⟩ := (HR.out.below hb).cells (by omega)
      have hcl : ∀ j, j < 4 → wr.cell? ⟨b, o + (4 * k + j), none⟩ = some (.int .u8 (l.getD (4 * k + j) 0)) := fun j hj => by
        rw [hc (4 * k + j) (by omega)]
        have := flatMap_get (enc := encB) (s := 1) (fun _ => rfl) l (4 * k + j) 0 (by omega) (by rw [HL.out]; omega)
        rw [Nat.mul_one, Nat.add_zero] at this
        rw [this, List.getD_eq_getElem?_getD, List.getElem?_eq_getElem (l := l) (by rw [HL.out]; omega)]
        rfl
      have d0 := hcl 0 (by omega)
      have d1 := hcl 1 (by omega)
      have d2 := hcl 2 (by omega)
      have HT := Lib.hid (show tabR l (k + 1) = tabR l k ++ [⟨l.getD (4 * k + 0) 0 - 1, l.getD (4 * k + 1) 0, l.getD (4 * k + 2) 0 == 1⟩] from tabR_step l k)
      have hbd : ∀ j, j < 4 → 0 ≤ l.getD (4 * k + j) 0 ∧ l.getD (4 * k + j) 0 < 256 := fun j hj => by
        rw [List.getD_eq_getElem?_getD, List.getElem?_eq_getElem (by rw [HL.out]; omega)]
        exact HO.out _ (List.getElem_mem _)
      have b0 := hbd 0 (by omega)
      have b1 := hbd 1 (by omega)
      have b2 := hbd 2 (by omega)
      clear hcl hc hbd
      subst hA
      rw [Nat.add_zero (4 * k)] at d0
      generalize l.getD (4 * k + 0) 0 = x0 at *
      generalize l.getD (4 * k + 1) 0 = x1 at *
      generalize l.getD (4 * k + 2) 0 = x2 at *
      have hwr := hb.size
      have HMx := Lib.hid (show k + 1 ≤ maxLen by unfold maxLen; omega)
      have HMy := Lib.hid (show (k + 1) * 24 ≤ 140737488355328 by omega)
      have i1 : IntKind.i64.wrap (4 * (k : Int) + 1) = 4 * (k : Int) + 1 := IntWalk.i64_in _ (by omega)
      have n1 : (4 * (k : Int) + 1).toNat = 4 * k + 1 := by omega
      have n2 : (4 * (k : Int) + 2).toNat = 4 * k + 2 := by omega
      have n0 : (4 * (k : Int)).toNat = 4 * k := by omega
      have z0 : 0 ≤ 4 * (k : Int) := by omega
      have hbw : b < wr.heap.size := Nat.lt_of_lt_of_le hbb hwr
      have eD : ∀ (d : Nat) (os : Array Obj) (j : Nat) (v : Value), wr.cell? ⟨b, o + j, none⟩ = some v → (grow (redrawn wr d) os).cell? ⟨b, o + j, none⟩ = some v := fun d os j v h => ((below_regrown wr d os).cell (p := ⟨b, o + j, none⟩) hbw).trans h
      have e0 := fun d os => eD d os (4 * k) _ d0
      have e1 := fun d os => eD d os (4 * k + 1) _ d1
      have e2 := fun d os => eD d os (4 * k + 2) _ d2
      clear eD
      have v0 : IntKind.i64.wrap x0 = x0 := IntWalk.i64_in _ (by omega)
      have v0' : IntKind.i64.wrap (x0 - 1) = x0 - 1 := IntWalk.i64_in _ (by omega)
      have v1 : IntKind.i64.wrap x1 = x1 := IntWalk.i64_in _ (by omega)
      have i2 : IntKind.i64.wrap (4 * (k : Int) + 2) = 4 * (k : Int) + 2 := IntWalk.i64_in _ (by omega)
      have z1 : 0 ≤ 4 * (k : Int) + 1 := by omega
      have z2 : 0 ≤ 4 * (k : Int) + 2 := by omega
      have y0 : 4 * (k : Int) < 4 * (m : Int) := by omega
      have y1 : 4 * (k : Int) + 1 < 4 * (m : Int) := by omega
      have y2 : 4 * (k : Int) + 2 < 4 * (m : Int) := by omega
      have x0' : 4 * k < 4 * m := by omega
      have x1' : 4 * k + 1 < 4 * m := by omega
      have x2' : 4 * k + 2 < 4 * m := by omega
      have HZ := Lib.hid (show w.heap.size ≤ ((wr.alloc (.cells #[.int .i64 (x0 - 1), .int .i64 x1, .bool (x2 == 1)] 58)).drew).heap.size from by simpa using Nat.le_succ_of_le hwr)
      have ho3 := own_kept hown (below_drewN (bal (Below.refl wr.heap.size wr) (.cells #[.int .i64 (x0 - 1), .int .i64 x1, .bool (x2 == 1)] 58)) 1)
      clear e0 e1 e2
      go_wp2
      go_region_law
        ((refine step_app route_elem (by rfl) (.tmp 23) (.tmp 43) (by rfl) w.heap.size ho3 (by rfl) (by rfl) (Rd.fresh _ _ _ 1 3 _ rfl) (by intro u hu; simp at hu; rcases hu with rfl | rfl | rfl <;> rfl) HMx.out HMy.out HZ.out ?_; intro A5 c5 w5 hown5 hb5 hgr))
      all_goals have hw3b := (bal hb (.cells #[.int .i64 (x0 - 1), .int .i64 x1, .bool (x2 == 1)] 58)).drew
      all_goals go_wp2
      all_goals first
        | (refine ⟨⟨k + 1, by omega, by rw [show 4 * ((k + 1 : Nat) : Int) = 4 * (k : Int) + 4 by omega], A5, c5, rfl, ?_, hw3b.trans hb5⟩, by simp [intOf]; omega⟩
           rw [HT.out, List.flatMap_append]
           exact hown5)
    · obtain rfl : k = m := by omega
      have HP := Lib.hid (refPutRoutes_any A' k c' (tabR l k) wr (tabR_len l k) (by omega) (Rd.of_own hown))
      cases hp : rputOk (tabR l k) with
      | false =>
        have HPF := Lib.hid hp
        clear hp
        go_wp2_with (go_at_call 27; refine HP.out.mono ?_; rintro e w2 ⟨hres, hb2⟩; obtain ⟨hy, _⟩ | ⟨_, rfl⟩ := hres; (exfalso; rw [HPF.out] at hy; cases hy))
        go_ret2
        exact ⟨.inr ⟨fun h => (by have := h.1; rw [HPF.out] at this; cases this), rfl⟩, hb.trans (hb2.mono hb.size)⟩
      | true =>
        have HPF := Lib.hid hp
        have hall : (tabR l k).all Rt.may = true := by unfold rputOk at hp; simp only [Bool.and_eq_true] at hp; exact hp.2
        have HOk := Lib.hid (rBytes_ok hall)
        clear hp hall
        have HSL := Lib.hid (show (rBytes (tabR l k)).length = 4 * k by rw [rBytes_len, tabR_len])
        by_cases heq : rBytes (tabR l k) = l
        · have HE := Lib.hid heq
          clear heq
          go_wp2_with (go_at_call 27; refine HP.out.mono ?_; rintro e w2 ⟨hres, hb2⟩; obtain ⟨_, A2, c2, rfl, hown2⟩ | ⟨hn, _⟩ := hres; rotate_left; (exfalso; rw [HPF.out] at hn; cases hn); have s1 := conv_str (Rd.of_own hown2) HSL.out c2; have s2 := conv_str (HR.out.below (hb.trans (hb2.mono hb.size))) HL.out c; rw [HE.out] at s1; have hown3 := own_kept hown hb2)
          go_ret2
          exact ⟨.inl ⟨⟨HPF.out, HE.out⟩, A', c', rfl, hown3⟩, hb.trans (hb2.mono hb.size)⟩
        · have HNE := Lib.hid heq
          have hne : ((strOfNums (rBytes (tabR l k))).toList == (strOfNums l).toList) = false := by
            rw [beq_eq_false_iff_ne]; exact fun h => heq (strOfNums_inj HOk.out HO.out h)
          have HS := Lib.hid hne
          clear heq hne
          go_wp2_with (go_at_call 27; refine HP.out.mono ?_; rintro e w2 ⟨hres, hb2⟩; obtain ⟨_, A2, c2, rfl, hown2⟩ | ⟨hn, _⟩ := hres; rotate_left; (exfalso; rw [HPF.out] at hn; cases hn); have s1 := conv_str (Rd.of_own hown2) HSL.out c2; have s2 := conv_str (HR.out.below (hb.trans (hb2.mono hb.size))) HL.out c; have hne := HS.out)
          go_ret2
          exact ⟨.inr ⟨fun h => HNE.out h.2, rfl⟩, hb.trans (hb2.mono hb.size)⟩
end Go.Proofs.Ytnhlcfkjhacedaa
