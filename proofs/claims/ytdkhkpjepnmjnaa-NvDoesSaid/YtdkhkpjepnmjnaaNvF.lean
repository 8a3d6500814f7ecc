/- Chapter 10, the store: power again. -/
import Derived.Test.YtdkhkpjepnmjnaaNvE
namespace Go.Proofs.Ytdkhkpjepnmjnaa
set_option linter.unusedVariables false
open Go.RowKit Go.Sort

/-- A store whose power comes back. -/
def upN (s : Stt) : Stt := { s with on := true, k := 0, cs := s.cs.tail }

/-- The parts of a store. -/
def StoP (w : World) (base : Nat → Prop) (g : Nat) (on : Value) (k : Value) (cv wv : Value) (cs : List (Int × Int)) (ws : List Int) : Prop :=
  Blk w g 100 #[on, k, cv, wv] ∧ base g ∧ CutsOk w base cv cs ∧ OwnS w base 37 1 wv ws.length (ws.flatMap encU)
section
variable {w : World} {base : Nat → Prop} {g : Nat} {on k cv wv : Value} {cs : List (Int × Int)} {ws : List Int}
theorem StoP.row (h : StoP w base g on k cv wv cs ws) (p : Addr) (hp : p.block = g) (u : Value) : OwnS (w.setCell p u) base 37 1 wv ws.length (ws.flatMap encU) :=
  h.2.2.2.set p (by rw [hp]; exact own_blk_ne h.2.2.2.1 h.1 (by decide)) u
theorem StoP.set0 (h : StoP w base g on k cv wv cs ws) (u : Value) : StoP (w.setCell ⟨g, 0, none⟩ u) base g u k cv wv cs ws := ⟨h.1.set_ 0 u, h.2.1, h.2.2.1.far (p := ⟨g, 0, none⟩) h.1 (by decide) u, h.row ⟨g, 0, none⟩ rfl u⟩
theorem StoP.set1 (h : StoP w base g on k cv wv cs ws) (u : Value) : StoP (w.setCell ⟨g, 1, none⟩ u) base g on u cv wv cs ws := ⟨h.1.set_ 1 u, h.2.1, h.2.2.1.far (p := ⟨g, 1, none⟩) h.1 (by decide) u, h.row ⟨g, 1, none⟩ rfl u⟩
theorem StoP.set2 (h : StoP w base g on k cv wv cs ws) {u : Value} {cs' : List (Int × Int)} (hu : CutsOk w base u cs') : StoP (w.setCell ⟨g, 2, none⟩ u) base g on k u wv cs' ws := ⟨h.1.set_ 2 u, h.2.1, hu.far (p := ⟨g, 2, none⟩) h.1 (by decide) u, h.row ⟨g, 2, none⟩ rfl u⟩
end

theorem cuts_tail {w : World} {base : Nat → Prop} {n c : Nat} {p : Int × Int} {cs : List (Int × Int)} {A : Option Addr} (h : CutsOk w base (.slice A n c) (p :: cs)) :
    ∃ g off, A = some ⟨g, off, none⟩ ∧ n = cs.length + 1 ∧ n ≤ c ∧ CutsOk w base (.slice (some (if c = 1 then ⟨g, off, none⟩ else ⟨g, off + 2, none⟩)) cs.length (c - 1)) cs := by
  obtain ⟨A', c', e, hc, hx⟩ := h
  simp only [Value.slice.injEq] at e
  obtain ⟨rfl, rfl, rfl⟩ := e
  obtain ⟨g, off, cur, rfl, hg, hB, hj⟩ := hx (by simp)
  refine ⟨g, off, rfl, rfl, by simpa using hc, _, _, rfl, by simp at hc; omega, fun hn => ?_⟩
  have h1 : c ≠ 1 := by simp at hc; omega
  refine ⟨g, off + 2, cur, by rw [if_neg h1], hg, hB, fun j hj' => ?_⟩
  have := hj (2 + j) (by simp; omega)
  rw [show off + 2 + j = off + (2 + j) by omega, this, List.flatMap_cons, List.getElem?_append_right (by simp [encC])]
  simp [encC]

set_option maxHeartbeats 1000000 in
theorem up_any (g : Nat) (base : Nat → Prop) (s : Stt) (w : World) (h : Sto w base g s) :
    Calls Try.prog 59 #[.pointer (some ⟨g, 0, none⟩)] w fun e w' => e = .returned (.tuple #[]) ∧ Sto w' base g (upN s) ∧ Near base w w' := by
  obtain ⟨cv, wv, hB, hg, hc, ho⟩ := h
  obtain ⟨on, k, cs, ws⟩ := s
  simp only at *
  have hcl := hB.cell
  have hfz := hB.frozen
  have h1 : StoP _ base g _ _ cv wv cs ws := StoP.set1 (StoP.set0 (w := w) ⟨hB, hg, hc, ho⟩ (.bool true)) (.int .i64 0)
  have b1 : Near base w ((w.setCell ⟨g, 0, none⟩ (.bool true)).setCell ⟨g, 1, none⟩ (.int .i64 0)) := ((Near.refl _ _).setCell hg _).setCell hg _
  cases cs with
  | nil =>
    have HH := Lib.hid h1
    obtain ⟨A, c, rfl, hcc, hx⟩ := hc
    clear hx hB ho h1
    simp only [List.length_nil] at *
    go_enter Try.func59, Try.ntmps59
    go_wp2
    go_end0
    exact ⟨rfl, ⟨_, _, HH.out⟩, b1⟩
  | cons p cs =>
    have hc' := h1.2.2.1
    obtain ⟨A, c, rfl, hcc, _⟩ := hc
    obtain ⟨gc, off, rfl, hn, hnc, hcut⟩ := cuts_tail hc'
    have H2 := Lib.hid (h1.set2 hcut)
    have b2 := b1.setCell (p := ⟨g, 2, none⟩) hg (.slice (some (if c = 1 then ⟨gc, off, none⟩ else ⟨gc, off + 2, none⟩)) cs.length (c - 1))
    clear hcut hc' h1 hB ho hn b1
    simp only [List.length_cons] at *
    have h1 : (1 : Int) ≤ ((cs.length + 1 : Nat) : Int) := by omega
    by_cases e : c = 1
    · subst e
      have hz : cs.length = 0 := by omega
      simp only [hz, if_true] at b2
      have hz2 := Lib.hid hz
      clear hz
      go_enter Try.func59, Try.ntmps59
      go_wp2
      go_end0
      have h3 := H2.out
      simp only [hz2.out, if_true] at h3
      exact ⟨rfl, ⟨_, _, h3⟩, b2⟩
    · have e2 : 1 < c := by omega
      rw [if_neg e] at b2
      have h3 := H2.out
      rw [if_neg e] at h3
      have H3 := Lib.hid h3
      clear h3
      go_enter Try.func59, Try.ntmps59
      go_wp2
      go_end0
      exact ⟨rfl, ⟨_, _, H3.out⟩, b2⟩


set_option maxHeartbeats 1000000 in
theorem reboot_any (g : Nat) (base : Nat → Prop) (s : Stt) (w : World) (h : Sto w base g s) (hs : s.on = true ∨ 0 < s.ws.length) :
    Calls Try.prog 46 #[.pointer (some ⟨g, 0, none⟩)] w fun e w' => e = .returned (.tuple #[]) ∧ Sto w' base g (upN s) ∧ Near base w w' := by
  have q : ∀ (w : World) (a : Option Addr) (n c n' c' : Nat), (binOp .neq 51 (.slice a n c) (.slice none n' c')).run Try.prog w = .ok (.bool !a.isNone) w := fun w a n c n' c' => Go.run_neq_slice_nil_any w _ _ a n c n' c' Try.underlying51
  have h' := h
  obtain ⟨cv, wv, hB, hg, hc, ho⟩ := h
  obtain ⟨on, k, cs, ws⟩ := s
  simp only at *
  have hcl := hB.cell
  obtain ⟨A, c, rfl, hcc, hr⟩ := own_slice ho.1
  have hA : on = true ∨ A ≠ none := by
    rcases hs with h | h
    · exact .inl h
    · obtain ⟨b, off, h, _⟩ := hr.2 h
      exact .inr (by rw [h]; simp)
  clear hr ho hB hs hc
  rcases A with _ | a
  · have : on = true := by simpa using hA
    subst this
    clear hA
    go_enter Try.func46, Try.ntmps46
    go_wp2_with (go_at_call 59; refine (up_any g base _ _ h').mono ?_; rintro e w1 ⟨rfl, hs1, hb1⟩)
    go_end0
    exact ⟨rfl, hs1, hb1⟩
  · clear hA
    go_enter Try.func46, Try.ntmps46
    go_wp2_with (go_at_call 59; refine (up_any g base _ _ h').mono ?_; rintro e w1 ⟨rfl, hs1, hb1⟩)
    go_end0
    exact ⟨rfl, hs1, hb1⟩

set_option maxHeartbeats 1000000 in
theorem sameWords_any (A A2 : Option Addr) (n n2 c c2 : Nat) (l l2 : List Int) (w : World) (hn : l.length = n) (hn2 : l2.length = n2) (hm : n ≤ 100000) (hm2 : n2 ≤ 100000) (hr : Rd w w.heap.size 1 A n (l.flatMap encU)) (hr2 : Rd w w.heap.size 1 A2 n2 (l2.flatMap encU)) :
    Calls Try.prog 49 #[.slice A n c, .slice A2 n2 c2] w fun e w' => e = .returned (.bool (decide (l = l2))) ∧ Below w.heap.size w w' := by
  by_cases hne : n = n2
  · subst hne
    have hsp : ∀ k, k ≤ n → (∀ (j : Nat), j < k → l[j]? = l2[j]?) → k = n → l = l2 := fun k hk h hkn => List.ext_getElem? fun j => by
      rcases Nat.lt_or_ge j n with h1 | h1
      · exact h j (by omega)
      · rw [List.getElem?_eq_none (by omega), List.getElem?_eq_none (by omega)]
    have HN := Lib.hid hn
    have HN2 := Lib.hid hn2
    have HR := Lib.hid hr
    have HR2 := Lib.hid hr2
    have HS := Lib.hid hsp
    clear hr hr2 hn hn2 hsp
    go_enter Try.func49, Try.ntmps49
    go_wp2
    go_loopw [5, 13] (fun _ i wr => ∃ k : Nat, k ≤ n ∧ i = .int .i64 k ∧ Hid (∀ (j : Nat), j < k → l[j]? = l2[j]?) ∧ Below w.heap.size w wr) (fun _ i _ => n - (intOf i).toNat)
    case atStart => exact ⟨0, by omega, rfl, fun j hj => absurd hj (by omega), Below.refl _ _⟩
    case round =>
      obtain ⟨k, hk, rfl, hq, hbr⟩ := hrel
      by_cases hlt : k < n
      · obtain ⟨b1, o1, rfl, hb1, hc1⟩ := (HR.out.below hbr).row (fun _ => rfl) (k := k) (by rw [HN.out]; exact hlt) HN.out
        obtain ⟨b2, o2, rfl, hb2, hc2⟩ := (HR2.out.below hbr).row (fun _ => rfl) (k := k) (by rw [HN2.out]; exact hlt) HN2.out
        have d1 := hc1 0 (by omega)
        have d2 := hc2 0 (by omega)
        simp only [encU, Nat.add_zero, Nat.mul_one, List.getElem?_cons_zero] at d1 d2
        have g1 : l[k]? = some (l[k]'(by rw [HN.out]; exact hlt)) := List.getElem?_eq_getElem _
        have g2 : l2[k]? = some (l2[k]'(by rw [HN2.out]; exact hlt)) := List.getElem?_eq_getElem _
        have HG1 := Lib.hid g1
        have HG2 := Lib.hid g2
        clear hc1 hc2 g1 g2
        generalize l[k]'(by rw [HN.out]; exact hlt) = x at *
        generalize l2[k]'(by rw [HN2.out]; exact hlt) = y at *
        by_cases hxy : x = y
        · subst hxy
          go_wp2
          go_quiet (fail)
          go_wp2
          go_roundw
          case rel => exact ⟨k + 1, by omega, by go_num, (fun j hj => by
            rcases Nat.lt_or_ge j k with h1 | h1
            · exact hq.out j h1
            · obtain rfl : j = k := by omega
              rw [HG1.out, HG2.out]), below_drewN hbr _⟩
          case measure => simp [intOf]; omega
        · have e1 : (x != y) = true := by simpa using hxy
          have hf : decide (l = l2) = false := by
            rw [decide_eq_false_iff_not]; intro h; apply hxy
            have := HG1.out; rw [h, HG2.out] at this; simpa using this.symm
          have HF := Lib.hid hf
          clear hf hxy
          go_wp2
          go_quiet (fail)
          go_wp2
          go_ret
          exact ⟨by rw [HF.out]; rfl, below_drewN hbr _⟩
      · obtain rfl : k = n := by omega
        have hf : decide (l = l2) = true := by rw [decide_eq_true_eq]; exact HS.out k (Nat.le_refl _) hq.out rfl
        have HF := Lib.hid hf
        clear hf
        go_wp2
        go_ret
        exact ⟨by rw [HF.out]; rfl, hbr⟩
  · have hf : decide (l = l2) = false := by rw [decide_eq_false_iff_not]; intro h; apply hne; rw [← hn, ← hn2, h]
    have HF := Lib.hid hf
    have e1 : ((n : Int) != (n2 : Int)) = true := by rw [bne_iff_ne]; omega
    clear hf hr hr2 hn hn2 hne
    go_enter Try.func49, Try.ntmps49
    go_wp2
    go_ret
    exact ⟨by rw [HF.out]; first | done | rfl, Below.refl _ _⟩
end Go.Proofs.Ytdkhkpjepnmjnaa
