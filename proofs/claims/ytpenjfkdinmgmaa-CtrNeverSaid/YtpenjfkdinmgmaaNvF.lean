/- Chapter 10, the store: power again. -/
import Derived.Test.YtpenjfkdinmgmaaNvE
namespace Go.Proofs.Ytpenjfkdinmgmaa
set_option linter.unusedVariables false
open Go.RowKit Go.Sort

/-- A store whose power comes back. -/
def upN (s : Stt) : Stt := { s with on := true, k := 0, cs := s.cs.tail }

/-- The parts of a store. -/
def StoP (w : World) (base : Nat → Prop) (g : Nat) (on : Value) (k : Value) (cv wv : Value) (cs : List (Int × Int)) (ws : List Int) : Prop :=
  Blk w g 66 #[on, k, cv, wv] ∧ base g ∧ CutsOk w base cv cs ∧ OwnS w base 23 1 wv ws.length (ws.flatMap encU)
section
variable {w : World} {base : Nat → Prop} {g : Nat} {on k cv wv : Value} {cs : List (Int × Int)} {ws : List Int}
theorem StoP.row (h : StoP w base g on k cv wv cs ws) (p : Addr) (hp : p.block = g) (u : Value) : OwnS (w.setCell p u) base 23 1 wv ws.length (ws.flatMap encU) :=
  h.2.2.2.set p (by rw [hp]; exact own_blk_ne h.2.2.2.1 h.1 (by decide)) u
theorem StoP.set0 (h : StoP w base g on k cv wv cs ws) (u : Value) : StoP (w.setCell ⟨g, 0, none⟩ u) base g u k cv wv cs ws := ⟨h.1.set_ 0 u, h.2.1, h.2.2.1.far (p := ⟨g, 0, none⟩) h.1 (by decide) u, h.row ⟨g, 0, none⟩ rfl u⟩
theorem StoP.set1 (h : StoP w base g on k cv wv cs ws) (u : Value) : StoP (w.setCell ⟨g, 1, none⟩ u) base g on u cv wv cs ws := ⟨h.1.set_ 1 u, h.2.1, h.2.2.1.far (p := ⟨g, 1, none⟩) h.1 (by decide) u, h.row ⟨g, 1, none⟩ rfl u⟩
theorem StoP.set2 (h : StoP w base g on k cv wv cs ws) {u : Value} {cs' : List (Int × Int)} (hu : CutsOk w base u cs') : StoP (w.setCell ⟨g, 2, none⟩ u) base g on k u wv cs' ws := ⟨h.1.set_ 2 u, h.2.1, hu.far (p := ⟨g, 2, none⟩) h.1 (by decide) u, h.row ⟨g, 2, none⟩ rfl u⟩
end

theorem cuts_tail {w : World} {base : Nat → Prop} {n c : Nat} {p : Int × Int} {cs : List (Int × Int)} {A : Option Addr} (h : CutsOk w base (.slice A n c) (p :: cs)) :
    ∃ g off, A = some ⟨g, off, none⟩ ∧ n = cs.length + 1 ∧ n ≤ c ∧ CutsOk w base (.slice (some (if c = 1 then ⟨g, off, none⟩ else ⟨g, off + 2, none⟩)) cs.length (c - 1)) cs := by
  obtain ⟨A', c', e, hc, hx⟩ := h
  simp only [Value.slice.injEq] at e
  obtain ⟨rfl, rfl, rfl⟩ := e
  obtain ⟨g, off, cur, rfl, hg, hB, hj⟩ := hx (by simp)
  refine ⟨g, off, rfl, rfl, by simpa using hc, _, _, rfl, by simp at hc; omega, fun hn => ?_⟩
  have h1 : c ≠ 1 := by simp at hc; omega
  refine ⟨g, off + 2, cur, by rw [if_neg h1], hg, hB, fun j hj' => ?_⟩
  have := hj (2 + j) (by simp; omega)
  rw [show off + 2 + j = off + (2 + j) by omega, this, List.flatMap_cons, List.getElem?_append_right (by simp [encC])]
  simp [encC]

set_option maxHeartbeats 1000000 in
theorem up_any (g : Nat) (base : Nat → Prop) (s : Stt) (w : World) (h : Sto w base g s) :
    Calls Try.prog 37 #[.pointer (some ⟨g, 0, none⟩)] w fun e w' => e = .returned (.tuple #[]) ∧ Sto w' base g (upN s) ∧ Near base w w' := by
  obtain ⟨cv, wv, hB, hg, hc, ho⟩ := h
  obtain ⟨on, k, cs, ws⟩ := s
  simp only at *
  have hcl := hB.cell
  have hfz := hB.frozen
  have h1 : StoP _ base g _ _ cv wv cs ws := StoP.set1 (StoP.set0 (w := w) ⟨hB, hg, hc, ho⟩ (.bool true)) (.int .i64 0)
  have b1 : Near base w ((w.setCell ⟨g, 0, none⟩ (.bool true)).setCell ⟨g, 1, none⟩ (.int .i64 0)) := ((Near.refl _ _).setCell hg _).setCell hg _
  cases cs with
  | nil =>
    have HH := Lib.hid h1
    obtain ⟨A, c, rfl, hcc, hx⟩ := hc
    clear hx hB ho h1
    simp only [List.length_nil] at *
    go_enter Try.func37, Try.ntmps37
    go_wp2
    go_end0
    exact ⟨rfl, ⟨_, _, HH.out⟩, b1⟩
  | cons p cs =>
    have hc' := h1.2.2.1
    obtain ⟨A, c, rfl, hcc, _⟩ := hc
    obtain ⟨gc, off, rfl, hn, hnc, hcut⟩ := cuts_tail hc'
    have H2 := Lib.hid (h1.set2 hcut)
    have b2 := b1.setCell (p := ⟨g, 2, none⟩) hg (.slice (some (if c = 1 then ⟨gc, off, none⟩ else ⟨gc, off + 2, none⟩)) cs.length (c - 1))
    clear hcut hc' h1 hB ho hn b1
    simp only [List.length_cons] at *
    have h1 : (1 : Int) ≤ ((cs.length + 1 : Nat) : Int) := by omega
    by_cases e : c = 1
    · subst e
      have hz : cs.length = 0 := by omega
      simp only [hz, if_true] at b2
      have hz2 := Lib.hid hz
      clear hz
      go_enter Try.func37, Try.ntmps37
      go_wp2
      go_end0
      have h3 := H2.out
      simp only [hz2.out, if_true] at h3
      exact ⟨rfl, ⟨_, _, h3⟩, b2⟩
    · have e2 : 1 < c := by omega
      rw [if_neg e] at b2
      have h3 := H2.out
      rw [if_neg e] at h3
      have H3 := Lib.hid h3
      clear h3
      go_enter Try.func37, Try.ntmps37
      go_wp2
      go_end0
      exact ⟨rfl, ⟨_, _, H3.out⟩, b2⟩


set_option maxHeartbeats 1000000 in
theorem reboot_any (g : Nat) (base : Nat → Prop) (s : Stt) (w : World) (h : Sto w base g s) (hs : s.on = true ∨ 0 < s.ws.length) :
    Calls Try.prog 21 #[.pointer (some ⟨g, 0, none⟩)] w fun e w' => e = .returned (.tuple #[]) ∧ Sto w' base g (upN s) ∧ Near base w w' := by
  have q : ∀ (w : World) (a : Option Addr) (n c n' c' : Nat), (binOp .neq 22 (.slice a n c) (.slice none n' c')).run Try.prog w = .ok (.bool !a.isNone) w := fun w a n c n' c' => Go.run_neq_slice_nil_any w _ _ a n c n' c' Try.underlying22
  have h' := h
  obtain ⟨cv, wv, hB, hg, hc, ho⟩ := h
  obtain ⟨on, k, cs, ws⟩ := s
  simp only at *
  have hcl := hB.cell
  obtain ⟨A, c, rfl, hcc, hr⟩ := own_slice ho.1
  have hA : on = true ∨ A ≠ none := by
    rcases hs with h | h
    · exact .inl h
    · obtain ⟨b, off, h, _⟩ := hr.2 h
      exact .inr (by rw [h]; simp)
  clear hr ho hB hs hc
  rcases A with _ | a
  · have : on = true := by simpa using hA
    subst this
    clear hA
    go_enter Try.func21, Try.ntmps21
    go_wp2_with (go_at_call 37; refine (up_any g base _ _ h').mono ?_; rintro e w1 ⟨rfl, hs1, hb1⟩)
    go_end0
    exact ⟨rfl, hs1, hb1⟩
  · clear hA
    go_enter Try.func21, Try.ntmps21
    go_wp2_with (go_at_call 37; refine (up_any g base _ _ h').mono ?_; rintro e w1 ⟨rfl, hs1, hb1⟩)
    go_end0
    exact ⟨rfl, hs1, hb1⟩

end Go.Proofs.Ytpenjfkdinmgmaa
