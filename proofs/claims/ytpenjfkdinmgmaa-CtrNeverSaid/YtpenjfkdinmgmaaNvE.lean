/- Chapter 10, the store: made, read. -/
import Derived.Test.YtpenjfkdinmgmaaNvD
namespace Go.Proofs.Ytpenjfkdinmgmaa
set_option linter.unusedVariables false
open Go.RowKit Go.Sort

set_option maxHeartbeats 1000000 in
theorem new_any (A A2 : Option Addr) (n c n2 c2 : Nat) (ws : List Int) (cs : List (Int × Int)) (w : World) (hn : ws.length = n) (hn2 : cs.length = n2) (h1 : n ≤ 1000) (h2 : n2 ≤ 1000) (hr : Rd w w.heap.size 1 A n (ws.flatMap encU)) (hr2 : Rd w w.heap.size 2 A2 n2 (cs.flatMap encC)) :
    Calls Try.prog 9 #[.slice A n c, .slice A2 n2 c2] w fun e w' => ∃ g, e = .returned (.pointer (some ⟨g, 0, none⟩)) ∧ Sto w' (w.heap.size ≤ ·) g ⟨true, 0, cs, ws⟩ ∧ Below w.heap.size w w' := by
  go_enter Try.func9, Try.ntmps9
  go_wp2_with (first
    | (go_at_call 25; refine (clone_cut A2 n2 c2 _ _ hr2 (one_c cs) h2).mono ?_; rintro e w1 ⟨v1, rfl, hown1, hb1⟩; obtain ⟨A3, c3, rfl, _, _⟩ := own_slice hown1; have hr1 := (hr.below hb1).more hb1.size)
    | (go_at_call 26; refine (clone_u32 A n c _ _ hr1 (one_u ws) h1).mono ?_; rintro e w2 ⟨v2, rfl, hown2, hb2⟩; obtain ⟨A4, c4, rfl, _, _⟩ := own_slice hown2; have hownc := own_kept hown1 hb2))
  go_ret
  have hb := hb1.trans (hb2.mono hb1.size)
  refine ⟨w2.heap.size, rfl, ⟨_, _, Blk.new _ _ _, hb.size, (CutsOk.of_own (l := cs) hownc (fun _ h => h) hn2.symm rfl).kept ((Below.refl _ _).alloc (Nat.le_refl _) _), ?_⟩, bal hb _⟩
  subst hn
  exact (OwnS.of hown2 (fun k h => Nat.le_trans hb1.size h)).alloc _

set_option maxHeartbeats 1000000 in
theorem words_of (g : Nat) (base : Nat → Prop) (s : Stt) (w : World) (h : Sto w base g s) (h1 : s.ws.length ≤ 1000) :
    Calls Try.prog 24 #[.pointer (some ⟨g, 0, none⟩)] w fun e w' => ∃ A c, e = .returned (.slice A s.ws.length c) ∧ w'.ownsRow w.heap.size 23 1 (.slice A s.ws.length c) s.ws.length (s.ws.flatMap encU) ∧ Below w.heap.size w w' := by
  obtain ⟨cv, wv, hB, hg, hc, ho⟩ := h
  obtain ⟨A, c, rfl, hcc, hr⟩ := own_slice ho.1
  have hcl := hB.cell
  generalize hn : s.ws.length = n at *
  clear hn
  go_enter Try.func24, Try.ntmps24
  go_wp2_with (go_at_call 26; refine (clone_u32 A n c _ _ hr (one_u s.ws) h1).mono ?_; rintro e w2 ⟨v2, rfl, hown2, hb2⟩; obtain ⟨A4, c4, rfl, _, _⟩ := own_slice hown2)
  go_ret
  exact ⟨_, _, rfl, hown2, hb2⟩

set_option maxHeartbeats 1000000 in
theorem read_out (g : Nat) (base : Nat → Prop) (s : Stt) (i : Int) (w : World) (h : Sto w base g s) (hi : i < 0 ∨ (s.ws.length : Int) ≤ i) :
    Calls Try.prog 41 #[.pointer (some ⟨g, 0, none⟩), .int .i64 i] w fun e w' => e = .returned (.tuple #[.int .u32 0, .int .i64 1]) ∧ w = w' := by
  obtain ⟨cv, wv, hB, hg, hc, ho⟩ := h
  obtain ⟨A, c, rfl, hcc, hr⟩ := own_slice ho.1
  clear ho hr
  rcases hi with hi | hi
  · go_enter Try.func41, Try.ntmps41
    go_wp2
    go_ret2
    exact ⟨rfl, rfl⟩
  · go_enter Try.func41, Try.ntmps41
    go_wp2_with (go_at_call 34; refine (len_any g _ _ _ A _ c _ hB).mono ?_; rintro e w1 ⟨rfl, rfl⟩)
    all_goals go_ret2
    all_goals exact ⟨rfl, rfl⟩

set_option maxHeartbeats 1000000 in
theorem read_in (g : Nat) (base : Nat → Prop) (s : Stt) (j : Nat) (w : World) (h : Sto w base g s) (hj : j < s.ws.length) :
    Calls Try.prog 41 #[.pointer (some ⟨g, 0, none⟩), .int .i64 j] w fun e w' => e = .returned (.tuple #[.int .u32 (s.ws.getD j 0), .int .i64 0]) ∧ w = w' := by
  obtain ⟨cv, gw, cap, hB, hg, hc, hown, hbw, hne, hgl, hcap, cur, hW⟩ := h.open (by omega)
  have hcl := hB.cell
  have hd := hown.cellAt j (by omega)
  rw [flat_get _ _ hj] at hd
  generalize hn : s.ws.length = n at *
  clear hn hW hown
  go_enter Try.func41, Try.ntmps41
  go_wp2_with (go_at_call 34; refine (len_any g _ _ _ _ _ cap _ hB).mono ?_; rintro e w1 ⟨rfl, rfl⟩)
  go_ret2
  exact ⟨rfl, rfl⟩
end Go.Proofs.Ytpenjfkdinmgmaa
