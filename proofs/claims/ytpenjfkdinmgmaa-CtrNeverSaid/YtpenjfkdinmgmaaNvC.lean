/- Chapter 10, the store: a write. -/
import Derived.Test.YtpenjfkdinmgmaaNvB
namespace Go.Proofs.Ytpenjfkdinmgmaa
set_option linter.unusedVariables false
open Go.RowKit Go.Sort

/-- A word that is torn. -/
def tornW (m x y : Int) : Int := bits .or .u32 (bits .andNot .u32 y m) (bits .and .u32 x m)
/-- A write: the error's number, and what becomes of the store. -/
def writeN (s : Stt) (i x : Int) : Int × Stt :=
  if s.on = false then (100, s)
  else if i < 0 ∨ s.ws.length ≤ i then (1, s)
  else match s.cs with
    | [] => (0, { s with k := s.k + 1, ws := s.ws.set i.toNat x })
    | p :: _ => if p.1 = s.k then (100, { s with on := false, ws := s.ws.set i.toNat (tornW p.2 x (s.ws.getD i.toNat 0)) }) else (0, { s with k := s.k + 1, ws := s.ws.set i.toNat x })

theorem flat_set (l : List Int) (i : Nat) (x : Int) : (l.flatMap encU).set i (.int .u32 x) = (l.set i x).flatMap encU := by
  induction l generalizing i with
  | nil => rfl
  | cons a l ih =>
    cases i with
    | zero => rfl
    | succ i => simpa [encU] using ih i
theorem flat_get (l : List Int) (i : Nat) (h : i < l.length) : (l.flatMap encU)[i]? = some (.int .u32 (l.getD i 0)) := by
  induction l generalizing i with
  | nil => simp at h
  | cons a l ih =>
    cases i with
    | zero => rfl
    | succ i => simpa [encU] using ih i (by simpa using h)

set_option maxHeartbeats 1000000 in
theorem write_dead (g : Nat) (base : Nat → Prop) (s : Stt) (i x : Int) (w : World) (h : Sto w base g s) (ho : s.on = false) :
    Calls Try.prog 30 #[.pointer (some ⟨g, 0, none⟩), .int .i64 i, .int .u32 x] w fun e w' => e = .returned (.int .i64 100) ∧ w = w' := by
  obtain ⟨cv, wv, hB, hg, _, _⟩ := h
  rw [ho] at hB
  go_enter Try.func30, Try.ntmps30
  go_wp2_with (go_at_call 42; refine (dead_any g false s.k cv wv _ hB).mono ?_; rintro e w1 ⟨rfl, rfl⟩)
  go_ret
  exact ⟨rfl, rfl⟩

set_option maxHeartbeats 1000000 in
theorem write_out (g : Nat) (base : Nat → Prop) (s : Stt) (i x : Int) (w : World) (h : Sto w base g s) (ho : s.on = true) (hi : i < 0 ∨ (s.ws.length : Int) ≤ i) :
    Calls Try.prog 30 #[.pointer (some ⟨g, 0, none⟩), .int .i64 i, .int .u32 x] w fun e w' => e = .returned (.int .i64 1) ∧ w = w' := by
  obtain ⟨cv, wv, hB, hg, _, hown⟩ := h
  obtain ⟨A, c, rfl, hc, hr⟩ := own_slice hown.1
  rw [ho] at hB
  have hcl := hB.cell
  clear hr hown
  rcases hi with hi | hi
  all_goals
    go_enter Try.func30, Try.ntmps30
    go_wp2_with (go_at_call 42; refine (dead_any g true s.k cv _ _ hB).mono ?_; rintro e w1 ⟨rfl, rfl⟩)
    go_ret
    exact ⟨rfl, rfl⟩

theorem own_far {w : World} {base g n cap size : Nat} {e : TypeId} {xs : List Value} (h : w.ownsRow base e size (.slice (some ⟨g, 0, none⟩) n cap) n xs) {p : Addr} (hne : g ≠ p.block) (u : Value) : (w.setCell p u).ownsRow base e size (.slice (some ⟨g, 0, none⟩) n cap) n xs :=
  h.kept (row := some p.block) ⟨rfl, rfl, rfl, by simp, fun k _ hk => heap_setCell_other w p k u (fun e => hk (by simp [e]))⟩ (.inr (by simpa [Value.ownBlock] using hne))
/-- What a store's words are in memory, written out. -/
theorem Sto.open {w : World} {base : Nat → Prop} {g : Nat} {s : Stt} (h : Sto w base g s) (hn : 0 < s.ws.length) : ∃ cv gw cap, Blk w g 66 #[.bool s.on, .int .i64 s.k, cv, .slice (some ⟨gw, 0, none⟩) s.ws.length cap] ∧ base g ∧ CutsOk w base cv s.cs ∧
    w.ownsRow 0 23 1 (.slice (some ⟨gw, 0, none⟩) s.ws.length cap) s.ws.length (s.ws.flatMap encU) ∧ base gw ∧ gw ≠ g ∧ gw < w.heap.size ∧ s.ws.length ≤ cap ∧ ∃ cur, Blk w gw 23 cur := by
  obtain ⟨cv, wv, hB, hg, hc, ho⟩ := h
  obtain ⟨ho, hs⟩ := ho
  rcases ho.2 with ⟨rfl, h0⟩ | ⟨gw, cap, cur, rfl, _, hW, hnc, _⟩
  · omega
  · exact ⟨cv, gw, cap, hB, hg, hc, ho, hs gw (by simp [Value.ownBlock]), Blk.ne_ hW hB (by decide), Blk.lt hW, hnc, cur, hW⟩

set_option maxHeartbeats 1000000 in
theorem write_ok (g : Nat) (base : Nat → Prop) (s : Stt) (j : Nat) (x : Int) (w : World) (h : Sto w base g s) (ho : s.on = true) (hj : j < s.ws.length) (hs : strikesN s = false) (hk0 : 0 ≤ s.k) (hk1 : s.k < 1000000) :
    Calls Try.prog 30 #[.pointer (some ⟨g, 0, none⟩), .int .i64 j, .int .u32 x] w fun e w' => e = .returned (.int .i64 0) ∧ Sto w' base g { s with k := s.k + 1, ws := s.ws.set j x } ∧ Near base w w' := by
  have hlen := s.ws.length_set (i := j) (a := x)
  have HX := Lib.hid (flat_set s.ws j x)
  have HS := Lib.hid hs
  obtain ⟨cv, gw, cap, hB, hg, hc, hown, hbw, hne, hgl, hcap, cur, hW⟩ := h.open (by omega)
  have HO := Lib.hid ho
  have HF := Lib.hid (flat_get s.ws j hj)
  rw [ho] at hB
  have hB1 := hB
  clear hs ho
  generalize hn : s.ws.length = n at *
  clear hn
  go_enter Try.func30, Try.ntmps30
  go_wp2_with (first
    | (go_at_call 42; refine (dead_any g true s.k cv _ _ hB).mono ?_; rintro e w1 ⟨rfl, rfl⟩; have hcl := hB.cell; have hfz := hB.frozen)
    | (go_at_call 43; refine (strikes_any g base s _ h).mono ?_; rintro e w1 ⟨rfl, hb1⟩; rw [HS.out]; have hB2 := hB.kept hb1; have hown2 := own_kept hown hb1; clear hcl hfz; have hcl2 := hB2.cell; have hfz2 := hB2.frozen; have hf2 := hown2.frozenAt j; have hd2 := hown2.cellAt j (by omega); rw [HF.out] at hd2))
  go_ret
  have hW2 := hW.kept hb1
  have hb2 : Near base w w1 := Near.of_below base hb1
  refine ⟨rfl, ⟨cv, .slice (some ⟨gw, 0, none⟩) n cap, ?_, hg, ?_, ?_⟩, ?_⟩
  · have := (hB2.far (p := ⟨gw, j, none⟩) (Ne.symm hne) (.int .u32 x)).set_ 1 (.int .i64 (s.k + 1))
    simpa [HO.out] using this
  · exact ((hc.kept hb1).far (p := ⟨gw, j, none⟩) hW2 (by decide) _).far (p := ⟨g, 1, none⟩) (hB2.far (p := ⟨gw, j, none⟩) (Ne.symm hne) _) (by decide) _
  · have := own_far (hown2.stored j (.int .u32 x)).1 (p := ⟨g, 1, none⟩) hne (.int .i64 (s.k + 1))
    rw [HX.out] at this
    exact ⟨by simpa [hlen] using this, fun k hk => by simp only [Value.ownBlock, Option.some.injEq] at hk; exact hk ▸ hbw⟩
  · exact (hb2.setCell (p := ⟨gw, j, none⟩) hbw _).setCell (p := ⟨g, 1, none⟩) hg _
end Go.Proofs.Ytpenjfkdinmgmaa
