/- Chapter 10, the store: what it is in memory; its methods. -/
import Derived.Test.YtpenjfkdinmgmaaNvA
import Derived.Deep.Onto
import Derived.Test.YtpenjfkdinmgmaaNear
namespace Go.Proofs.Ytpenjfkdinmgmaa
set_option linter.unusedVariables false
open Go.RowKit Go.Sort

/-- A slice of cuts, in blocks from base on. -/
def CutsOk (w : World) (base : Nat → Prop) (cv : Value) (l : List (Int × Int)) : Prop :=
  ∃ A c, cv = .slice A l.length c ∧ l.length ≤ c ∧ (0 < l.length → ∃ g off cur, A = some ⟨g, off, none⟩ ∧ base g ∧ Blk w g 58 cur ∧ ∀ j, j < l.length * 2 → cur[off + j]? = (l.flatMap encC)[j]?)
structure Stt where
  on : Bool
  k : Int
  cs : List (Int × Int)
  ws : List Int
/-- A store in memory. -/
def Sto (w : World) (base : Nat → Prop) (g : Nat) (s : Stt) : Prop :=
  ∃ cv wv, Blk w g 66 #[.bool s.on, .int .i64 s.k, cv, wv] ∧ base g ∧ CutsOk w base cv s.cs ∧ OwnS w base 23 1 wv s.ws.length (s.ws.flatMap encU)

section
variable {w w' : World} {base : Nat → Prop} {g : Nat} {cv : Value} {l : List (Int × Int)} {s : Stt}
theorem CutsOk.kept (h : CutsOk w base cv l) (hb : Below w.heap.size w w') : CutsOk w' base cv l := by
  obtain ⟨A, c, e, hc, hx⟩ := h
  exact ⟨A, c, e, hc, fun hn => by obtain ⟨g, off, cur, e, hg, hB, hj⟩ := hx hn; exact ⟨g, off, cur, e, hg, hB.kept hb, hj⟩⟩
theorem CutsOk.far (h : CutsOk w base cv l) {p : Addr} {t : TypeId} {cs : Array Value} (hp : Blk w p.block t cs) (hne : 58 ≠ t) (u : Value) : CutsOk (w.setCell p u) base cv l := by
  obtain ⟨A, c, e, hc, hx⟩ := h
  exact ⟨A, c, e, hc, fun hn => by obtain ⟨g, off, cur, e, hg, hB, hj⟩ := hx hn; exact ⟨g, off, cur, e, hg, hB.far (Blk.ne_ hB hp hne) u, hj⟩⟩
theorem CutsOk.of_own {b n : Nat} {v : Value} {xs : List Value} (h : w.ownsRow b 58 2 v n xs) (hs : ∀ k, b ≤ k → base k) (hn : n = l.length) (hx : xs = l.flatMap encC) : CutsOk w base v l := by
  subst hn hx
  rcases h.2 with ⟨rfl, h0⟩ | ⟨g, cap, cur, rfl, hg, hB, hc, hm, _, ht⟩
  · exact ⟨none, 0, by rw [h0], by omega, fun h => by omega⟩
  · refine ⟨_, cap, rfl, hc, fun _ => ⟨g, 0, cur, rfl, hs _ hg, hB, fun j hj => ?_⟩⟩
    rw [← ht, List.getElem?_take_of_lt hj, Nat.zero_add, Array.getElem?_toList]
theorem Sto.kept (h : Sto w base g s) (hb : Below w.heap.size w w') : Sto w' base g s := by
  obtain ⟨cv, wv, hB, hg, hc, ho⟩ := h
  exact ⟨cv, wv, hB.kept hb, hg, hc.kept hb, ho.kept hb⟩
theorem Sto.alloc (h : Sto w base g s) (o : Obj) : Sto (w.alloc o) base g s := h.kept ((Below.refl _ _).alloc (Nat.le_refl _) o)
theorem CutsOk.near {S' : Nat → Prop} (h : CutsOk w base cv l) (hb : Near S' w w') (hn : ∀ k, base k → ¬ S' k) : CutsOk w' base cv l := by
  obtain ⟨A, c, e, hc, hx⟩ := h
  exact ⟨A, c, e, hc, fun h0 => by obtain ⟨g, off, cur, e, hg, hB, hj⟩ := hx h0; exact ⟨g, off, cur, e, hg, hB.same (hb.block _ hB.lt (hn _ hg)), hj⟩⟩
theorem Sto.near {S' : Nat → Prop} (h : Sto w base g s) (hb : Near S' w w') (hn : ∀ k, base k → ¬ S' k) : Sto w' base g s := by
  obtain ⟨cv, wv, hB, hg, hc, ho⟩ := h
  exact ⟨cv, wv, hB.same (hb.block _ hB.lt (hn _ hg)), hg, hc.near hb hn, ho.near hb hn⟩
/-- Its blocks are there. -/
theorem Sto.bound (h : Sto w base g s) : Sto w (fun k => base k ∧ k < w.heap.size) g s := by
  obtain ⟨cv, wv, hB, hg, ⟨A, c, e, hc, hx⟩, ho⟩ := h
  exact ⟨cv, wv, hB, ⟨hg, hB.lt⟩, ⟨A, c, e, hc, fun h0 => by obtain ⟨g, off, cur, e, hg, hB, hj⟩ := hx h0; exact ⟨g, off, cur, e, ⟨hg, hB.lt⟩, hB, hj⟩⟩, ho.bound⟩
theorem Sto.lt (h : Sto w base g s) : g < w.heap.size := by obtain ⟨cv, wv, hB, _⟩ := h; exact hB.lt
end

theorem dead_any (g : Nat) (on : Bool) (k : Int) (cv wv : Value) (w : World) (hB : Blk w g 66 #[.bool on, .int .i64 k, cv, wv]) :
    Calls Try.prog 42 #[.pointer (some ⟨g, 0, none⟩)] w fun e w' => e = .returned (.bool !on) ∧ w = w' := by
  have c := hB.cell
  go_enter Try.func42, Try.ntmps42
  go_wp2
  go_ret
  exact ⟨rfl, rfl⟩
theorem len_any (g : Nat) (on : Bool) (k : Int) (cv : Value) (A : Option Addr) (n c : Nat) (w : World) (hB : Blk w g 66 #[.bool on, .int .i64 k, cv, .slice A n c]) :
    Calls Try.prog 34 #[.pointer (some ⟨g, 0, none⟩)] w fun e w' => e = .returned (.int .i64 n) ∧ w = w' := by
  have c := hB.cell
  go_enter Try.func34, Try.ntmps34
  go_wp2
  go_ret
  exact ⟨rfl, rfl⟩
theorem writes_any (g : Nat) (on : Bool) (k : Int) (cv wv : Value) (w : World) (hB : Blk w g 66 #[.bool on, .int .i64 k, cv, wv]) :
    Calls Try.prog 12 #[.pointer (some ⟨g, 0, none⟩)] w fun e w' => e = .returned (.int .i64 k) ∧ w = w' := by
  have c := hB.cell
  go_enter Try.func12, Try.ntmps12
  go_wp2
  go_ret
  exact ⟨rfl, rfl⟩

/-- Is the next write the one at which power is lost? -/
def strikesN (s : Stt) : Bool := match s.cs with
  | [] => false
  | p :: _ => p.1 == s.k

set_option maxHeartbeats 1000000 in
theorem strikes_any (g : Nat) (base : Nat → Prop) (s : Stt) (w : World) (h : Sto w base g s) :
    Calls Try.prog 43 #[.pointer (some ⟨g, 0, none⟩)] w fun e w' => e = .returned (.bool (strikesN s)) ∧ Below w.heap.size w w' := by
  obtain ⟨cv, wv, hB, hg, ⟨A, c, rfl, hc, hx⟩, ho⟩ := h
  obtain ⟨on, k, cs, ws⟩ := s
  simp only at *
  clear ho
  cases cs with
  | nil =>
    clear hx
    unfold strikesN
    simp only [List.length_nil] at *
    go_enter Try.func43, Try.ntmps43
    go_wp2
    refine wp_region_quiet_below (by kernel_rfl) (by kernel_rfl) ?_
    have e0 := blk_regrown hB
    repeat (go_big_quiet_step (fail))
    refine wpQuiet_nil ?_
    rintro w7 ⟨p, rfl⟩
    have hb7 := below_regrown w p.d p.os
    generalize grow (redrawn w p.d) p.os = w7 at hb7 ⊢
    clear e0
    go_wp2
    go_ret
    exact ⟨rfl, hb7⟩
  | cons p cs =>
    obtain ⟨gc, off, cur, rfl, hgc, hC, hj⟩ := hx (by simp)
    unfold strikesN
    have j0 := hj 0 (by simp)
    simp [encC] at j0
    clear hj hx
    simp only [List.length_cons] at *
    have HJ := Lib.hid j0
    have e0 := blk_regrown hB
    have e1 := blk_regrown hC
    have e2 : ∀ (d : Nat) (os : Array Obj), (grow (redrawn w d) os).cell? ⟨gc, off, none⟩ = some (.int .i64 p.1) := fun d os => (e1 d os off).trans HJ.out
    clear e1 j0 hB hC HJ hc
    have hpos : (0 : Int) < ((cs.length + 1 : Nat) : Int) := by omega
    generalize cs.length + 1 = n at *
    have hpos' : 0 < n := by omega
    go_enter Try.func43, Try.ntmps43
    go_wp2
    refine wp_region_quiet_below (by kernel_rfl) (by kernel_rfl) ?_
    repeat (go_big_quiet_step (fail))
    refine wpQuiet_nil ?_
    rintro w7 ⟨p, rfl⟩
    have hb7 := below_regrown w p.d p.os
    generalize grow (redrawn w p.d) p.os = w7 at hb7 ⊢
    clear e0 e2
    go_wp2
    go_ret
    exact ⟨rfl, hb7⟩
end Go.Proofs.Ytpenjfkdinmgmaa
