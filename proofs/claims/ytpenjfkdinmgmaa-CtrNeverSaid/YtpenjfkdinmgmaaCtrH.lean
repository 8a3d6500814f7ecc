/- Chapter 13: All: the program's and the document's, walked. -/
import Derived.Test.YtpenjfkdinmgmaaCtrG
namespace Go.Proofs.Ytpenjfkdinmgmaa
set_option linter.unusedVariables false
set_option linter.unusedSimpArgs false
open Go.RowKit Go.Sort

def encK (r : Rr) : List Value := [.int .u32 r.v, .int .i64 r.err]
theorem info_counter : (Try.prog.info? 60).map (fun i => (i.zero, i.size, i.bytes)) = some (some (.agg #[.int .u32 0, .int .i64 0]), 2, 16) := by kernel_rfl
theorem counter_elem : ElemInfo Try.prog 47 60 2 16 := by
  obtain ⟨i, hi, hz, hs, hb⟩ := info_parts info_counter
  exact ⟨Try.underlying47, ⟨i, _, hi, hz, hs, hb, rfl⟩, by decide⟩
/-- The first counters. -/
def allN (ws : List Int) : Nat → List Rr
  | 0 => []
  | k + 1 => allN ws k ++ [recN ws k]
theorem allN_succ (ws : List Int) (k : Nat) : allN ws (k + 1) = allN ws k ++ [recN ws k] := rfl
theorem allN_len (ws : List Int) : ∀ k, (allN ws k).length = k
  | 0 => rfl
  | k + 1 => by rw [allN_succ, List.length_append, allN_len ws k]; rfl
theorem allN_get (ws : List Int) : ∀ {n k : Nat}, k < n → (allN ws n)[k]? = some (recN ws k)
  | n + 1, k, h => by
    rw [allN_succ]
    rcases Nat.lt_or_ge k n with h1 | h1
    · rw [List.getElem?_append_left (by rw [allN_len]; exact h1)]; exact allN_get ws h1
    · obtain rfl : k = n := by omega
      rw [List.getElem?_append_right (by rw [allN_len]; exact Nat.le_refl _), allN_len]; simp
theorem allN_app (ws : List Int) (k : Nat) (x y : Int) (h : (recN ws k).v = x) (h' : (recN ws k).err = y) : (allN ws (k + 1)).flatMap encK = (allN ws k).flatMap encK ++ [.int .u32 x, .int .i64 y] := by
  subst h h'
  rw [allN_succ]
  simp [encK]
set_option maxRecDepth 100000 in
set_option maxHeartbeats 2000000 in
theorem all_any (g : Nat) (base : Nat → Prop) (s : Stt) (n : Nat) (n' : Int) (w : World) (h : Sto w base g s) (hu : U32s s.ws) (hl : s.ws.length ≤ 100000) (hn : n ≤ 1000) (hn' : n' = n ∨ n' < 0 ∧ n = 0) :
    Calls Try.prog 19 #[.pointer (some ⟨g, 0, none⟩), .int .i64 n'] w fun e w' => ∃ v, e = .returned v ∧ w'.ownsRow w.heap.size 60 2 v n ((allN s.ws n).flatMap encK) ∧ Below w.heap.size w w' := by
  have HR := Lib.hid (fun (k : Nat) W (hW : Below w.heap.size w W) => rec_any g base s k W (h.kept hW) hu hl)
  have HApp := Lib.hid (allN_app s.ws)
  clear h hu hl
  by_cases hp : 0 < n'
  · obtain rfl : n' = n := by omega
    have hp2 : ¬ (n : Int) ≤ 0 := by omega
    clear hn'
    go_enter Try.func19, Try.ntmps19
    go_wp2
    go_loopw [5, 6, 7, 8, 12] (fun v _ _ _ i wr => ∃ k : Nat, k ≤ n ∧ i = .int .i64 k ∧ wr.ownsRow w.heap.size 60 2 v k ((allN s.ws k).flatMap encK) ∧ Below w.heap.size w wr) (fun _ _ _ _ i _ => n - (intOf i).toNat)
    case atStart => exact ⟨0, by omega, rfl, World.ownsRow_nil _ _ _ _, Below.refl _ _⟩
    case round =>
      obtain ⟨k, hk, rfl, ho, hb⟩ := hrel
      by_cases hlt : k < n
      · have HRk := Lib.hid (HR.out k wr hb)
        obtain ⟨x, hx⟩ : ∃ x, (recN s.ws k).v = x := ⟨_, rfl⟩
        obtain ⟨y, hy⟩ : ∃ y, (recN s.ws k).err = y := ⟨_, rfl⟩
        rw [hx, hy] at HRk
        have HA := Lib.hid (HApp.out k x y hx hy)
        clear hx hy
        go_wp2_with (first
          | (go_at_call 10; refine HRk.out.mono ?_; rintro e w1 ⟨rfl, hb1⟩; have ho1 := own_kept ho hb1; have hb2 := hb.trans (hb1.mono hb.size); have hz := hb2.size)
          | (at_builtin; refine wpList_app counter_elem rfl (.tmp 21) (.tmp 25) rfl w.heap.size (ho1.alloc _) rfl rfl (Rd.fresh _ _ _ 1 2 _ rfl) (by simp [Value.oneCell']) (by simp [maxLen]; omega) (by omega) (by simp; omega) ?_; intro v' w' hown' hb' _))
        go_roundw
        case rel => exact ⟨k + 1, by omega, by go_num, by rw [HA.out]; exact hown', (hb2.alloc hz _).trans hb'⟩
        case measure => simp [intOf]; omega
      · obtain rfl : k = n := by omega
        go_wp2
        go_ret
        exact ⟨_, rfl, ho, hb⟩
  · obtain rfl : n = 0 := by omega
    by_cases hq : n' < 0
    · clear hn'
      go_enter Try.func19, Try.ntmps19
      go_wp2
      go_loopw [5, 6, 7, 8, 12] (fun v _ _ _ i wr => i = .int .i64 0 ∧ wr.ownsRow w.heap.size 60 2 v 0 ((allN s.ws 0).flatMap encK) ∧ Below w.heap.size w wr) (fun _ _ _ _ i _ => 0)
      case atStart => exact ⟨rfl, World.ownsRow_nil _ _ _ _, Below.refl _ _⟩
      case round =>
        obtain ⟨rfl, ho, hb⟩ := hrel
        go_wp2
        go_ret
        exact ⟨_, rfl, ho, hb⟩
    · obtain rfl : n' = 0 := by omega
      clear hn'
      go_enter Try.func19, Try.ntmps19
      go_wp2
      go_loopw [5, 6, 7, 8, 12] (fun v _ _ _ i wr => i = .int .i64 0 ∧ wr.ownsRow w.heap.size 60 2 v 0 ((allN s.ws 0).flatMap encK) ∧ Below w.heap.size w wr) (fun _ _ _ _ i _ => 0)
      case atStart => exact ⟨rfl, World.ownsRow_nil _ _ _ _, Below.refl _ _⟩
      case round =>
        obtain ⟨rfl, ho, hb⟩ := hrel
        go_wp2
        go_ret
        exact ⟨_, rfl, ho, hb⟩
set_option maxRecDepth 100000 in
set_option maxHeartbeats 2000000 in
theorem rall_rd (g : Nat) (s : Stt) (n : Nat) (n' : Int) (w : World) (h : RRd w g s) (hu : U32s s.ws) (hl : s.ws.length ≤ 100000) (hn : n ≤ 1000) (hn' : n' = n ∨ n' < 0 ∧ n = 0) :
    Calls Try.prog 20 #[.pointer (some ⟨g, 0, none⟩), .int .i64 n'] w fun e w' => ∃ v, e = .returned v ∧ w'.ownsRow w.heap.size 60 2 v n ((allN s.ws n).flatMap encK) ∧ Below w.heap.size w w' := by
  have HR := Lib.hid (fun (k : Nat) W (hW : Below w.heap.size w W) => rrec_rd g s k W (h.kept hW) hu hl)
  have HApp := Lib.hid (allN_app s.ws)
  clear h hu hl
  have HN := Lib.hid hn'
  clear hn'
  go_enter Try.func20, Try.ntmps20
  go_wp2
  go_loopw [5, 6, 7, 8, 9, 10] (fun v i _ _ _ _ wr => ∃ k : Nat, k ≤ n ∧ i = .int .i64 k ∧ wr.ownsRow w.heap.size 60 2 v k ((allN s.ws k).flatMap encK) ∧ Below w.heap.size w wr) (fun _ i _ _ _ _ _ => n - (intOf i).toNat)
  case atStart => exact ⟨0, by omega, rfl, World.ownsRow_nil _ _ _ _, Below.refl _ _⟩
  case round =>
    obtain ⟨k, hk, rfl, ho, hb⟩ := hrel
    by_cases hlt : k < n
    · have c1 : (k : Int) < n' := by have := HN.out; omega
      have c2 : k < 1000 := by omega
      have HRk := Lib.hid (HR.out k wr hb)
      obtain ⟨x, hx⟩ : ∃ x, (recN s.ws k).v = x := ⟨_, rfl⟩
      obtain ⟨y, hy⟩ : ∃ y, (recN s.ws k).err = y := ⟨_, rfl⟩
      unfold Rr.cs at HRk
      rw [hx, hy] at HRk
      have HA := Lib.hid (HApp.out k x y hx hy)
      clear hx hy
      go_wp2_with (first
        | (go_at_call 17; refine HRk.out.mono ?_; rintro e w1 ⟨rfl, hb1⟩; have ho1 := own_kept ho hb1; have hb2 := hb.trans (hb1.mono hb.size); have hz := hb2.size)
        | (at_builtin; refine wpList_app counter_elem rfl (.tmp 28) (.tmp 32) rfl w.heap.size ((ho1.alloc _).alloc _) rfl rfl (Rd.fresh _ _ _ 1 2 _ rfl) (by simp [Value.oneCell']) (by simp [maxLen]; omega) (by omega) (by simp; omega) ?_; intro v' w' hown' hb' _))
      go_roundw
      case rel => exact ⟨k + 1, by omega, by go_num, by rw [HA.out]; exact hown', ((hb2.alloc hz _).alloc (by simp; omega) _).trans hb'⟩
      case measure => simp [intOf]; omega
    · obtain rfl : k = n := by omega
      have c1 : ¬ ((k : Int) < n') := by have := HN.out; omega
      go_wp2
      go_ret
      exact ⟨_, rfl, ho, hb⟩
end Go.Proofs.Ytpenjfkdinmgmaa
