/- Chapter 14: cfg.Parse whole; walked. -/
import Derived.Test.YtmhbpfclfffgkaaCfPb
namespace Go.Proofs.Ytmhbpfclfffgkaa
set_option linter.unusedVariables false
set_option linter.unusedSimpArgs false
open Go.RowKit Go.Sort

/-- An error has a number. -/
def NZ {α : Type} (p : PR α) : Prop := ∀ b a e, p b a = .error e → e.2 ≠ 0
theorem NZ.ret {α : Type} (x : α) : NZ (PR.ret x) := fun b a e h => by cases h
theorem NZ.bnd {α β : Type} {p : PR α} {f : α → PR β} (hp : NZ p) (hf : ∀ x, NZ (f x)) : NZ (PR.bnd p f) := fun b a e h => by
  rcases hq : p b a with e1 | ⟨x, a1⟩
  · rw [PR.bnd_error hq] at h
    cases h
    exact hp b a _ hq
  · rw [PR.bnd_ok hq] at h
    exact hf x b a1 e h
theorem NZ.here : NZ hereP := fun b a e h => by cases h
theorem NZ.must {is : Bool} {at_ : Nat} {e : Int} (he : e ≠ 0) : NZ (mustP is at_ e) := fun b a y h => by
  unfold mustP at h
  split at h
  · cases h
  · simp only [Except.error.injEq] at h; rw [← h]; exact he
theorem NZ.take (n : Nat) : NZ (takeP n) := fun b a y h => by
  unfold takeP at h
  split at h
  · cases h
  · simp only [Except.error.injEq] at h; rw [← h]; simp
theorem NZ.num {s : Nat} {m e : Int} (he : e ≠ 0) : NZ (numP s m e) := .bnd .here fun _ => .bnd (.take _) fun _ => .bnd (.must he) fun _ => .ret _
theorem NZ.list {α : Type} {p : PR α} (hp : NZ p) : ∀ n, NZ (listP p n)
  | 0 => .ret _
  | n + 1 => .bnd (NZ.list hp n) fun _ => .bnd hp fun _ => .ret _
theorem NZ.bit : NZ bitP := .bnd (.num (by decide)) fun _ => .ret _
theorem NZ.window : NZ windowP := .bnd (.num (by decide)) fun _ => .bnd (.num (by decide)) fun _ => .bnd (.num (by decide)) fun _ => .bnd (.num (by decide)) fun _ => .ret _
theorem NZ.dev : NZ devP := .bnd (.num (by decide)) fun _ => .bnd (.num (by decide)) fun _ => .bnd (.num (by decide)) fun _ => .ret _
theorem NZ.irq : NZ irqP := .bnd (.num (by decide)) fun _ => .bnd (.num (by decide)) fun _ => .bnd .bit fun _ => .ret _
theorem NZ.end_ : NZ endP := .bnd (.num (by decide)) fun _ => .bnd (.num (by decide)) fun _ => .bnd (.num (by decide)) fun _ => .ret _
theorem NZ.channel : NZ channelP := .bnd (.num (by decide)) fun _ => .bnd (.num (by decide)) fun _ => .bnd .end_ fun _ => .bnd .end_ fun _ => .ret _
theorem NZ.name : NZ nameP := .bnd .here fun _ => .bnd (.take _) fun _ => .bnd (.must (by decide)) fun _ => .ret _
theorem NZ.key : NZ keyP := .bnd .here fun _ => .bnd (.take _) fun _ => .bnd (.must (by decide)) fun _ => .ret _
theorem NZ.head : NZ headP := .bnd .name fun _ => .bnd .bit fun _ => .bnd (.num (by decide)) fun _ => .bnd (.num (by decide)) fun _ => .bnd (.num (by decide)) fun _ => .bnd (.num (by decide)) fun _ => .bnd (.num (by decide)) fun _ => .ret _
theorem NZ.counts : NZ countsP := .bnd .here fun _ => .bnd (.num (by decide)) fun _ => .bnd (.must (by decide)) fun _ => .bnd (.num (by decide)) fun _ => .bnd (.num (by decide)) fun _ => .bnd (.num (by decide)) fun _ => .ret _
theorem NZ.guest : NZ guestP := .bnd .head fun _ => .bnd .key fun _ => .bnd .counts fun _ => .bnd (.list .window _) fun _ => .bnd (.list .dev _) fun _ => .bnd (.list .irq _) fun _ => .bnd (.list (.num (by decide)) _) fun _ => .ret _
theorem NZ.top1 : NZ top1P := .bnd (.num (by decide)) fun _ => .bnd (.must (by decide)) fun _ => .bnd .here fun _ => .bnd (.num (by decide)) fun _ => .bnd (.must (by decide)) fun _ => .bnd .here fun _ => .bnd (.num (by decide)) fun _ => .bnd (.must (by decide)) fun _ => .bnd (.num (by decide)) fun _ => .bnd (.num (by decide)) fun _ => .bnd (.num (by decide)) fun _ => .ret _
theorem NZ.ends : NZ endsP := fun b a y h => by
  unfold endsP at h
  split at h
  · cases h
  · simp only [Except.error.injEq] at h; rw [← h]; simp
theorem NZ.config : NZ configP := .bnd .top1 fun _ => .bnd (.list .guest _) fun _ => .bnd (.list .channel _) fun _ => .bnd .ends fun _ => .ret _
/-- What Parse answers. -/
def ParseR (b : List Int) (w : World) (e : Ending) (w' : World) : Prop := Below w.heap.size w w' ∧
  ((∃ (a : Nat) (x : Int), parseC b = .error (a, x) ∧ x ≠ 0 ∧ e = .returned (.tuple #[.agg #[.int .u32 0, .slice none 0 0, .slice none 0 0], .int .i64 a, .int .i64 x])) ∨
   ∃ (x : CfD) (L : List (Gs × Gp)) (A1 : Option Addr) (c1 : Nat) (A2 : Option Addr) (c2 : Nat), parseC b = .ok x ∧ e = .returned (.tuple #[.agg #[.int .u32 x.ver, .slice A1 L.length c1, .slice A2 x.cs.length c2], .int .i64 0, .int .i64 0]) ∧ x.gs = L.map Prod.fst ∧ CfR w' w'.heap.size ⟨x.ver, L, x.cs⟩ A1 c1 A2 c2)
set_option maxRecDepth 100000 in
set_option maxHeartbeats 4000000 in
theorem parse_any (A : Option Addr) (n c : Nat) (b : List Int) (w : World) (hl : b.length = n) (hok : BytesOk b) (hm : n ≤ 1000000000) (hnc : n ≤ c) (hcm : c ≤ maxLen) (hr : Rd w w.heap.size 1 A n (b.flatMap encB)) :
    Calls Try.prog 13 #[.slice A n c] w (ParseR b w) := by
  have hG := Blk.new w 22 #[.slice A n c]
  have hG0 := hG.alloc (.cells #[.int .u32 0, .slice none 0 0, .slice none 0 0] 28)
  have hZ0 := Blk.new (w.alloc (.cells #[.slice A n c] 22)) 28 #[.int .u32 0, .slice none 0 0, .slice none 0 0]
  have hb0 := bal' (bal (Below.refl w.heap.size w) (.cells #[.slice A n c] 22)) (.cells #[.int .u32 0, .slice none 0 0, .slice none 0 0] 28) (by simp)
  have hz0' : (w.alloc (.cells #[.slice A n c] 22)).heap.size = w.heap.size + 1 := by simp
  have hz0 : ((w.alloc (.cells #[.slice A n c] 22)).alloc (.cells #[.int .u32 0, .slice none 0 0, .slice none 0 0] 28)).heap.size = w.heap.size + 2 := by simp
  rw [hz0'] at hZ0
  have hr0 := hr.below hb0
  go_enter Try.func13, Try.ntmps13
  go_upto_region 1 with (fail)
  generalize (w.alloc (.cells #[.slice A n c] 22)).alloc (.cells #[.int .u32 0, .slice none 0 0, .slice none 0 0] 28) = w1 at *
  clear hz0' hG
  have cG := hG0.cell
  have cZ := hZ0.cell
  have fZ := hZ0.frozen
  by_cases hlong : 65536 < n
  · have hd : decide ((65536 : Int) < (n : Int)) = true := decide_eq_true (by omega)
    have hpc : parseC b = .error (0, 2) := by unfold parseC; rw [if_pos (by omega)]
    have HPc := Lib.hid hpc
    clear hlong hpc
    go_wp2_with fail
    have h3 := ((hZ0.set_ 0 (.int .u32 0)).set_ 1 (.slice none 0 0)).set_ 2 (.slice none 0 0)
    refine bodyPost_ret (v := .tuple #[.agg #[.int .u32 0, .slice none 0 0, .slice none 0 0], .int .i64 0, .int .i64 2]) (by simp [results, Try.results13, go_sem, cZ]) rfl ⟨?_, .inl ⟨0, 2, HPc.out, by decide, rfl⟩⟩
    exact ((hb0.setCell (p := ⟨w.heap.size + 1, 0, none⟩) (by show w.heap.size ≤ w.heap.size + 1; omega) _).setCell (p := ⟨w.heap.size + 1, 1, none⟩) (by show w.heap.size ≤ w.heap.size + 1; omega) _).setCell (p := ⟨w.heap.size + 1, 2, none⟩) (by show w.heap.size ≤ w.heap.size + 1; omega) _
  · have hd : decide ((65536 : Int) < (n : Int)) = false := decide_eq_false (by omega)
    go_upto_region 4 with (fail)
    have hC := Blk.new w1 28 #[.int .u32 0, .slice none 0 0, .slice none 0 0]
    have hb2 := bal' hb0 (.cells #[.int .u32 0, .slice none 0 0, .slice none 0 0] 28)
    have hG2 := hG0.alloc (.cells #[.int .u32 0, .slice none 0 0, .slice none 0 0] 28)
    have hZ2 := hZ0.alloc (.cells #[.int .u32 0, .slice none 0 0, .slice none 0 0] 28)
    have hz2 : (w1.alloc (.cells #[.int .u32 0, .slice none 0 0, .slice none 0 0] 28)).heap.size = w.heap.size + 3 := by simp [hz0]
    rw [hz0] at hC
    clear cG cZ fZ hd hG0 hZ0 hr0 hb0
    generalize w1.alloc (.cells #[.int .u32 0, .slice none 0 0, .slice none 0 0] 28) = w2 at *
    have hr2 := (hr.below hb2).more hb2.size
    have H := caughtParse #[.pointer (some ⟨w.heap.size, 0, none⟩), .pointer (some ⟨w.heap.size + 2, 0, none⟩)] (fun i => i = w.heap.size + 2) (fun a x => configP b 0 = .error (a, x))
      (fun W' => ∃ (x : CfD) (L : List (Gs × Gp)) (A1 : Option Addr) (c1 : Nat) (A2 : Option Addr) (c2 a' : Nat), configP b 0 = .ok (x, a') ∧ Blk W' (w.heap.size + 2) 28 #[.int .u32 x.ver, .slice A1 L.length c1, .slice A2 x.cs.length c2] ∧ ConfO ⟨w.heap.size + 5, A, n, c⟩ x L A1 c1 A2 c2 W')
      (fun W' => ∃ (x : CfD) (L : List (Gs × Gp)) (A1 : Option Addr) (c1 : Nat) (A2 : Option Addr) (c2 a' : Nat), configP b 0 = .ok (x, a') ∧ Blk W' (w.heap.size + 2) 28 #[.int .u32 x.ver, .slice A1 L.length c1, .slice A2 x.cs.length c2] ∧ ConfO ⟨w.heap.size + 5, A, n, c⟩ x L A1 c1 A2 c2 W') w2
      (fun i hi => by omega)
      (fun W hW hs _ _ => by
        have := parse1_any A n c b w.heap.size (w.heap.size + 2) W hl hok (by omega) hnc hcm ((hr2.below hW).more hW.size) (hG2.kept hW) (hC.kept hW)
        rw [show W.heap.size = w.heap.size + 5 by omega] at this
        exact this)
      (fun W W' ⟨x, L, A1, c1, A2, c2, a', h1, h2, h3⟩ hn => ⟨x, L, A1, c1, A2, c2, a', h1, h2.apart hn (by omega), h3.low hn (fun i hi => by show i ≤ w.heap.size + 5; omega)⟩)
    have HH := Lib.hid H
    clear H hr2 hr
    go_upto_region 5 with (go_at_call 26; refine HH.out.mono ?_; rintro e1 w3 ⟨hn3, ⟨a, x, h1, rfl⟩ | ⟨rfl, x, L, A1, c1, A2, c2, a', h1, hC3, hO⟩⟩)
    · have hne := NZ.config b 0 _ h1
      have hd2 : (x != 0) = true := by simp; exact hne
      have hZ3 := hZ2.apart hn3 (by omega)
      have cZ := hZ3.cell
      have fZ := hZ3.frozen
      have hpc : parseC b = .error (a, x) := by unfold parseC; rw [if_neg (by omega), h1]
      have HPc := Lib.hid hpc
      clear hpc h1
      go_wp2_with fail
      have h3 := ((hZ3.set_ 0 (.int .u32 0)).set_ 1 (.slice none 0 0)).set_ 2 (.slice none 0 0)
      have hb3 := hb2.trans (hn3.below (fun i hi => by omega) hb2.size)
      refine bodyPost_ret (v := .tuple #[.agg #[.int .u32 0, .slice none 0 0, .slice none 0 0], .int .i64 a, .int .i64 x]) (by simp [results, Try.results13, go_sem, cZ]) rfl ⟨?_, .inl ⟨a, x, HPc.out, hne, rfl⟩⟩
      exact ((hb3.setCell (p := ⟨w.heap.size + 1, 0, none⟩) (by show w.heap.size ≤ w.heap.size + 1; omega) _).setCell (p := ⟨w.heap.size + 1, 1, none⟩) (by show w.heap.size ≤ w.heap.size + 1; omega) _).setCell (p := ⟨w.heap.size + 1, 2, none⟩) (by show w.heap.size ≤ w.heap.size + 1; omega) _
    have hZ3 := hZ2.apart hn3 (by omega)
    have cZ := hZ3.cell
    have fZ := hZ3.frozen
    have cC := hC3.cell
    have hpc : parseC b = .ok x := by unfold parseC; rw [if_neg (by omega), h1]
    have HPc := Lib.hid hpc
    clear hpc h1
    go_wp2_with fail
    have hb3 := hb2.trans (hn3.below (fun i hi => by omega) hb2.size)
    have hn' : Near (fun i => i = w.heap.size + 1) w3 (((w3.setCell ⟨w.heap.size + 1, 0, none⟩ (.int .u32 x.ver)).setCell ⟨w.heap.size + 1, 1, none⟩ (.slice A1 L.length c1)).setCell ⟨w.heap.size + 1, 2, none⟩ (.slice A2 x.cs.length c2)) :=
      (((Near.refl (fun i => i = w.heap.size + 1) w3).setCell (p := ⟨w.heap.size + 1, 0, none⟩) rfl _).setCell (p := ⟨w.heap.size + 1, 1, none⟩) rfl _).setCell (p := ⟨w.heap.size + 1, 2, none⟩) rfl _
    refine bodyPost_ret (v := .tuple #[.agg #[.int .u32 x.ver, .slice A1 L.length c1, .slice A2 x.cs.length c2], .int .i64 0, .int .i64 0]) (by simp [results, Try.results13, go_sem, cZ]) rfl ⟨?_, .inr ⟨x, L, A1, c1, A2, c2, HPc.out, rfl, hO.gs, ?_⟩⟩
    · exact ((hb3.setCell (p := ⟨w.heap.size + 1, 0, none⟩) (by show w.heap.size ≤ w.heap.size + 1; omega) _).setCell (p := ⟨w.heap.size + 1, 1, none⟩) (by show w.heap.size ≤ w.heap.size + 1; omega) _).setCell (p := ⟨w.heap.size + 1, 2, none⟩) (by show w.heap.size ≤ w.heap.size + 1; omega) _
    · exact (hO.low hn' (fun i hi => by show i ≤ w.heap.size + 5; omega)).read
end Go.Proofs.Ytmhbpfclfffgkaa
