/- Chapter 14: the parser's windows, devices, interrupts, ends; walked. -/
import Derived.Test.YtmhbpfclfffgkaaCfR
namespace Go.Proofs.Ytmhbpfclfffgkaa
set_option linter.unusedVariables false
set_option linter.unusedSimpArgs false
open Go.RowKit Go.Sort

/-- The parser on its way, in a call that began at w0. -/
structure PSt (p : Prs) (b : List Int) (B : Nat) (w0 : World) (a : Nat) (w : World) : Prop where
  rows : PRows w p b B
  box : Blk w p.g 56 (p.cs a)
  le : a ≤ p.n
  near : Near (fun i => i = p.g) w0 w
  lt : p.g < w0.heap.size
section
variable {p : Prs} {b : List Int} {B a : Nat} {w0 w w' : World}
theorem PSt.start (hR : PRows w p b B) (hB : Blk w p.g 56 (p.cs a)) (ha : a ≤ p.n) : PSt p b B w a w := ⟨hR, hB, ha, Near.refl _ _, hB.lt⟩
theorem PSt.below (h : PSt p b B w0 a w) (hb : Below w.heap.size w w') : PSt p b B w0 a w' := ⟨h.rows.near (Near.of_below _ hb) h.box.lt, h.box.kept hb, h.le, h.near.trans (Near.of_below _ hb), h.lt⟩
theorem PSt.alloc (h : PSt p b B w0 a w) (o : Obj) : PSt p b B w0 a (w.alloc o) := h.below (bal (Below.refl _ _) o)
theorem PSt.set (h : PSt p b B w0 a w) {q : Addr} (hq : w0.heap.size ≤ q.block) (u : Value) : PSt p b B w0 a (w.setCell q u) :=
  ⟨⟨h.rows.hb, h.rows.ok, h.rows.m, h.rows.mc, h.rows.cm, h.rows.gB, h.rows.r.setCell (by have := h.rows.gB; have := h.lt; omega) u⟩, h.box.far (by have := h.lt; omega) u, h.le,
   h.near.step (S2 := fun i => i = q.block) ((Near.refl (fun i => i = q.block) w).setCell (p := q) rfl u) (fun i hi => .inr (by omega)), h.lt⟩
theorem PSt.drew (h : PSt p b B w0 a w) : PSt p b B w0 a w.drew := h.below (Below.refl _ _).drew
/-- What a reading call answers here. -/
def PAns {α : Type} (p : Prs) (b : List Int) (B : Nat) (w0 : World) (Rv : α → Value → World → Prop) (r : PE α) (w : World) (e : Ending) (w' : World) : Prop :=
  Near (fun i => i = p.g) w w' ∧ ((∃ (a : Nat) (x : Int), r = .error (a, x) ∧ e = thrownC a x ∧ Near (fun i => i = p.g) w0 w') ∨ ∃ (x : α) (a' : Nat) (v : Value), r = .ok (x, a') ∧ e = .returned v ∧ Rv x v w' ∧ PSt p b B w0 a' w')
theorem PCall.at {α : Type} {f : FuncId} {args : Prs → Array Value} {s : PR α} {Rv : Prs → Nat → α → Value → World → Prop} (H : PCall f args s Rv) (hs : Fwd s) (h : PSt p b B w0 a w) : Calls Try.prog f (args p) w (PAns p b B w0 (Rv p B) (s b a) w) :=
  (H p b B a w h.rows h.box h.le).mono fun e w' ⟨hn, ho⟩ => by
    refine ⟨hn, ?_⟩
    rcases ho with ⟨a1, x, h1, h2⟩ | ⟨x, a', v, h1, h2, h3, h4⟩
    · exact .inl ⟨a1, x, h1, h2, h.near.trans hn⟩
    · exact .inr ⟨x, a', v, h1, h2, h3, h.rows.near hn h.box.lt, h4, by have := (hs b a x a' h1 (by rw [h.rows.hb]; exact h.le)).2; rwa [h.rows.hb] at this, h.near.trans hn, h.lt⟩
theorem Blk.apart {g : Nat} {T : TypeId} {cs : Array Value} (h : Blk w g T cs) {S : Nat → Prop} (hn : Near S w w') (hne : ¬ S g) : Blk w' g T cs := h.same (hn.block _ h.lt hne)
end
/-- A box of the call's own. -/
theorem PSt.far {p : Prs} {b : List Int} {B a g : Nat} {w0 w : World} (h : PSt p b B w0 a w) (hg : w0.heap.size ≤ g) : ¬ g = p.g := by have := h.lt; omega
theorem in_i64s {x m : Int} (h0 : 0 ≤ x) (h1 : x ≤ m) (hm : m ≤ 65535) : inI64 x := by unfold inI64; omega
set_option maxHeartbeats 1000000 in
theorem dev_any : PCall 103 (fun p => #[.pointer (some ⟨p.g, 0, none⟩)]) devP (fun p B x v w => v = .agg (encDv x).toArray ∧ DvOk x) := by
  intro p b B a w hR hB ha
  have hS := PSt.start hR hB ha
  clear hR hB ha
  go_enter Try.func103, Try.ntmps103
  go_upto_region 1 with (fail)
  have hZ := Blk.new w 137 #[.int .u64 0, .int .u64 0, .int .u64 0]
  have hS := hS.alloc (.cells #[.int .u64 0, .int .u64 0, .int .u64 0] 137)
  have hz1 : w.heap.size + 1 ≤ (w.alloc (.cells #[.int .u64 0, .int .u64 0, .int .u64 0] 137)).heap.size := by simp
  generalize w.alloc (.cells #[.int .u64 0, .int .u64 0, .int .u64 0] 137) = w1 at *
  obtain ⟨rb, hrb⟩ : ∃ rb, w.heap.size = rb := ⟨_, rfl⟩
  have hrl : w.heap.size ≤ rb := by omega
  rw [hrb] at hZ hz1 ⊢
  have H := Lib.hid (wide_any.at (.num _ _ _) hS)
  go_upto_region 2 with (go_at_call 98; refine H.out.mono ?_; rintro e1 w2 ⟨hn1, ⟨a1, y1, h1, rfl, hN⟩ | ⟨x1, a1, v, h1, rfl, ⟨rfl, r1⟩, hS⟩⟩)
  case inl => exact ⟨rfl, hN, .inl ⟨_, _, by simp only [devP, PR.bnd, h1], rfl⟩⟩
  have hZ := hZ.apart hn1 (hS.far hrl)
  have hT := Blk.new w2 137 #[.int .u64 x1, .int .u64 0, .int .u64 0]
  have hS := hS.alloc (.cells #[.int .u64 x1, .int .u64 0, .int .u64 0] 137)
  have hZ := hZ.alloc (.cells #[.int .u64 x1, .int .u64 0, .int .u64 0] 137)
  have hz2 := hn1.size
  obtain ⟨tb, htb⟩ : ∃ tb, w2.heap.size = tb := ⟨_, rfl⟩
  have htl : w.heap.size ≤ tb := by omega
  have hrt : rb ≠ tb := by omega
  rw [htb] at hT ⊢
  generalize w2.alloc (.cells #[.int .u64 x1, .int .u64 0, .int .u64 0] 137) = w3 at *
  clear hrb htb hz1 hz2 hn1 H
  have H := Lib.hid (wide_any.at (.num _ _ _) hS)
  go_upto_region 3 with (go_at_call 98; refine H.out.mono ?_; rintro e1 w1 ⟨hn1, ⟨a1, y1, h2, rfl, hN⟩ | ⟨x2, a2, v, h2, rfl, ⟨rfl, r2⟩, hS⟩⟩ <;> (have hT := hT.apart hn1 (hS.far htl); have cT := hT.cell; have fT := hT.frozen))
  case inl => exact ⟨rfl, hN, .inl ⟨_, _, by simp only [devP, PR.bnd, h1, h2], rfl⟩⟩
  have hZ := (hZ.apart hn1 (hS.far hrl)).far (p := ⟨tb, 1, none⟩) hrt (.int .u64 x2)
  have hS := hS.set (q := ⟨tb, 1, none⟩) htl (.int .u64 x2)
  have hT := hT.set_ 1 (.int .u64 x2)
  clear cT fT hn1 H
  generalize World.setCell w1 ⟨tb, 1, none⟩ (.int .u64 x2) = w2 at *
  simp only [List.setIfInBounds_toArray, List.set_cons_succ, List.set_cons_zero] at hT
  have H := Lib.hid (wide_any.at (.num _ _ _) hS)
  go_upto_region 4 with (go_at_call 98; refine H.out.mono ?_; rintro e1 w1 ⟨hn1, ⟨a1, y1, h3, rfl, hN⟩ | ⟨x3, a3, v, h3, rfl, ⟨rfl, r3⟩, hS⟩⟩ <;> (have hT := hT.apart hn1 (hS.far htl); have cT := hT.cell; have fT := hT.frozen))
  case inl => exact ⟨rfl, hN, .inl ⟨_, _, by simp only [devP, PR.bnd, h1, h2, h3], rfl⟩⟩
  have hZ := (hZ.apart hn1 (hS.far hrl)).far (p := ⟨tb, 2, none⟩) hrt (.int .u64 x3)
  have hS := hS.set (q := ⟨tb, 2, none⟩) htl (.int .u64 x3)
  have hT := hT.set_ 2 (.int .u64 x3)
  clear cT fT hn1 H
  generalize World.setCell w1 ⟨tb, 2, none⟩ (.int .u64 x3) = w2 at *
  simp only [List.setIfInBounds_toArray, List.set_cons_succ, List.set_cons_zero] at hT
  have cT := hT.cell
  have cZ := hZ.cell
  have fZ := hZ.frozen
  go_wp2
  have hS5 := (((hS.set (q := ⟨rb, 0, none⟩) hrl (.int .u64 x1)).set (q := ⟨rb, 1, none⟩) hrl (.int .u64 x2)).set (q := ⟨rb, 2, none⟩) hrl (.int .u64 x3))
  refine bodyPost_ret (v := .agg (encDv ⟨x1, x2, x3⟩).toArray) (by simp [results, Try.results103, go_sem, cZ, encDv]) rfl ⟨hS5.near, .inr ⟨⟨x1, x2, x3⟩, _, _, by simp only [devP, PR.bnd, h1, h2, h3, PR.ret], rfl, ⟨rfl, r1, r2, r3⟩, hS5.box⟩⟩
set_option maxHeartbeats 1000000 in
theorem window_any : PCall 101 (fun p => #[.pointer (some ⟨p.g, 0, none⟩)]) windowP (fun p B x v w => v = .agg (encWn x).toArray ∧ WnOk x) := by
  intro p b B a w hR hB ha
  have hS := PSt.start hR hB ha
  clear hR hB ha
  go_enter Try.func101, Try.ntmps101
  go_upto_region 1 with (fail)
  have hZ := Blk.new w 135 #[.int .u64 0, .int .u64 0, .int .u64 0, .int .i64 0]
  have hS := hS.alloc (.cells #[.int .u64 0, .int .u64 0, .int .u64 0, .int .i64 0] 135)
  have hz1 : w.heap.size + 1 ≤ (w.alloc (.cells #[.int .u64 0, .int .u64 0, .int .u64 0, .int .i64 0] 135)).heap.size := by simp
  generalize w.alloc (.cells #[.int .u64 0, .int .u64 0, .int .u64 0, .int .i64 0] 135) = w1 at *
  obtain ⟨rb, hrb⟩ : ∃ rb, w.heap.size = rb := ⟨_, rfl⟩
  have hrl : w.heap.size ≤ rb := by omega
  rw [hrb] at hZ hz1 ⊢
  have H := Lib.hid (wide_any.at (.num _ _ _) hS)
  go_upto_region 2 with (go_at_call 98; refine H.out.mono ?_; rintro e1 w2 ⟨hn1, ⟨a1, y1, h1, rfl, hN⟩ | ⟨x1, a1, v, h1, rfl, ⟨rfl, r1⟩, hS⟩⟩)
  case inl => exact ⟨rfl, hN, .inl ⟨_, _, by simp only [windowP, PR.bnd, h1], rfl⟩⟩
  have hZ := hZ.apart hn1 (hS.far hrl)
  have hT := Blk.new w2 135 #[.int .u64 x1, .int .u64 0, .int .u64 0, .int .i64 0]
  have hS := hS.alloc (.cells #[.int .u64 x1, .int .u64 0, .int .u64 0, .int .i64 0] 135)
  have hZ := hZ.alloc (.cells #[.int .u64 x1, .int .u64 0, .int .u64 0, .int .i64 0] 135)
  have hz2 := hn1.size
  obtain ⟨tb, htb⟩ : ∃ tb, w2.heap.size = tb := ⟨_, rfl⟩
  have htl : w.heap.size ≤ tb := by omega
  have hrt : rb ≠ tb := by omega
  rw [htb] at hT ⊢
  generalize w2.alloc (.cells #[.int .u64 x1, .int .u64 0, .int .u64 0, .int .i64 0] 135) = w3 at *
  clear hrb htb hz1 hz2 hn1 H
  have H := Lib.hid (wide_any.at (.num _ _ _) hS)
  go_upto_region 3 with (go_at_call 98; refine H.out.mono ?_; rintro e1 w1 ⟨hn1, ⟨a1, y1, h2, rfl, hN⟩ | ⟨x2, a2, v, h2, rfl, ⟨rfl, r2⟩, hS⟩⟩ <;> (have hT := hT.apart hn1 (hS.far htl); have cT := hT.cell; have fT := hT.frozen))
  case inl => exact ⟨rfl, hN, .inl ⟨_, _, by simp only [windowP, PR.bnd, h1, h2], rfl⟩⟩
  have hZ := (hZ.apart hn1 (hS.far hrl)).far (p := ⟨tb, 1, none⟩) hrt (.int .u64 x2)
  have hS := hS.set (q := ⟨tb, 1, none⟩) htl (.int .u64 x2)
  have hT := hT.set_ 1 (.int .u64 x2)
  clear cT fT hn1 H
  generalize World.setCell w1 ⟨tb, 1, none⟩ (.int .u64 x2) = w2 at *
  simp only [List.setIfInBounds_toArray, List.set_cons_succ, List.set_cons_zero] at hT
  have H := Lib.hid (wide_any.at (.num _ _ _) hS)
  go_upto_region 4 with (go_at_call 98; refine H.out.mono ?_; rintro e1 w1 ⟨hn1, ⟨a1, y1, h3, rfl, hN⟩ | ⟨x3, a3, v, h3, rfl, ⟨rfl, r3⟩, hS⟩⟩ <;> (have hT := hT.apart hn1 (hS.far htl); have cT := hT.cell; have fT := hT.frozen))
  case inl => exact ⟨rfl, hN, .inl ⟨_, _, by simp only [windowP, PR.bnd, h1, h2, h3], rfl⟩⟩
  have hZ := (hZ.apart hn1 (hS.far hrl)).far (p := ⟨tb, 2, none⟩) hrt (.int .u64 x3)
  have hS := hS.set (q := ⟨tb, 2, none⟩) htl (.int .u64 x3)
  have hT := hT.set_ 2 (.int .u64 x3)
  clear cT fT hn1 H
  generalize World.setCell w1 ⟨tb, 2, none⟩ (.int .u64 x3) = w2 at *
  simp only [List.setIfInBounds_toArray, List.set_cons_succ, List.set_cons_zero] at hT
  have H := Lib.hid ((number_any 4 7 144 (by decide) (by decide) (by decide)).at (.num _ _ _) hS)
  go_upto_region 5 with (go_at_call 95; refine H.out.mono ?_; rintro e1 w1 ⟨hn1, ⟨a1, y1, h4, rfl, hN⟩ | ⟨x4, a4, v, h4, rfl, ⟨rfl, q4, r4⟩, hS⟩⟩ <;> (have hT := hT.apart hn1 (hS.far htl); have cT := hT.cell; have fT := hT.frozen))
  case inl => exact ⟨rfl, hN, .inl ⟨_, _, by simp only [windowP, PR.bnd, h1, h2, h3, h4], rfl⟩⟩
  have hZ := (hZ.apart hn1 (hS.far hrl)).far (p := ⟨tb, 3, none⟩) hrt (.int .i64 x4)
  have hS := hS.set (q := ⟨tb, 3, none⟩) htl (.int .i64 x4)
  have hT := hT.set_ 3 (.int .i64 x4)
  clear cT fT hn1 H
  generalize World.setCell w1 ⟨tb, 3, none⟩ (.int .i64 x4) = w2 at *
  simp only [List.setIfInBounds_toArray, List.set_cons_succ, List.set_cons_zero] at hT
  have cT := hT.cell
  have cZ := hZ.cell
  have fZ := hZ.frozen
  go_wp2
  have hS5 := ((((hS.set (q := ⟨rb, 0, none⟩) hrl (.int .u64 x1)).set (q := ⟨rb, 1, none⟩) hrl (.int .u64 x2)).set (q := ⟨rb, 2, none⟩) hrl (.int .u64 x3)).set (q := ⟨rb, 3, none⟩) hrl (.int .i64 x4))
  refine bodyPost_ret (v := .agg (encWn ⟨x1, x2, x3, x4⟩).toArray) (by simp [results, Try.results101, go_sem, cZ, encWn]) rfl ⟨hS5.near, .inr ⟨⟨x1, x2, x3, x4⟩, _, _, by simp only [windowP, PR.bnd, h1, h2, h3, h4, PR.ret], rfl, ⟨rfl, r1, r2, r3, by show inI64 x4; unfold inI64; omega⟩, hS5.box⟩⟩
set_option maxHeartbeats 1000000 in
theorem irq_any : PCall 105 (fun p => #[.pointer (some ⟨p.g, 0, none⟩)]) irqP (fun p B x v w => v = .agg (encIq x).toArray ∧ IqOk x) := by
  intro p b B a w hR hB ha
  have hS := PSt.start hR hB ha
  clear hR hB ha
  go_enter Try.func105, Try.ntmps105
  go_upto_region 1 with (fail)
  have hZ := Blk.new w 139 #[.int .i64 0, .int .i64 0, .bool false]
  have hS := hS.alloc (.cells #[.int .i64 0, .int .i64 0, .bool false] 139)
  have hz1 : w.heap.size + 1 ≤ (w.alloc (.cells #[.int .i64 0, .int .i64 0, .bool false] 139)).heap.size := by simp
  generalize w.alloc (.cells #[.int .i64 0, .int .i64 0, .bool false] 139) = w1 at *
  obtain ⟨rb, hrb⟩ : ∃ rb, w.heap.size = rb := ⟨_, rfl⟩
  have hrl : w.heap.size ≤ rb := by omega
  rw [hrb] at hZ hz1 ⊢
  have H := Lib.hid ((half_any 65535 144 (by decide) (by decide)).at (.num _ _ _) hS)
  go_upto_region 2 with (go_at_call 63; refine H.out.mono ?_; rintro e1 w2 ⟨hn1, ⟨a1, y1, h1, rfl, hN⟩ | ⟨x1, a1, v, h1, rfl, ⟨rfl, q1, r1⟩, hS⟩⟩)
  case inl => exact ⟨rfl, hN, .inl ⟨_, _, by simp only [irqP, PR.bnd, h1], rfl⟩⟩
  have hZ := hZ.apart hn1 (hS.far hrl)
  have hT := Blk.new w2 139 #[.int .i64 x1, .int .i64 0, .bool false]
  have hS := hS.alloc (.cells #[.int .i64 x1, .int .i64 0, .bool false] 139)
  have hZ := hZ.alloc (.cells #[.int .i64 x1, .int .i64 0, .bool false] 139)
  have hz2 := hn1.size
  obtain ⟨tb, htb⟩ : ∃ tb, w2.heap.size = tb := ⟨_, rfl⟩
  have htl : w.heap.size ≤ tb := by omega
  have hrt : rb ≠ tb := by omega
  rw [htb] at hT ⊢
  generalize w2.alloc (.cells #[.int .i64 x1, .int .i64 0, .bool false] 139) = w3 at *
  clear hrb htb hz1 hz2 hn1 H
  have H := Lib.hid ((half_any 65535 144 (by decide) (by decide)).at (.num _ _ _) hS)
  go_upto_region 3 with (go_at_call 63; refine H.out.mono ?_; rintro e1 w1 ⟨hn1, ⟨a1, y1, h2, rfl, hN⟩ | ⟨x2, a2, v, h2, rfl, ⟨rfl, q2, r2⟩, hS⟩⟩ <;> (have hT := hT.apart hn1 (hS.far htl); have cT := hT.cell; have fT := hT.frozen))
  case inl => exact ⟨rfl, hN, .inl ⟨_, _, by simp only [irqP, PR.bnd, h1, h2], rfl⟩⟩
  have hZ := (hZ.apart hn1 (hS.far hrl)).far (p := ⟨tb, 1, none⟩) hrt (.int .i64 x2)
  have hS := hS.set (q := ⟨tb, 1, none⟩) htl (.int .i64 x2)
  have hT := hT.set_ 1 (.int .i64 x2)
  clear cT fT hn1 H
  generalize World.setCell w1 ⟨tb, 1, none⟩ (.int .i64 x2) = w2 at *
  simp only [List.setIfInBounds_toArray, List.set_cons_succ, List.set_cons_zero] at hT
  have H := Lib.hid (bit_any.at .bit hS)
  go_upto_region 4 with (go_at_call 97; refine H.out.mono ?_; rintro e1 w1 ⟨hn1, ⟨a1, y1, h3, rfl, hN⟩ | ⟨x3, a3, v, h3, rfl, rfl, hS⟩⟩ <;> (have hT := hT.apart hn1 (hS.far htl); have cT := hT.cell; have fT := hT.frozen))
  case inl => exact ⟨rfl, hN, .inl ⟨_, _, by simp only [irqP, PR.bnd, h1, h2, h3], rfl⟩⟩
  have hZ := (hZ.apart hn1 (hS.far hrl)).far (p := ⟨tb, 2, none⟩) hrt (.bool x3)
  have hS := hS.set (q := ⟨tb, 2, none⟩) htl (.bool x3)
  have hT := hT.set_ 2 (.bool x3)
  clear cT fT hn1 H
  generalize World.setCell w1 ⟨tb, 2, none⟩ (.bool x3) = w2 at *
  simp only [List.setIfInBounds_toArray, List.set_cons_succ, List.set_cons_zero] at hT
  have cT := hT.cell
  have cZ := hZ.cell
  have fZ := hZ.frozen
  go_wp2
  have hS5 := (((hS.set (q := ⟨rb, 0, none⟩) hrl (.int .i64 x1)).set (q := ⟨rb, 1, none⟩) hrl (.int .i64 x2)).set (q := ⟨rb, 2, none⟩) hrl (.bool x3))
  refine bodyPost_ret (v := .agg (encIq ⟨x1, x2, x3⟩).toArray) (by simp [results, Try.results105, go_sem, cZ, encIq]) rfl ⟨hS5.near, .inr ⟨⟨x1, x2, x3⟩, _, _, by simp only [irqP, PR.bnd, h1, h2, h3, PR.ret], rfl, ⟨rfl, in_i64s q1 r1 (by decide), in_i64s q2 r2 (by decide)⟩, hS5.box⟩⟩
set_option maxHeartbeats 1000000 in
theorem end_any : PCall 107 (fun p => #[.pointer (some ⟨p.g, 0, none⟩)]) endP (fun p B x v w => v = .agg (encEn x).toArray ∧ EnOk x) := by
  intro p b B a w hR hB ha
  have hS := PSt.start hR hB ha
  clear hR hB ha
  go_enter Try.func107, Try.ntmps107
  go_upto_region 1 with (fail)
  have hZ := Blk.new w 74 #[.int .i64 0, .int .i64 0, .int .u64 0]
  have hS := hS.alloc (.cells #[.int .i64 0, .int .i64 0, .int .u64 0] 74)
  have hz1 : w.heap.size + 1 ≤ (w.alloc (.cells #[.int .i64 0, .int .i64 0, .int .u64 0] 74)).heap.size := by simp
  generalize w.alloc (.cells #[.int .i64 0, .int .i64 0, .int .u64 0] 74) = w1 at *
  obtain ⟨rb, hrb⟩ : ∃ rb, w.heap.size = rb := ⟨_, rfl⟩
  have hrl : w.heap.size ≤ rb := by omega
  rw [hrb] at hZ hz1 ⊢
  have H := Lib.hid ((half_any 65535 144 (by decide) (by decide)).at (.num _ _ _) hS)
  go_upto_region 2 with (go_at_call 63; refine H.out.mono ?_; rintro e1 w2 ⟨hn1, ⟨a1, y1, h1, rfl, hN⟩ | ⟨x1, a1, v, h1, rfl, ⟨rfl, q1, r1⟩, hS⟩⟩)
  case inl => exact ⟨rfl, hN, .inl ⟨_, _, by simp only [endP, PR.bnd, h1], rfl⟩⟩
  have hZ := hZ.apart hn1 (hS.far hrl)
  have hT := Blk.new w2 74 #[.int .i64 x1, .int .i64 0, .int .u64 0]
  have hS := hS.alloc (.cells #[.int .i64 x1, .int .i64 0, .int .u64 0] 74)
  have hZ := hZ.alloc (.cells #[.int .i64 x1, .int .i64 0, .int .u64 0] 74)
  have hz2 := hn1.size
  obtain ⟨tb, htb⟩ : ∃ tb, w2.heap.size = tb := ⟨_, rfl⟩
  have htl : w.heap.size ≤ tb := by omega
  have hrt : rb ≠ tb := by omega
  rw [htb] at hT ⊢
  generalize w2.alloc (.cells #[.int .i64 x1, .int .i64 0, .int .u64 0] 74) = w3 at *
  clear hrb htb hz1 hz2 hn1 H
  have H := Lib.hid ((half_any 7 144 (by decide) (by decide)).at (.num _ _ _) hS)
  go_upto_region 3 with (go_at_call 63; refine H.out.mono ?_; rintro e1 w1 ⟨hn1, ⟨a1, y1, h2, rfl, hN⟩ | ⟨x2, a2, v, h2, rfl, ⟨rfl, q2, r2⟩, hS⟩⟩ <;> (have hT := hT.apart hn1 (hS.far htl); have cT := hT.cell; have fT := hT.frozen))
  case inl => exact ⟨rfl, hN, .inl ⟨_, _, by simp only [endP, PR.bnd, h1, h2], rfl⟩⟩
  have hZ := (hZ.apart hn1 (hS.far hrl)).far (p := ⟨tb, 1, none⟩) hrt (.int .i64 x2)
  have hS := hS.set (q := ⟨tb, 1, none⟩) htl (.int .i64 x2)
  have hT := hT.set_ 1 (.int .i64 x2)
  clear cT fT hn1 H
  generalize World.setCell w1 ⟨tb, 1, none⟩ (.int .i64 x2) = w2 at *
  simp only [List.setIfInBounds_toArray, List.set_cons_succ, List.set_cons_zero] at hT
  have H := Lib.hid (wide_any.at (.num _ _ _) hS)
  go_upto_region 4 with (go_at_call 98; refine H.out.mono ?_; rintro e1 w1 ⟨hn1, ⟨a1, y1, h3, rfl, hN⟩ | ⟨x3, a3, v, h3, rfl, ⟨rfl, r3⟩, hS⟩⟩ <;> (have hT := hT.apart hn1 (hS.far htl); have cT := hT.cell; have fT := hT.frozen))
  case inl => exact ⟨rfl, hN, .inl ⟨_, _, by simp only [endP, PR.bnd, h1, h2, h3], rfl⟩⟩
  have hZ := (hZ.apart hn1 (hS.far hrl)).far (p := ⟨tb, 2, none⟩) hrt (.int .u64 x3)
  have hS := hS.set (q := ⟨tb, 2, none⟩) htl (.int .u64 x3)
  have hT := hT.set_ 2 (.int .u64 x3)
  clear cT fT hn1 H
  generalize World.setCell w1 ⟨tb, 2, none⟩ (.int .u64 x3) = w2 at *
  simp only [List.setIfInBounds_toArray, List.set_cons_succ, List.set_cons_zero] at hT
  have cT := hT.cell
  have cZ := hZ.cell
  have fZ := hZ.frozen
  go_wp2
  have hS5 := (((hS.set (q := ⟨rb, 0, none⟩) hrl (.int .i64 x1)).set (q := ⟨rb, 1, none⟩) hrl (.int .i64 x2)).set (q := ⟨rb, 2, none⟩) hrl (.int .u64 x3))
  refine bodyPost_ret (v := .agg (encEn ⟨x1, x2, x3⟩).toArray) (by simp [results, Try.results107, go_sem, cZ, encEn]) rfl ⟨hS5.near, .inr ⟨⟨x1, x2, x3⟩, _, _, by simp only [endP, PR.bnd, h1, h2, h3, PR.ret], rfl, ⟨rfl, in_i64s q1 r1 (by decide), in_i64s q2 r2 (by decide), r3⟩, hS5.box⟩⟩
end Go.Proofs.Ytmhbpfclfffgkaa
