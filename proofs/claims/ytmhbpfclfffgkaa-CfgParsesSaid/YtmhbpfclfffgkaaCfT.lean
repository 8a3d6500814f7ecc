/- Chapter 14: the parser's lists; walked. -/
import Derived.Test.YtmhbpfclfffgkaaCfS
import Derived.Test.YtmhbpfclfffgkaaParts
namespace Go.Proofs.Ytmhbpfclfffgkaa
set_option linter.unusedVariables false
set_option linter.unusedSimpArgs false
open Go.RowKit Go.Sort

/-- What a list's elements are in memory. -/
structure ElemL (T : TypeId) (size : Nat) {ρ : Type} (enc : ρ → List Value) (ok : Prs → ρ → World → Prop) : Prop where
  len : ∀ {p x w}, ok p x w → (enc x).length = size
  one : ∀ {p x w}, ok p x w → ∀ u ∈ enc x, u.oneCell' = true
  near : ∀ {p : Prs} {x w w'}, ok p x w → Near (fun i => i = p.g) w w' → ok p x w'
  grow : ∀ {p x w w' base v n xs}, ok p x w → w.ownsRow base T size v n xs → w.grownBy w' v.ownBlock → ok p x w'
/-- An element, a list of elements. -/
def OneR {ρ α : Type} (val : ρ → Value) (pr : ρ → α) (ok : Prs → ρ → World → Prop) : Prs → Nat → α → Value → World → Prop := fun p _ x v w => ∃ r, pr r = x ∧ v = val r ∧ ok p r w
def ListR (T : TypeId) (size : Nat) {ρ α : Type} (enc : ρ → List Value) (pr : ρ → α) (ok : Prs → ρ → World → Prop) : Prs → Nat → List α → Value → World → Prop := fun p _ l v w =>
  ∃ (L : List ρ) (base : Nat), L.map pr = l ∧ (∀ r ∈ L, ok p r w) ∧ p.g < base ∧ w.ownsRow base T size v L.length (L.flatMap enc)
theorem own_near_g {w w' : World} {base e size n g : Nat} {v : Value} {xs : List Value} (h : w.ownsRow base e size v n xs) (hg : g < base) (hn : Near (fun i => i = g) w w') : w'.ownsRow base e size v n xs :=
  own_same h fun k hk => hn.block k (own_lt h hk).2 (by have := (own_lt h hk).1; omega)
theorem PSt.grown {p : Prs} {b : List Int} {B a : Nat} {w0 w w' : World} {row : Option Nat} (h : PSt p b B w0 a w) (hg : w.grownBy w' row) (hr : ∀ k, row = some k → w0.heap.size ≤ k) : PSt p b B w0 a w' := by
  have hlt := h.lt
  have hB := h.rows.gB
  have hbel : Below B w w' := ⟨hg.os, hg.tape, hg.output, hg.size, fun i hi => hg.block i (by have := h.near.size; omega) (fun e => by have := hr i e.symm; omega)⟩
  refine ⟨⟨h.rows.hb, h.rows.ok, h.rows.m, h.rows.mc, h.rows.cm, h.rows.gB, h.rows.r.below hbel⟩, h.box.grown hg (fun e => by have := hr _ e.symm; omega), h.le, ?_, hlt⟩
  exact h.near.step (S2 := fun i => row = some i) ((Near.refl (fun i => row = some i) w).grown hg (fun k hk => hk)) (fun i hi => .inr (hr i hi))
/-- A slice literal of one element. -/
theorem slice_one {t e : TypeId} {k by_ : Nat} (E : ElemInfo Try.prog t e k by_) (hk : k ≤ 1000) (w : World) (v : Value) (hl : v.cells.size = k) : (Instr.buildSlice t 1 #[(0, v)]).run Try.prog w = .ok (.slice (some ⟨w.heap.size, 0, none⟩) 1 1) (w.alloc (.cells v.cells e)) := by
  obtain ⟨ht, ⟨i, z, hi, hz, hs, hb, hzs⟩, hpos⟩ := E
  refine run_buildSlice w _ _ 1 _ v.cells i _ ht hi hz (by rw [hs]; omega) (by rw [hs]; omega) ?_
  have := Great.fill_whole (s := k) hpos [v] ((Array.range (1 * i.size)).map (z.cells[· % z.cells.size]!)) (fun u hu => by simp at hu; subst hu; exact hl) (by simp [hs])
  rw [hs] at this ⊢
  simpa using this
set_option maxRecDepth 100000 in
set_option maxHeartbeats 2000000 in
theorem listW {ρ α : Type} {enc : ρ → List Value} {pr : ρ → α} {ok : Prs → ρ → World → Prop} {s : PR α} (hE : ElemL 135 4 enc ok) (E : ElemInfo Try.prog 65 135 4 32) (n : Nat) (hn : n ≤ 1000) (hfw : Fwd s)
    (H : PCall 101 (fun p => #[.pointer (some ⟨p.g, 0, none⟩)]) s (OneR (fun r => (Value.agg (enc r).toArray)) pr ok)) :
    PCall 100 (fun p => #[.int .i64 n, .func (.func 101) #[.pointer (some ⟨p.g, 0, none⟩)] #[]]) (listP s n) (ListR 135 4 enc pr ok) := by
  intro p b B a w hR hB ha
  have hS := PSt.start hR hB ha
  have HH := Lib.hid (fun a W (hS : PSt p b B w a W) => H.at hfw hS)
  have HE := Lib.hid hE
  have HE2 := Lib.hid E
  have hgl := hB.lt
  clear hR hB ha H hE E
  go_enter Try.func100, Try.ntmps100
  go_wp2_with fail
  go_loopw [5, 7] (fun sl i wr => ∃ (k a' : Nat) (l : List α) (L : List ρ), k ≤ n ∧ i = .int .i64 k ∧ Hid (listP s k b a = .ok (l, a') ∧ L.map pr = l ∧ L.length = k) ∧ PSt p b B w a' wr ∧ Hid (∀ r ∈ L, ok p r wr) ∧ wr.ownsRow w.heap.size 135 4 sl k (L.flatMap enc)) (fun _ i _ => n - (intOf i).toNat)
  case atStart => exact ⟨0, a, [], [], by omega, rfl, Lib.hid ⟨rfl, rfl, rfl⟩, hS, Lib.hid (fun r hr => by cases hr), World.ownsRow_nil _ _ _ _⟩
  case round =>
    obtain ⟨k, a', l, L, hk, rfl, hl, hSr, hok, hown⟩ := hrel
    by_cases hlt : k < n
    · have HC := Lib.hid (HH.out a' wr hSr)
      have hq : decide ((k : Int) < (n : Int)) = true := decide_eq_true (by omega)
      go_wp2_with (first
        | (go_at_call 101; refine HC.out.mono ?_; rintro e1 w1 ⟨hn1, ⟨a1, y1, h1, rfl, hN⟩ | ⟨x1, a1, v, h1, rfl, ⟨r, rfl, rfl, hr⟩, hS1⟩⟩ <;> (have hown1 := own_near_g hown hgl hn1; try (have hlen := HE.out.len hr; have hown2 := hown1.alloc (.cells (enc r).toArray 135); have hRd : Rd (w1.alloc (.cells (enc r).toArray 135)) (w1.alloc (.cells (enc r).toArray 135)).heap.size 4 (some ⟨w1.heap.size, 0, none⟩) 1 (enc r) := (by have := Rd.fresh w1 (enc r).toArray 135 1 4 w1.heap.size (by show (enc r).toArray.size = _; simpa using hlen) rfl; simpa using this); have HSl := Lib.hid (slice_one HE2.out (by decide) w1 (Value.agg (enc r).toArray) (by show (enc r).toArray.size = _; simpa using hlen)))))
        | (refine wpList_builtSlice rfl 65 1 #[(0, .tmp 11)] rfl (vals := #[(0, (Value.agg (enc r).toArray))]) (by go_simp) HSl.out ?_)
        | (at_builtin; refine wpList_app HE2.out rfl (.tmp 9) (.tmp 12) rfl w.heap.size hown2 rfl rfl hRd (HE.out.one hr) (by unfold maxLen; omega) (by omega) (by have := hS1.near.size; simp; omega) ?_; intro v' w' hown' hb' hg'))
      · exact ⟨rfl, hN, .inl ⟨_, _, listP_stop hl.out.1 h1 hlt, rfl⟩⟩
      · go_roundw
        case rel =>
          have hz1 : Below w1.heap.size w1 (w1.alloc (.cells (enc r).toArray 135)) := bal (Below.refl _ _) _
          refine ⟨k + 1, a1, l ++ [pr r], L ++ [r], by omega, by go_num, Lib.hid ⟨listP_step hl.out.1 h1, by rw [List.map_append, hl.out.2.1]; rfl, by rw [List.length_append, hl.out.2.2]; rfl⟩, (hS1.alloc _).grown hg' (fun j hj => (own_lt hown2 hj).1), Lib.hid (fun q hq => ?_), by rw [List.flatMap_append]; simpa using hown'⟩
          rcases List.mem_append.1 hq with hq | hq
          · exact HE.out.grow (HE.out.near (HE.out.near (hok.out q hq) hn1) (Near.of_below _ hz1)) hown2 hg'
          · obtain rfl : q = r := by simpa using hq
            exact HE.out.grow (HE.out.near hr (Near.of_below _ hz1)) hown2 hg'
        case measure => simp [intOf]; omega
    · obtain rfl : k = n := by omega
      have hq : decide ((k : Int) < (k : Int)) = false := decide_eq_false (by omega)
      go_wp2_with fail
      go_ret
      refine ⟨hSr.near, .inr ⟨l, a', _, hl.out.1, rfl, ⟨L, w.heap.size, hl.out.2.1, hok.out, hgl, by rw [hl.out.2.2]; exact hown⟩, hSr.box⟩⟩
set_option maxRecDepth 100000 in
set_option maxHeartbeats 2000000 in
theorem listD {ρ α : Type} {enc : ρ → List Value} {pr : ρ → α} {ok : Prs → ρ → World → Prop} {s : PR α} (hE : ElemL 137 3 enc ok) (E : ElemInfo Try.prog 66 137 3 24) (n : Nat) (hn : n ≤ 1000) (hfw : Fwd s)
    (H : PCall 103 (fun p => #[.pointer (some ⟨p.g, 0, none⟩)]) s (OneR (fun r => (Value.agg (enc r).toArray)) pr ok)) :
    PCall 102 (fun p => #[.int .i64 n, .func (.func 103) #[.pointer (some ⟨p.g, 0, none⟩)] #[]]) (listP s n) (ListR 137 3 enc pr ok) := by
  intro p b B a w hR hB ha
  have hS := PSt.start hR hB ha
  have HH := Lib.hid (fun a W (hS : PSt p b B w a W) => H.at hfw hS)
  have HE := Lib.hid hE
  have HE2 := Lib.hid E
  have hgl := hB.lt
  clear hR hB ha H hE E
  go_enter Try.func102, Try.ntmps102
  go_wp2_with fail
  go_loopw [5, 7] (fun sl i wr => ∃ (k a' : Nat) (l : List α) (L : List ρ), k ≤ n ∧ i = .int .i64 k ∧ Hid (listP s k b a = .ok (l, a') ∧ L.map pr = l ∧ L.length = k) ∧ PSt p b B w a' wr ∧ Hid (∀ r ∈ L, ok p r wr) ∧ wr.ownsRow w.heap.size 137 3 sl k (L.flatMap enc)) (fun _ i _ => n - (intOf i).toNat)
  case atStart => exact ⟨0, a, [], [], by omega, rfl, Lib.hid ⟨rfl, rfl, rfl⟩, hS, Lib.hid (fun r hr => by cases hr), World.ownsRow_nil _ _ _ _⟩
  case round =>
    obtain ⟨k, a', l, L, hk, rfl, hl, hSr, hok, hown⟩ := hrel
    by_cases hlt : k < n
    · have HC := Lib.hid (HH.out a' wr hSr)
      have hq : decide ((k : Int) < (n : Int)) = true := decide_eq_true (by omega)
      go_wp2_with (first
        | (go_at_call 103; refine HC.out.mono ?_; rintro e1 w1 ⟨hn1, ⟨a1, y1, h1, rfl, hN⟩ | ⟨x1, a1, v, h1, rfl, ⟨r, rfl, rfl, hr⟩, hS1⟩⟩ <;> (have hown1 := own_near_g hown hgl hn1; try (have hlen := HE.out.len hr; have hown2 := hown1.alloc (.cells (enc r).toArray 137); have hRd : Rd (w1.alloc (.cells (enc r).toArray 137)) (w1.alloc (.cells (enc r).toArray 137)).heap.size 3 (some ⟨w1.heap.size, 0, none⟩) 1 (enc r) := (by have := Rd.fresh w1 (enc r).toArray 137 1 3 w1.heap.size (by show (enc r).toArray.size = _; simpa using hlen) rfl; simpa using this); have HSl := Lib.hid (slice_one HE2.out (by decide) w1 (Value.agg (enc r).toArray) (by show (enc r).toArray.size = _; simpa using hlen)))))
        | (refine wpList_builtSlice rfl 66 1 #[(0, .tmp 11)] rfl (vals := #[(0, (Value.agg (enc r).toArray))]) (by go_simp) HSl.out ?_)
        | (at_builtin; refine wpList_app HE2.out rfl (.tmp 9) (.tmp 12) rfl w.heap.size hown2 rfl rfl hRd (HE.out.one hr) (by unfold maxLen; omega) (by omega) (by have := hS1.near.size; simp; omega) ?_; intro v' w' hown' hb' hg'))
      · exact ⟨rfl, hN, .inl ⟨_, _, listP_stop hl.out.1 h1 hlt, rfl⟩⟩
      · go_roundw
        case rel =>
          have hz1 : Below w1.heap.size w1 (w1.alloc (.cells (enc r).toArray 137)) := bal (Below.refl _ _) _
          refine ⟨k + 1, a1, l ++ [pr r], L ++ [r], by omega, by go_num, Lib.hid ⟨listP_step hl.out.1 h1, by rw [List.map_append, hl.out.2.1]; rfl, by rw [List.length_append, hl.out.2.2]; rfl⟩, (hS1.alloc _).grown hg' (fun j hj => (own_lt hown2 hj).1), Lib.hid (fun q hq => ?_), by rw [List.flatMap_append]; simpa using hown'⟩
          rcases List.mem_append.1 hq with hq | hq
          · exact HE.out.grow (HE.out.near (HE.out.near (hok.out q hq) hn1) (Near.of_below _ hz1)) hown2 hg'
          · obtain rfl : q = r := by simpa using hq
            exact HE.out.grow (HE.out.near hr (Near.of_below _ hz1)) hown2 hg'
        case measure => simp [intOf]; omega
    · obtain rfl : k = n := by omega
      have hq : decide ((k : Int) < (k : Int)) = false := decide_eq_false (by omega)
      go_wp2_with fail
      go_ret
      refine ⟨hSr.near, .inr ⟨l, a', _, hl.out.1, rfl, ⟨L, w.heap.size, hl.out.2.1, hok.out, hgl, by rw [hl.out.2.2]; exact hown⟩, hSr.box⟩⟩
set_option maxRecDepth 100000 in
set_option maxHeartbeats 2000000 in
theorem listI {ρ α : Type} {enc : ρ → List Value} {pr : ρ → α} {ok : Prs → ρ → World → Prop} {s : PR α} (hE : ElemL 139 3 enc ok) (E : ElemInfo Try.prog 67 139 3 24) (n : Nat) (hn : n ≤ 1000) (hfw : Fwd s)
    (H : PCall 105 (fun p => #[.pointer (some ⟨p.g, 0, none⟩)]) s (OneR (fun r => (Value.agg (enc r).toArray)) pr ok)) :
    PCall 104 (fun p => #[.int .i64 n, .func (.func 105) #[.pointer (some ⟨p.g, 0, none⟩)] #[]]) (listP s n) (ListR 139 3 enc pr ok) := by
  intro p b B a w hR hB ha
  have hS := PSt.start hR hB ha
  have HH := Lib.hid (fun a W (hS : PSt p b B w a W) => H.at hfw hS)
  have HE := Lib.hid hE
  have HE2 := Lib.hid E
  have hgl := hB.lt
  clear hR hB ha H hE E
  go_enter Try.func104, Try.ntmps104
  go_wp2_with fail
  go_loopw [5, 7] (fun sl i wr => ∃ (k a' : Nat) (l : List α) (L : List ρ), k ≤ n ∧ i = .int .i64 k ∧ Hid (listP s k b a = .ok (l, a') ∧ L.map pr = l ∧ L.length = k) ∧ PSt p b B w a' wr ∧ Hid (∀ r ∈ L, ok p r wr) ∧ wr.ownsRow w.heap.size 139 3 sl k (L.flatMap enc)) (fun _ i _ => n - (intOf i).toNat)
  case atStart => exact ⟨0, a, [], [], by omega, rfl, Lib.hid ⟨rfl, rfl, rfl⟩, hS, Lib.hid (fun r hr => by cases hr), World.ownsRow_nil _ _ _ _⟩
  case round =>
    obtain ⟨k, a', l, L, hk, rfl, hl, hSr, hok, hown⟩ := hrel
    by_cases hlt : k < n
    · have HC := Lib.hid (HH.out a' wr hSr)
      have hq : decide ((k : Int) < (n : Int)) = true := decide_eq_true (by omega)
      go_wp2_with (first
        | (go_at_call 105; refine HC.out.mono ?_; rintro e1 w1 ⟨hn1, ⟨a1, y1, h1, rfl, hN⟩ | ⟨x1, a1, v, h1, rfl, ⟨r, rfl, rfl, hr⟩, hS1⟩⟩ <;> (have hown1 := own_near_g hown hgl hn1; try (have hlen := HE.out.len hr; have hown2 := hown1.alloc (.cells (enc r).toArray 139); have hRd : Rd (w1.alloc (.cells (enc r).toArray 139)) (w1.alloc (.cells (enc r).toArray 139)).heap.size 3 (some ⟨w1.heap.size, 0, none⟩) 1 (enc r) := (by have := Rd.fresh w1 (enc r).toArray 139 1 3 w1.heap.size (by show (enc r).toArray.size = _; simpa using hlen) rfl; simpa using this); have HSl := Lib.hid (slice_one HE2.out (by decide) w1 (Value.agg (enc r).toArray) (by show (enc r).toArray.size = _; simpa using hlen)))))
        | (refine wpList_builtSlice rfl 67 1 #[(0, .tmp 11)] rfl (vals := #[(0, (Value.agg (enc r).toArray))]) (by go_simp) HSl.out ?_)
        | (at_builtin; refine wpList_app HE2.out rfl (.tmp 9) (.tmp 12) rfl w.heap.size hown2 rfl rfl hRd (HE.out.one hr) (by unfold maxLen; omega) (by omega) (by have := hS1.near.size; simp; omega) ?_; intro v' w' hown' hb' hg'))
      · exact ⟨rfl, hN, .inl ⟨_, _, listP_stop hl.out.1 h1 hlt, rfl⟩⟩
      · go_roundw
        case rel =>
          have hz1 : Below w1.heap.size w1 (w1.alloc (.cells (enc r).toArray 139)) := bal (Below.refl _ _) _
          refine ⟨k + 1, a1, l ++ [pr r], L ++ [r], by omega, by go_num, Lib.hid ⟨listP_step hl.out.1 h1, by rw [List.map_append, hl.out.2.1]; rfl, by rw [List.length_append, hl.out.2.2]; rfl⟩, (hS1.alloc _).grown hg' (fun j hj => (own_lt hown2 hj).1), Lib.hid (fun q hq => ?_), by rw [List.flatMap_append]; simpa using hown'⟩
          rcases List.mem_append.1 hq with hq | hq
          · exact HE.out.grow (HE.out.near (HE.out.near (hok.out q hq) hn1) (Near.of_below _ hz1)) hown2 hg'
          · obtain rfl : q = r := by simpa using hq
            exact HE.out.grow (HE.out.near hr (Near.of_below _ hz1)) hown2 hg'
        case measure => simp [intOf]; omega
    · obtain rfl : k = n := by omega
      have hq : decide ((k : Int) < (k : Int)) = false := decide_eq_false (by omega)
      go_wp2_with fail
      go_ret
      refine ⟨hSr.near, .inr ⟨l, a', _, hl.out.1, rfl, ⟨L, w.heap.size, hl.out.2.1, hok.out, hgl, by rw [hl.out.2.2]; exact hown⟩, hSr.box⟩⟩
set_option maxRecDepth 100000 in
set_option maxHeartbeats 2000000 in
theorem listC {ρ α : Type} {enc : ρ → List Value} {pr : ρ → α} {ok : Prs → ρ → World → Prop} {s : PR α} (hE : ElemL 77 8 enc ok) (E : ElemInfo Try.prog 26 77 8 64) (n : Nat) (hn : n ≤ 1000) (hfw : Fwd s)
    (H : PCall 67 (fun p => #[.pointer (some ⟨p.g, 0, none⟩)]) s (OneR (fun r => (Value.agg (enc r).toArray)) pr ok)) :
    PCall 66 (fun p => #[.int .i64 n, .func (.func 67) #[.pointer (some ⟨p.g, 0, none⟩)] #[]]) (listP s n) (ListR 77 8 enc pr ok) := by
  intro p b B a w hR hB ha
  have hS := PSt.start hR hB ha
  have HH := Lib.hid (fun a W (hS : PSt p b B w a W) => H.at hfw hS)
  have HE := Lib.hid hE
  have HE2 := Lib.hid E
  have hgl := hB.lt
  clear hR hB ha H hE E
  go_enter Try.func66, Try.ntmps66
  go_wp2_with fail
  go_loopw [5, 7] (fun sl i wr => ∃ (k a' : Nat) (l : List α) (L : List ρ), k ≤ n ∧ i = .int .i64 k ∧ Hid (listP s k b a = .ok (l, a') ∧ L.map pr = l ∧ L.length = k) ∧ PSt p b B w a' wr ∧ Hid (∀ r ∈ L, ok p r wr) ∧ wr.ownsRow w.heap.size 77 8 sl k (L.flatMap enc)) (fun _ i _ => n - (intOf i).toNat)
  case atStart => exact ⟨0, a, [], [], by omega, rfl, Lib.hid ⟨rfl, rfl, rfl⟩, hS, Lib.hid (fun r hr => by cases hr), World.ownsRow_nil _ _ _ _⟩
  case round =>
    obtain ⟨k, a', l, L, hk, rfl, hl, hSr, hok, hown⟩ := hrel
    by_cases hlt : k < n
    · have HC := Lib.hid (HH.out a' wr hSr)
      have hq : decide ((k : Int) < (n : Int)) = true := decide_eq_true (by omega)
      go_wp2_with (first
        | (go_at_call 67; refine HC.out.mono ?_; rintro e1 w1 ⟨hn1, ⟨a1, y1, h1, rfl, hN⟩ | ⟨x1, a1, v, h1, rfl, ⟨r, rfl, rfl, hr⟩, hS1⟩⟩ <;> (have hown1 := own_near_g hown hgl hn1; try (have hlen := HE.out.len hr; have hown2 := hown1.alloc (.cells (enc r).toArray 77); have hRd : Rd (w1.alloc (.cells (enc r).toArray 77)) (w1.alloc (.cells (enc r).toArray 77)).heap.size 8 (some ⟨w1.heap.size, 0, none⟩) 1 (enc r) := (by have := Rd.fresh w1 (enc r).toArray 77 1 8 w1.heap.size (by show (enc r).toArray.size = _; simpa using hlen) rfl; simpa using this); have HSl := Lib.hid (slice_one HE2.out (by decide) w1 (Value.agg (enc r).toArray) (by show (enc r).toArray.size = _; simpa using hlen)))))
        | (refine wpList_builtSlice rfl 26 1 #[(0, .tmp 11)] rfl (vals := #[(0, (Value.agg (enc r).toArray))]) (by go_simp) HSl.out ?_)
        | (at_builtin; refine wpList_app HE2.out rfl (.tmp 9) (.tmp 12) rfl w.heap.size hown2 rfl rfl hRd (HE.out.one hr) (by unfold maxLen; omega) (by omega) (by have := hS1.near.size; simp; omega) ?_; intro v' w' hown' hb' hg'))
      · exact ⟨rfl, hN, .inl ⟨_, _, listP_stop hl.out.1 h1 hlt, rfl⟩⟩
      · go_roundw
        case rel =>
          have hz1 : Below w1.heap.size w1 (w1.alloc (.cells (enc r).toArray 77)) := bal (Below.refl _ _) _
          refine ⟨k + 1, a1, l ++ [pr r], L ++ [r], by omega, by go_num, Lib.hid ⟨listP_step hl.out.1 h1, by rw [List.map_append, hl.out.2.1]; rfl, by rw [List.length_append, hl.out.2.2]; rfl⟩, (hS1.alloc _).grown hg' (fun j hj => (own_lt hown2 hj).1), Lib.hid (fun q hq => ?_), by rw [List.flatMap_append]; simpa using hown'⟩
          rcases List.mem_append.1 hq with hq | hq
          · exact HE.out.grow (HE.out.near (HE.out.near (hok.out q hq) hn1) (Near.of_below _ hz1)) hown2 hg'
          · obtain rfl : q = r := by simpa using hq
            exact HE.out.grow (HE.out.near hr (Near.of_below _ hz1)) hown2 hg'
        case measure => simp [intOf]; omega
    · obtain rfl : k = n := by omega
      have hq : decide ((k : Int) < (k : Int)) = false := decide_eq_false (by omega)
      go_wp2_with fail
      go_ret
      refine ⟨hSr.near, .inr ⟨l, a', _, hl.out.1, rfl, ⟨L, w.heap.size, hl.out.2.1, hok.out, hgl, by rw [hl.out.2.2]; exact hown⟩, hSr.box⟩⟩
set_option maxRecDepth 100000 in
set_option maxHeartbeats 2000000 in
theorem listG {ρ α : Type} {enc : ρ → List Value} {pr : ρ → α} {ok : Prs → ρ → World → Prop} {s : PR α} (hE : ElemL 70 79 enc ok) (E : ElemInfo Try.prog 25 70 79 216) (n : Nat) (hn : n ≤ 1000) (hfw : Fwd s)
    (H : PCall 65 (fun p => #[.pointer (some ⟨p.g, 0, none⟩)]) s (OneR (fun r => (Value.agg (enc r).toArray)) pr ok)) :
    PCall 64 (fun p => #[.int .i64 n, .func (.func 65) #[.pointer (some ⟨p.g, 0, none⟩)] #[]]) (listP s n) (ListR 70 79 enc pr ok) := by
  intro p b B a w hR hB ha
  have hS := PSt.start hR hB ha
  have HH := Lib.hid (fun a W (hS : PSt p b B w a W) => H.at hfw hS)
  have HE := Lib.hid hE
  have HE2 := Lib.hid E
  have hgl := hB.lt
  clear hR hB ha H hE E
  go_enter Try.func64, Try.ntmps64
  go_wp2_with fail
  go_loopw [5, 7] (fun sl i wr => ∃ (k a' : Nat) (l : List α) (L : List ρ), k ≤ n ∧ i = .int .i64 k ∧ Hid (listP s k b a = .ok (l, a') ∧ L.map pr = l ∧ L.length = k) ∧ PSt p b B w a' wr ∧ Hid (∀ r ∈ L, ok p r wr) ∧ wr.ownsRow w.heap.size 70 79 sl k (L.flatMap enc)) (fun _ i _ => n - (intOf i).toNat)
  case atStart => exact ⟨0, a, [], [], by omega, rfl, Lib.hid ⟨rfl, rfl, rfl⟩, hS, Lib.hid (fun r hr => by cases hr), World.ownsRow_nil _ _ _ _⟩
  case round =>
    obtain ⟨k, a', l, L, hk, rfl, hl, hSr, hok, hown⟩ := hrel
    by_cases hlt : k < n
    · have HC := Lib.hid (HH.out a' wr hSr)
      have hq : decide ((k : Int) < (n : Int)) = true := decide_eq_true (by omega)
      go_wp2_with (first
        | (go_at_call 65; refine HC.out.mono ?_; rintro e1 w1 ⟨hn1, ⟨a1, y1, h1, rfl, hN⟩ | ⟨x1, a1, v, h1, rfl, ⟨r, rfl, rfl, hr⟩, hS1⟩⟩ <;> (have hown1 := own_near_g hown hgl hn1; try (have hlen := HE.out.len hr; have hown2 := hown1.alloc (.cells (enc r).toArray 70); have hRd : Rd (w1.alloc (.cells (enc r).toArray 70)) (w1.alloc (.cells (enc r).toArray 70)).heap.size 79 (some ⟨w1.heap.size, 0, none⟩) 1 (enc r) := (by have := Rd.fresh w1 (enc r).toArray 70 1 79 w1.heap.size (by show (enc r).toArray.size = _; simpa using hlen) rfl; simpa using this); have HSl := Lib.hid (slice_one HE2.out (by decide) w1 (Value.agg (enc r).toArray) (by show (enc r).toArray.size = _; simpa using hlen)))))
        | (refine wpList_builtSlice rfl 25 1 #[(0, .tmp 11)] rfl (vals := #[(0, (Value.agg (enc r).toArray))]) (by go_simp) HSl.out ?_)
        | (at_builtin; refine wpList_app HE2.out rfl (.tmp 9) (.tmp 12) rfl w.heap.size hown2 rfl rfl hRd (HE.out.one hr) (by unfold maxLen; omega) (by omega) (by have := hS1.near.size; simp; omega) ?_; intro v' w' hown' hb' hg'))
      · exact ⟨rfl, hN, .inl ⟨_, _, listP_stop hl.out.1 h1 hlt, rfl⟩⟩
      · go_roundw
        case rel =>
          have hz1 : Below w1.heap.size w1 (w1.alloc (.cells (enc r).toArray 70)) := bal (Below.refl _ _) _
          refine ⟨k + 1, a1, l ++ [pr r], L ++ [r], by omega, by go_num, Lib.hid ⟨listP_step hl.out.1 h1, by rw [List.map_append, hl.out.2.1]; rfl, by rw [List.length_append, hl.out.2.2]; rfl⟩, (hS1.alloc _).grown hg' (fun j hj => (own_lt hown2 hj).1), Lib.hid (fun q hq => ?_), by rw [List.flatMap_append]; simpa using hown'⟩
          rcases List.mem_append.1 hq with hq | hq
          · exact HE.out.grow (HE.out.near (HE.out.near (hok.out q hq) hn1) (Near.of_below _ hz1)) hown2 hg'
          · obtain rfl : q = r := by simpa using hq
            exact HE.out.grow (HE.out.near hr (Near.of_below _ hz1)) hown2 hg'
        case measure => simp [intOf]; omega
    · obtain rfl : k = n := by omega
      have hq : decide ((k : Int) < (k : Int)) = false := decide_eq_false (by omega)
      go_wp2_with fail
      go_ret
      refine ⟨hSr.near, .inr ⟨l, a', _, hl.out.1, rfl, ⟨L, w.heap.size, hl.out.2.1, hok.out, hgl, by rw [hl.out.2.2]; exact hown⟩, hSr.box⟩⟩
set_option maxRecDepth 100000 in
set_option maxHeartbeats 2000000 in
theorem listS {α : Type} {pr : Int → α} {ok : Prs → Int → World → Prop} {s : PR α} (hE : ElemL 24 1 encU32 ok) (E : ElemInfo Try.prog 68 24 1 4) (n : Nat) (hn : n ≤ 1000) (hfw : Fwd s)
    (H : PCall 62 (fun p => #[.pointer (some ⟨p.g, 0, none⟩)]) s (OneR (fun r => (Value.int .u32 r)) pr ok)) :
    PCall 106 (fun p => #[.int .i64 n, .func (.func 62) #[.pointer (some ⟨p.g, 0, none⟩)] #[]]) (listP s n) (ListR 24 1 encU32 pr ok) := by
  intro p b B a w hR hB ha
  have hS := PSt.start hR hB ha
  have HH := Lib.hid (fun a W (hS : PSt p b B w a W) => H.at hfw hS)
  have HE := Lib.hid hE
  have HE2 := Lib.hid E
  have hgl := hB.lt
  clear hR hB ha H hE E
  go_enter Try.func106, Try.ntmps106
  go_wp2_with fail
  go_loopw [5, 7] (fun sl i wr => ∃ (k a' : Nat) (l : List α) (L : List Int), k ≤ n ∧ i = .int .i64 k ∧ Hid (listP s k b a = .ok (l, a') ∧ L.map pr = l ∧ L.length = k) ∧ PSt p b B w a' wr ∧ Hid (∀ r ∈ L, ok p r wr) ∧ wr.ownsRow w.heap.size 24 1 sl k (L.flatMap encU32)) (fun _ i _ => n - (intOf i).toNat)
  case atStart => exact ⟨0, a, [], [], by omega, rfl, Lib.hid ⟨rfl, rfl, rfl⟩, hS, Lib.hid (fun r hr => by cases hr), World.ownsRow_nil _ _ _ _⟩
  case round =>
    obtain ⟨k, a', l, L, hk, rfl, hl, hSr, hok, hown⟩ := hrel
    by_cases hlt : k < n
    · have HC := Lib.hid (HH.out a' wr hSr)
      have hq : decide ((k : Int) < (n : Int)) = true := decide_eq_true (by omega)
      go_wp2_with (first
        | (go_at_call 62; refine HC.out.mono ?_; rintro e1 w1 ⟨hn1, ⟨a1, y1, h1, rfl, hN⟩ | ⟨x1, a1, v, h1, rfl, ⟨r, rfl, rfl, hr⟩, hS1⟩⟩ <;> (have hown1 := own_near_g hown hgl hn1; try (have hlen := HE.out.len hr; have hown2 := hown1.alloc (.cells #[Value.int .u32 r] 24); have hRd : Rd (w1.alloc (.cells #[Value.int .u32 r] 24)) (w1.alloc (.cells #[Value.int .u32 r] 24)).heap.size 1 (some ⟨w1.heap.size, 0, none⟩) 1 (encU32 r) := (by have := Rd.fresh w1 #[Value.int .u32 r] 24 1 1 w1.heap.size rfl rfl; exact this); have HSl := Lib.hid (slice_one HE2.out (by decide) w1 (Value.int .u32 r) rfl))))
        | (refine wpList_builtSlice rfl 68 1 #[(0, .tmp 11)] rfl (vals := #[(0, (Value.int .u32 r))]) (by go_simp) HSl.out ?_)
        | (at_builtin; refine wpList_app HE2.out rfl (.tmp 9) (.tmp 12) rfl w.heap.size hown2 rfl rfl hRd (HE.out.one hr) (by unfold maxLen; omega) (by omega) (by have := hS1.near.size; simp; omega) ?_; intro v' w' hown' hb' hg'))
      · exact ⟨rfl, hN, .inl ⟨_, _, listP_stop hl.out.1 h1 hlt, rfl⟩⟩
      · go_roundw
        case rel =>
          have hz1 : Below w1.heap.size w1 (w1.alloc (.cells #[Value.int .u32 r] 24)) := bal (Below.refl _ _) _
          refine ⟨k + 1, a1, l ++ [pr r], L ++ [r], by omega, by go_num, Lib.hid ⟨listP_step hl.out.1 h1, by rw [List.map_append, hl.out.2.1]; rfl, by rw [List.length_append, hl.out.2.2]; rfl⟩, (hS1.alloc _).grown hg' (fun j hj => (own_lt hown2 hj).1), Lib.hid (fun q hq => ?_), by rw [List.flatMap_append]; simpa using hown'⟩
          rcases List.mem_append.1 hq with hq | hq
          · exact HE.out.grow (HE.out.near (HE.out.near (hok.out q hq) hn1) (Near.of_below _ hz1)) hown2 hg'
          · obtain rfl : q = r := by simpa using hq
            exact HE.out.grow (HE.out.near hr (Near.of_below _ hz1)) hown2 hg'
        case measure => simp [intOf]; omega
    · obtain rfl : k = n := by omega
      have hq : decide ((k : Int) < (k : Int)) = false := decide_eq_false (by omega)
      go_wp2_with fail
      go_ret
      refine ⟨hSr.near, .inr ⟨l, a', _, hl.out.1, rfl, ⟨L, w.heap.size, hl.out.2.1, hok.out, hgl, by rw [hl.out.2.2]; exact hown⟩, hSr.box⟩⟩
end Go.Proofs.Ytmhbpfclfffgkaa
