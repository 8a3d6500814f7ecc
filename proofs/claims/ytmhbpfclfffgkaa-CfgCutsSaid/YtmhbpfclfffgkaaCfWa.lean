/- Chapter 14: the writer's numbers; walked. -/
import Derived.Test.YtmhbpfclfffgkaaCfQ
import Derived.Test.YtmhbpfclfffgkaaCfX
import Derived.Test.YtmhbpfclfffgkaaNum
namespace Go.Proofs.Ytmhbpfclfffgkaa
set_option linter.unusedVariables false
set_option linter.unusedSimpArgs false
open Go.RowKit Go.Sort

/-- Of what was there only the writer's box and blocks of bytes from B on have turned. -/
structure Wrt (B gw : Nat) (w w' : World) : Prop where
  os : w'.os = w.os
  tape : w'.tape = w.tape
  output : w'.output = w.output
  size : w.heap.size ≤ w'.heap.size
  low : ∀ i, i < B → w'.heap[i]? = w.heap[i]?
  keep : ∀ i cs T f, w.heap[i]? = some (.cells cs T f) → T ≠ 5 → i ≠ gw → w'.heap[i]? = w.heap[i]?
section
variable {B gw : Nat} {w w' w2 : World}
theorem Wrt.refl (B gw : Nat) (w : World) : Wrt B gw w w := ⟨rfl, rfl, rfl, Nat.le_refl _, fun _ _ => rfl, fun _ _ _ _ _ _ _ => rfl⟩
theorem Wrt.trans (h : Wrt B gw w w') (k : Wrt B gw w' w2) : Wrt B gw w w2 :=
  ⟨k.os.trans h.os, k.tape.trans h.tape, k.output.trans h.output, Nat.le_trans h.size k.size, fun i hi => (k.low i hi).trans (h.low i hi), fun i cs T f hc hT hg => (k.keep i cs T f ((h.keep i cs T f hc hT hg).trans hc) hT hg).trans (h.keep i cs T f hc hT hg)⟩
theorem Wrt.of_below (h : Below w.heap.size w w') (hB : B ≤ w.heap.size) : Wrt B gw w w' := ⟨h.os, h.tape, h.output, h.size, fun i hi => h.block i (by omega), fun i cs T f hc _ _ => h.block i (heap_at hc)⟩
where heap_at {w : World} {i : Nat} {o : Obj} (h : w.heap[i]? = some o) : i < w.heap.size := (Array.getElem?_eq_some_iff.1 h).1
theorem Wrt.below (h : Wrt B gw w w') : Below B w w' := ⟨h.os, h.tape, h.output, h.size, h.low⟩
theorem Wrt.set (h : Wrt B gw w w') (hB : B ≤ gw) (o : Nat) (u : Value) : Wrt B gw w (w'.setCell ⟨gw, o, none⟩ u) := by
  refine h.trans ⟨rfl, rfl, rfl, by simp, fun i hi => Below.heap_setCell _ _ _ _ (by show i ≠ gw; omega), fun i cs T f hc hT hg => Below.heap_setCell _ _ _ _ hg⟩
theorem Wrt.grown {base n : Nat} {v : Value} {xs : List Value} (h : Wrt B gw w w') (hown : w'.ownsRow base 5 1 v n xs) (hB : B ≤ base) (hg : w'.grownBy w2 v.ownBlock) (hs : B ≤ w'.heap.size) : Wrt B gw w w2 := by
  refine h.trans ⟨hg.os, hg.tape, hg.output, hg.size, fun i hi => hg.block i (by omega) (fun e => by have := own_lt hown e.symm; omega), fun i cs T f hc hT _ => hg.block i (Array.getElem?_eq_some_iff.1 hc).1 (fun e => ?_)⟩
  rcases hown.2 with ⟨rfl, _⟩ | ⟨g, cap, cur, rfl, _, hh, _⟩
  · simp [Value.ownBlock] at e
  · have e : i = g := by simpa [Value.ownBlock] using e
    subst e
    rw [hh] at hc
    simp only [Option.some.injEq, Obj.cells.injEq] at hc
    exact hT hc.2.1.symm
theorem Blk.wrt {g : Nat} {T : TypeId} {cs : Array Value} (h : Blk w g T cs) (hw : Wrt B gw w w') (hT : T ≠ 5) (hg : g ≠ gw) : Blk w' g T cs := h.same (hw.keep g cs T (0, 0) h hT hg)
end
/-- The writer: its bytes are a row of the call's own. -/
def WSt (B gw : Nat) (bs : List Int) (w : World) : Prop := B ≤ gw ∧ ∃ A c, Blk w gw 90 #[.slice A bs.length c] ∧ w.ownsRow B 5 1 (.slice A bs.length c) bs.length (bs.flatMap encB)
theorem WSt.below {B gw : Nat} {bs : List Int} {w w' : World} (h : WSt B gw bs w) (hb : Below w.heap.size w w') : WSt B gw bs w' := by
  obtain ⟨h1, A, c, h2, h3⟩ := h
  exact ⟨h1, A, c, h2.kept hb, own_kept h3 hb⟩
theorem bytesN2 (x : Int) (h0 : 0 ≤ x) (h1 : x ≤ 65535) : bytesN 2 false x = [x / 256, x % 256] := by
  simp [bytesN, byteN, List.range_succ]
  omega
theorem bytesNl_len (s : Nat) : ∀ (l : List Int), (l.flatMap (bytesN s false)).length = s * l.length
  | [] => rfl
  | x :: l => by rw [List.flatMap_cons, List.length_append, bytesN_len, bytesNl_len s l, List.length_cons, Nat.mul_succ]; omega
theorem own_le_base {w : World} {base base2 : Nat} {e : TypeId} {size n : Nat} {v : Value} {xs : List Value} (h : w.ownsRow base e size v n xs) (hb : base2 ≤ base) : w.ownsRow base2 e size v n xs :=
  ⟨h.1, h.2.imp_right fun ⟨g, cap, cur, h1, h2, r⟩ => ⟨g, cap, cur, h1, Nat.le_trans hb h2, r⟩⟩
set_option maxHeartbeats 1000000 in
theorem wfour_any (B gw : Nat) (bs l : List Int) (A2 : Option Addr) (n2 c2 : Nat) (w : World) (hS : WSt B gw bs w) (hl2 : l.length = n2) (hm : bs.length ≤ 100000) (hm2 : n2 ≤ 100000) (hx : ∀ x ∈ l, 0 ≤ x ∧ x < 4294967296) (hr2 : Rd w w.heap.size 1 A2 n2 (l.flatMap encU32)) :
    Calls Try.prog 43 #[.pointer (some ⟨gw, 0, none⟩), .slice A2 n2 c2] w fun e w' => e = .returned (.tuple #[]) ∧ WSt B gw (bs ++ l.flatMap (bytesN 4 false)) w' ∧ Wrt B gw w w' := by
  obtain ⟨hBg, A, c, hB, hown⟩ := hS
  have cB := hB.cell
  have hgl := hB.lt
  have H := Lib.hid (putBe32_any A A2 bs.length c n2 c2 bs l w rfl hl2 (by omega) (by omega) hx (Rd.of_own hown) hr2)
  have hlen : (bs ++ l.flatMap (bytesN 4 false)).length = bs.length + 4 * n2 := by rw [List.length_append, bytesNl_len, hl2]
  generalize bs ++ l.flatMap (bytesN 4 false) = bs2 at *
  have HBg := Lib.hid hBg
  have HB := Lib.hid hB
  have HO := Lib.hid hown
  clear hx hr2 hl2 hB hown hBg
  go_enter Try.func43, Try.ntmps43
  go_wp2_with (go_at_call 79; refine H.out.mono ?_; rintro e w1 ⟨A', c', rfl, hown, hb1⟩; have hB1 := HB.out.kept hb1; have cB1 := hB1.cell; have fB1 := hB1.frozen)
  have h1 := hB1.set_ 0 (.slice A' (bs.length + 4 * n2) c')
  refine bodyPost_end (results_none rfl _ _ _) rfl ⟨rfl, ⟨HBg.out, A', c', ?_, ?_⟩, (Wrt.of_below hb1 (by have := HBg.out; omega)).set HBg.out 0 _⟩
  · rw [hlen]; simpa using h1
  · rw [hlen]
    refine own_le_base (own_same hown fun k hk => Below.heap_setCell _ _ _ _ (by
      intro e
      have e : k = gw := e
      subst e
      exact own_blk_ne hown hB1 (by decide) hk.symm)) (by have := HBg.out; omega)
set_option maxHeartbeats 1000000 in
theorem weight_any (B gw : Nat) (bs l : List Int) (A2 : Option Addr) (n2 c2 : Nat) (w : World) (hS : WSt B gw bs w) (hl2 : l.length = n2) (hm : bs.length ≤ 100000) (hm2 : n2 ≤ 100000) (hx : ∀ x ∈ l, 0 ≤ x ∧ x < 18446744073709551616) (hr2 : Rd w w.heap.size 1 A2 n2 (l.flatMap encQ)) :
    Calls Try.prog 46 #[.pointer (some ⟨gw, 0, none⟩), .slice A2 n2 c2] w fun e w' => e = .returned (.tuple #[]) ∧ WSt B gw (bs ++ l.flatMap (bytesN 8 false)) w' ∧ Wrt B gw w w' := by
  obtain ⟨hBg, A, c, hB, hown⟩ := hS
  have cB := hB.cell
  have hgl := hB.lt
  have H := Lib.hid (putBe64_any A A2 bs.length c n2 c2 bs l w rfl hl2 (by omega) (by omega) hx (Rd.of_own hown) hr2)
  have hlen : (bs ++ l.flatMap (bytesN 8 false)).length = bs.length + 8 * n2 := by rw [List.length_append, bytesNl_len, hl2]
  generalize bs ++ l.flatMap (bytesN 8 false) = bs2 at *
  have HBg := Lib.hid hBg
  have HB := Lib.hid hB
  have HO := Lib.hid hown
  clear hx hr2 hl2 hB hown hBg
  go_enter Try.func46, Try.ntmps46
  go_wp2_with (go_at_call 82; refine H.out.mono ?_; rintro e w1 ⟨A', c', rfl, hown, hb1⟩; have hB1 := HB.out.kept hb1; have cB1 := hB1.cell; have fB1 := hB1.frozen)
  have h1 := hB1.set_ 0 (.slice A' (bs.length + 8 * n2) c')
  refine bodyPost_end (results_none rfl _ _ _) rfl ⟨rfl, ⟨HBg.out, A', c', ?_, ?_⟩, (Wrt.of_below hb1 (by have := HBg.out; omega)).set HBg.out 0 _⟩
  · rw [hlen]; simpa using h1
  · rw [hlen]
    refine own_le_base (own_same hown fun k hk => Below.heap_setCell _ _ _ _ (by
      intro e
      have e : k = gw := e
      subst e
      exact own_blk_ne hown hB1 (by decide) hk.symm)) (by have := HBg.out; omega)
theorem small_yes (n most : Int) (w : World) (h0 : 0 ≤ n) (h1 : n ≤ most) : Calls Try.prog 47 #[.int .i64 n, .int .i64 most] w fun e w' => e = .returned (.int .i64 n) ∧ w = w' := by
  have e0 : decide ((0 : Int) ≤ n) = true := decide_eq_true h0
  have e1 : decide (n ≤ most) = true := decide_eq_true h1
  go_enter Try.func47, Try.ntmps47
  go_wp2_with (go_at_call 42; refine (must_yes _ _ _).mono ?_; rintro e w1 ⟨rfl, rfl⟩)
  go_ret
  exact ⟨rfl, rfl⟩
theorem small_no (n most : Int) (w : World) (h : ¬ (0 ≤ n ∧ n ≤ most)) : Calls Try.prog 47 #[.int .i64 n, .int .i64 most] w fun e w' => e = thrownC 0 144 ∧ w = w' := by
  by_cases h0 : 0 ≤ n
  · have e0 : decide ((0 : Int) ≤ n) = true := decide_eq_true h0
    have e1 : decide (n ≤ most) = false := decide_eq_false (fun h1 => h ⟨h0, h1⟩)
    clear h
    go_enter Try.func47, Try.ntmps47
    go_wp2_with (go_at_call 42; refine (must_no _ _ _).mono ?_; rintro e w1 ⟨rfl, rfl⟩)
    exact ⟨rfl, rfl, rfl⟩
  · have e0 : decide ((0 : Int) ≤ n) = false := decide_eq_false h0
    clear h
    go_enter Try.func47, Try.ntmps47
    go_wp2_with (go_at_call 42; refine (must_no _ _ _).mono ?_; rintro e w1 ⟨rfl, rfl⟩)
    exact ⟨rfl, rfl, rfl⟩
def truthN (x : Bool) : Int := if x then 1 else 0
theorem truth_any (x : Bool) (w : World) : Calls Try.prog 80 #[.bool x] w fun e w' => e = .returned (.int .u32 (truthN x)) ∧ w = w' := by
  cases x
  · go_enter Try.func80, Try.ntmps80
    go_wp2
    go_ret
    exact ⟨rfl, rfl⟩
  · go_enter Try.func80, Try.ntmps80
    go_wp2
    go_ret
    exact ⟨rfl, rfl⟩
def encI (x : Int) : List Value := [.int .i64 x]
set_option maxHeartbeats 2000000 in
theorem wtwo_any (B gw : Nat) (bs l : List Int) (A2 : Option Addr) (n2 c2 : Nat) (w : World) (hS : WSt B gw bs w) (hl2 : l.length = n2) (hm : bs.length ≤ 100000) (hm2 : n2 ≤ 1000) (hx : ∀ x ∈ l, 0 ≤ x ∧ x ≤ 65535) (A2b : n2 = 0 ∨ ∃ b o cs T f, A2 = some ⟨b, o, none⟩ ∧ w.heap[b]? = some (.cells cs T f) ∧ T ≠ 5 ∧ b ≠ gw) (hr2 : Rd w w.heap.size 1 A2 n2 (l.flatMap encI)) :
    Calls Try.prog 44 #[.pointer (some ⟨gw, 0, none⟩), .slice A2 n2 c2] w fun e w' => e = .returned (.tuple #[]) ∧ WSt B gw (bs ++ l.flatMap (bytesN 2 false)) w' ∧ Wrt B gw w w' := by
  have HS := Lib.hid hS
  have HL := Lib.hid hl2
  have HX := Lib.hid hx
  have HR := Lib.hid hr2
  have HA := Lib.hid A2b
  have hBg := hS.1
  clear hS hl2 hx hr2 A2b
  go_enter Try.func44, Try.ntmps44
  go_wp2_with fail
  go_loopw [5, 8] (fun _ iv wr => ∃ k : Nat, k ≤ n2 ∧ iv = .int .i64 k ∧ Hid (WSt B gw (bs ++ (l.take k).flatMap (bytesN 2 false)) wr ∧ Wrt B gw w wr)) (fun _ iv _ => n2 - (intOf iv).toNat)
  case atStart => exact ⟨0, by omega, rfl, Lib.hid ⟨by simpa using HS.out, Wrt.refl _ _ _⟩⟩
  case round =>
    obtain ⟨k, hk, rfl, hh⟩ := hrel
    by_cases hlt : k < n2
    · obtain ⟨⟨_, A, c, hB, hown⟩, hw⟩ := hh.out
      have hkl : k < l.length := by rw [HL.out]; exact hlt
      obtain ⟨b, o, cs, T, f, rfl, hT, hTu, hbg⟩ : ∃ b o cs T f, A2 = some ⟨b, o, none⟩ ∧ w.heap[b]? = some (.cells cs T f) ∧ T ≠ 5 ∧ b ≠ gw := by
        rcases HA.out with h | h
        · omega
        · exact h
      obtain ⟨b', o', he, hb', hrow⟩ := HR.out.row (enc := encI) (fun _ => rfl) hkl HL.out
      simp only [Option.some.injEq, Addr.mk.injEq, and_true] at he
      obtain ⟨rfl, rfl⟩ := he
      have d0 := hrow 0 (by decide)
      simp only [encI, List.getElem?_cons_zero, Nat.add_zero, Nat.mul_one] at d0
      have d1 : wr.cell? ⟨b, o + k, none⟩ = some (.int .i64 l[k]) := by
        have hk2 := hw.keep b cs T f hT hTu hbg
        rw [cell_of_row wr b (o + k) cs T f (hk2.trans hT), ← cell_of_row w b (o + k) cs T f hT]
        exact d0
      have hxk := HX.out l[k] (List.getElem_mem hkl)
      have htk : (l.take (k + 1)).flatMap (bytesN 2 false) = (l.take k).flatMap (bytesN 2 false) ++ bytesN 2 false l[k] := by
        rw [List.take_succ_eq_append_getElem hkl, List.flatMap_append]; simp
      rw [bytesN2 _ hxk.1 hxk.2] at htk
      have hlen : (bs ++ (l.take k).flatMap (bytesN 2 false)).length ≤ 200000 := by
        rw [List.length_append, bytesNl_len, List.length_take]
        omega
      have HTk := Lib.hid htk
      have HW := Lib.hid hw
      clear d0 hrow htk hh hw
      generalize hbk : bs ++ (l.take k).flatMap (bytesN 2 false) = bk at *
      have HBk := Lib.hid hbk
      clear hbk
      generalize l[k] = x at *
      have cB := hB.cell
      have fB := hB.frozen
      have x1 : IntKind.u8.wrap (x / 256) = x / 256 := by rw [IntKind.wrap_u8']; omega
      have x2 : IntKind.u8.wrap x = x % 256 := IntKind.wrap_u8' _
      have hq : decide ((k : Int) < (n2 : Int)) = true := decide_eq_true (by omega)
      have hgl := hB.lt
      have hb1 := bal (Below.refl wr.heap.size wr) (.cells #[.int .u8 (x / 256), .int .u8 (x % 256)] 5)
      have hB1 := hB.kept hb1
      have hown1 := hown.alloc (.cells #[.int .u8 (x / 256), .int .u8 (x % 256)] 5)
      have hRd : Rd (wr.alloc (.cells #[.int .u8 (x / 256), .int .u8 (x % 256)] 5)) (wr.alloc (.cells #[.int .u8 (x / 256), .int .u8 (x % 256)] 5)).heap.size 1 (some ⟨wr.heap.size, 0, none⟩) 2 ([x / 256, x % 256].flatMap encB) := Rd.fresh wr #[.int .u8 (x / 256), .int .u8 (x % 256)] 5 2 1 _ rfl rfl
      have hzB : B ≤ wr.heap.size := by omega
      go_wp2_with (at_builtin; refine wpList_app u8_elem rfl (.tmp 16) (.tmp 22) rfl B hown1 rfl rfl hRd (one_b _) (by unfold maxLen; omega) (by omega) (by simp; omega) ?_; intro v' w' hown' hb' hg'; obtain ⟨A', c', rfl, _, _⟩ := own_slice hown'; have hW2 := (Wrt.of_below (gw := gw) hb1 hzB).grown hown1 (Nat.le_refl _) hg' (by simp; omega); have hB2 := hB1.grown hg' (fun e => own_blk_ne hown1 hB1 (by decide) e); have cB2 := hB2.cell; have fB2 := hB2.frozen)
      have h1 := hB2.set_ 0 (.slice A' (bk.length + 2) c')
      go_roundw
      case rel =>
        have e1 : bs ++ (l.take (k + 1)).flatMap (bytesN 2 false) = bk ++ [x / 256, x % 256] := by rw [HTk.out, ← List.append_assoc, HBk.out]
        refine ⟨k + 1, by omega, by go_num, Lib.hid ⟨⟨hBg, A', c', ?_, ?_⟩, (HW.out.trans hW2).set hBg 0 _⟩⟩
        · rw [e1, List.length_append]; simpa using h1
        · rw [e1, List.length_append]
          refine own_same (by simpa using hown') fun j hj => Below.heap_setCell _ _ _ _ (by
            intro e
            have e : j = gw := e
            subst e
            exact own_blk_ne hown' hB2 (by decide) hj.symm)
      case measure => simp [intOf]; omega
    · obtain rfl : k = n2 := by omega
      have hq : decide ((k : Int) < (k : Int)) = false := decide_eq_false (by omega)
      have hf := hh.out
      rw [List.take_of_length_le (by rw [HL.out]; exact Nat.le_refl _)] at hf
      have HF := Lib.hid hf
      clear hf hh
      go_wp2_with fail
      exact bodyPost_end (results_none rfl _ _ _) rfl ⟨rfl, HF.out⟩
end Go.Proofs.Ytmhbpfclfffgkaa
