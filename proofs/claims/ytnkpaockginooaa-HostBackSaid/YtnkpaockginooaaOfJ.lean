/- A tree is read again from its bytes: the law FdtBack walked. -/
import Derived.Test.YtnkpaockginooaaOfI
import Derived.Test.YtnkpaockginooaaTreeJ
namespace Go.Proofs.Ytnkpaockginooaa
set_option linter.unusedVariables false
set_option linter.unusedSimpArgs false
open Go.RowKit Go.Sort
/-- Values are bytes. -/
def BokF : Nat → Tr → Prop
  | 0, _ => False
  | n + 1, t => (∀ p ∈ t.ps, BytesOk p.2) ∧ ∀ k ∈ t.ks, BokF n k
theorem TrOk.bok {w : World} {B : Nat} : ∀ {n : Nat} {t : Tr} {cs : List Value}, TrOk w B n t cs → BokF n t
  | 0, _, _, h => h.elim
  | n + 1, t, cs, ⟨_, _, _, _, _, _, _, _, _, _, _, _, _, _, h1, h2⟩ => ⟨fun p hp => by
      obtain ⟨i, hi⟩ := List.getElem?_of_mem hp
      exact (h1 i p hi).2.1, fun k hk => by
      obtain ⟨i, hi⟩ := List.getElem?_of_mem hk
      exact (h2 i k hi).bok⟩
theorem ok_app {a b : List Int} (ha : BytesOk a) (hb : BytesOk b) : BytesOk (a ++ b) := fun x hx => by
  rcases List.mem_append.1 hx with h | h
  · exact ha x h
  · exact hb x h
theorem ok_zeros (n : Nat) : BytesOk (List.replicate n 0) := fun x hx => by
  rw [(List.mem_replicate.1 hx).2]
  decide
theorem ok_be4 (l : List Int) : BytesOk (be4 l) := fun x hx => by
  unfold be4 at hx
  obtain ⟨y, hy, h⟩ := List.mem_flatMap.1 hx
  exact bytesN_ok 4 false y x h
theorem ok_fill {a : List Int} (h : BytesOk a) : BytesOk (fillN a) := ok_app h (ok_zeros _)
theorem ok_text {st : WS} (s : ByteArray) (h : BytesOk st.x) : BytesOk (textS st s).1.x := by
  unfold textS
  split
  · exact h
  · exact ok_app h (ok_app (strB_ok s) (ok_zeros 1))
theorem ok_props : ∀ (ps : List Pr) {st : WS}, (∀ p ∈ ps, BytesOk p.2) → BytesOk st.b → BytesOk st.x → BytesOk (ps.foldl propS st).b ∧ BytesOk (ps.foldl propS st).x
  | [], _, _, h1, h2 => ⟨h1, h2⟩
  | p :: ps, st, hp, h1, h2 => by
    simp only [List.foldl_cons]
    exact ok_props ps (fun q hq => hp q (by simp [hq])) (ok_fill (ok_app (ok_app h1 (ok_be4 _)) (hp p (by simp)))) (ok_text p.1 h2)
theorem ok_kids {N : Tr → WS → WS} : ∀ (ks : List Tr) {st : WS}, (∀ k ∈ ks, ∀ st, BytesOk st.b → BytesOk st.x → BytesOk (N k st).b ∧ BytesOk (N k st).x) → BytesOk st.b → BytesOk st.x → BytesOk (ks.foldl (fun s k => N k s) st).b ∧ BytesOk (ks.foldl (fun s k => N k s) st).x
  | [], _, _, h1, h2 => ⟨h1, h2⟩
  | k :: ks, st, hk, h1, h2 => by
    simp only [List.foldl_cons]
    obtain ⟨a, b⟩ := hk k (by simp) st h1 h2
    exact ok_kids ks (fun q hq => hk q (by simp [hq])) a b
theorem ok_node : ∀ (f n : Nat) (t : Tr) (st : WS), BokF n t → BytesOk st.b → BytesOk st.x → BytesOk (nodeS f t st).b ∧ BytesOk (nodeS f t st).x
  | 0, _, _, _, _, h1, h2 => ⟨h1, h2⟩
  | f + 1, 0, _, _, h, _, _ => h.elim
  | f + 1, n + 1, t, st, ⟨p1, p2⟩, h1, h2 => by
    have hh : BytesOk (headS t.nm st).b := ok_fill (ok_app (ok_app h1 (ok_be4 _)) (ok_app (strB_ok _) (ok_zeros 1)))
    obtain ⟨a1, a2⟩ := ok_props t.ps (st := headS t.nm st) p1 hh h2
    obtain ⟨b1, b2⟩ := ok_kids t.ks (N := nodeS f) (fun k hk st => ok_node f n k st (p2 k hk)) a1 a2
    rw [nodeS_b, nodeS_x]
    exact ⟨ok_app b1 (bytesN_ok 4 false 2), b2⟩
theorem ok_put {n : Nat} {t : Tr} (h : BokF n t) : BytesOk (putT t).1 ∧ (putT t).1.length ≤ 16384 := by
  unfold putT
  split
  · split
    · exact ⟨(fun x hx => by cases hx), by simp⟩
    · rename_i hs
      obtain ⟨a1, a2⟩ := ok_node 8 n t ⟨[], [], []⟩ h (fun x hx => by cases hx) (fun x hx => by cases hx)
      refine ⟨ok_app (ok_be4 _) (ok_app (ok_zeros _) (ok_app (ok_app a1 (ok_be4 _)) a2)), ?_⟩
      simp only [wholeL, List.length_append, be4_len, headL, List.length_cons, List.length_nil, List.length_replicate]
      omega
  · exact ⟨(fun x hx => by cases hx), by simp⟩
theorem own_cap {w : World} {base n c : Nat} {e : TypeId} {size : Nat} {A : Option Addr} {xs : List Value} (h : w.ownsRow base e size (.slice A n c) n xs) : n ≤ c := by
  obtain ⟨A', c', e', hc, _⟩ := own_slice h
  simp only [Value.slice.injEq] at e'
  omega
set_option maxRecDepth 100000 in
set_option maxHeartbeats 4000000 in
theorem fdtBack_any (k : Nat) (t : Tr) (cs : List Value) (w : World) (hT : TrOk w w.heap.size k t cs) (hL : LensF k t) : Calls Try.prog 9 #[.agg cs.toArray] w fun e w' => e = .returned (.bool true) ∧ Below w.heap.size w w' := by
  obtain ⟨sn, K1, n1, cc1, K2, n2, cc2, hv⟩ : ∃ (sn : ByteArray) (K1 : Option Addr) (n1 cc1 : Nat) (K2 : Option Addr) (n2 cc2 : Nat), cs = [.string sn, .slice K1 n1 cc1, .slice K2 n2 cc2] := by
    cases k with
    | zero => exact hT.elim
    | succ k =>
      obtain ⟨_, _, _, _, _, _, _, e, _⟩ := hT
      exact ⟨_, _, _, _, _, _, _, e⟩
  subst hv
  have hbt := bal (Below.refl w.heap.size w) (.cells #[.string sn, .slice K1 n1 cc1, .slice K2 n2 cc2] 25)
  have hTt := Blk.new w 25 #[.string sn, .slice K1 n1 cc1, .slice K2 n2 cc2]
  obtain ⟨hok, hlen⟩ := ok_put hT.bok
  have HTk := Lib.hid (fun W (h : Below w.heap.size w W) => (hT.below h).more h.size)
  have HBt := Lib.hid hbt
  have HFew := Lib.hid (fun W (h : Below w.heap.size w W) => few_any k t _ W (HTk.out W h))
  have HPut := Lib.hid (fun W (h : Below w.heap.size w W) => put_any k t _ W (HTk.out W h) hL)
  have heqv : eqv t t = true := eqv_t rfl
  obtain ⟨l, hl⟩ : ∃ l, (putT t).1 = l := ⟨_, rfl⟩
  obtain ⟨y, hy⟩ : ∃ y, (putT t).2 = y := ⟨_, rfl⟩
  obtain ⟨n, hn⟩ : ∃ n, l.length = n := ⟨_, rfl⟩
  unfold PutP at HPut
  by_cases hy0 : y = 0
  · subst hy0
    have hback := ofOk_back hy
    rw [hl] at hback hok hlen
    rw [hn] at hlen
    have HOf := Lib.hid (fun (W : World) (A : Option Addr) (c : Nat) (h : Rd W W.heap.size 1 A n (l.flatMap encB)) (hc : n ≤ c) => (of_any A n c l W hn hok (by omega) hc h).mono (R' := fun e w' => ∃ (sn : ByteArray) (A1 : Option Addr) (n1 c1 : Nat) (A2 : Option Addr) (n2 c2 k : Nat), e = .returned (.tuple #[.agg #[.string sn, .slice A1 n1 c1, .slice A2 n2 c2], .int .i64 0]) ∧ TrX w' (fun i => i < W.heap.size) k t [.string sn, .slice A1 n1 c1, .slice A2 n2 c2] ∧ Below W.heap.size W w') fun e w' h => by
      unfold OfP at h
      rw [hback] at h
      exact h)
    rw [hl, hy, hn] at HPut
    clear hT hL hbt hl hy hn hback hok
    go_enter Try.func9, Try.ntmps9
    go_upto_region 3 with (go_at_call 13; refine (awake24_any _).mono ?_; rintro e w1 ⟨rfl, hb1⟩)
    have hb1' : RowKit.Below w.heap.size w w1 := HBt.out.trans (hb1.mono HBt.out.size)
    have hT1 := hTt.kept hb1
    have cT := hT1.cell
    clear hb1
    go_wp2_with (first
      | (go_at_call 14; refine (HFew.out _ hb1').mono ?_; rintro e w2 ⟨⟨few, rfl⟩, hb2⟩; have hb2' := hb1'.trans (hb2.mono hb1'.size); have hT2 := hT1.kept hb2; have cT2 := hT2.cell; clear cT; cases few)
      | (go_at_call 15; refine (HPut.out _ hb2').mono ?_; rintro e w3 ⟨A3, c3, rfl, hown3, hb3⟩; have hb3' := hb2'.trans (hb3.mono hb2'.size); have hT3 := hT2.kept hb3; have hnc := own_cap hown3; have hr3 := Rd.of_own hown3; clear cT2)
      | (go_at_call 27; refine (HOf.out _ _ _ hr3 hnc).mono ?_; rintro e w4 ⟨sm, M1, m1, d1, M2, m2, d2, k4, rfl, hX4, hb4⟩; have hb4' := hb3'.trans (hb4.mono hb3'.size); have hT4 := (hT3.kept hb4).alloc (.cells #[.string sm, .slice M1 m1 d1, .slice M2 m2 d2] 25); have hU4 := Blk.new w4 25 #[.string sm, .slice M1 m1 d1, .slice M2 m2 d2]; have cT4 := hT4.cell; have cU4 := hU4.cell; have hX5 := hX4.kept (bal (Below.refl w4.heap.size w4) (.cells #[.string sm, .slice M1 m1 d1, .slice M2 m2 d2] 25)); have hb5' := bal' hb4' (.cells #[.string sm, .slice M1 m1 d1, .slice M2 m2 d2] 25) hb4'.size)
      | (go_at_call 19; refine (same_any _ _ t t _ _ _ hX5.ok (HTk.out _ hb5')).mono ?_; rintro e w6 ⟨rfl, hb6⟩; have hb6' := hb5'.trans (hb6.mono hb5'.size); have hT6 := hT4.kept hb6; have hU6 := hU4.kept hb6; have hX6 := hX5.kept hb6; have cT6 := hT6.cell; have cU6 := hU6.cell; clear cT4 cU4)
      | (go_at_call 20; refine (refSame_any _ _ t t _ _ _ hX6.ok (HTk.out _ hb6')).mono ?_; rintro e w7 ⟨rfl, hb7⟩; have hb7' := hb6'.trans (hb7.mono hb6'.size)))
    · go_ret
      exact ⟨rfl, hb2'⟩
    · go_ret
      exact ⟨by first | rfl | simp [heqv], hb7'⟩
  · have hno := putT_no (t := t) (by rw [hy]; exact hy0)
    have hy1 : (y != 0) = true := by simp [hy0]
    rw [hl, hy, hn] at HPut
    obtain rfl : n = 0 := by rw [← hn, ← hl, hno]; rfl
    clear hT hL hbt hl hy hn hno hok hlen
    go_enter Try.func9, Try.ntmps9
    go_upto_region 3 with (go_at_call 13; refine (awake24_any _).mono ?_; rintro e w1 ⟨rfl, hb1⟩)
    have hb1' : RowKit.Below w.heap.size w w1 := HBt.out.trans (hb1.mono HBt.out.size)
    have hT1 := hTt.kept hb1
    have cT := hT1.cell
    clear hb1
    go_wp2_with (first
      | (go_at_call 14; refine (HFew.out _ hb1').mono ?_; rintro e w2 ⟨⟨few, rfl⟩, hb2⟩; have hb2' := hb1'.trans (hb2.mono hb1'.size); have hT2 := hT1.kept hb2; have cT2 := hT2.cell; clear cT; cases few)
      | (go_at_call 15; refine (HPut.out _ hb2').mono ?_; rintro e w3 ⟨A3, c3, rfl, hown3, hb3⟩; have hb3' := hb2'.trans (hb3.mono hb2'.size)))
    · go_ret
      exact ⟨rfl, hb2'⟩
    · go_ret
      exact ⟨rfl, hb3'⟩
end Go.Proofs.Ytnkpaockginooaa
