/- The document's names' places ((*portreeveref22.flat).text), walked. -/
import Derived.Test.YtnkpaockginooaaPutF
namespace Go.Proofs.Ytnkpaockginooaa
set_option linter.unusedVariables false
set_option linter.unusedSimpArgs false
open Go.RowKit Go.Sort Go.Maps Go.WideShapes Go.ChangeShapes

theorem own_own_ne {w : World} {b b' : Nat} {e e' : TypeId} {s s' n n' : Nat} {v v' : Value} {xs xs' : List Value} (h : w.ownsRow b e s v n xs) (h' : w.ownsRow b' e' s' v' n' xs') (hne : e ≠ e') : ∀ i, v.ownBlock = some i → v'.ownBlock ≠ some i := by
  intro i hi hi'
  rcases h.2 with ⟨rfl, _⟩ | ⟨g, cap, cur, rfl, _, hh, _⟩
  · simp [Value.ownBlock] at hi
  · rcases h'.2 with ⟨rfl, _⟩ | ⟨g', cap', cur', rfl, _, hh', _⟩
    · simp [Value.ownBlock] at hi'
    · have a : g = i := by simpa [Value.ownBlock] using hi
      have b : g' = i := by simpa [Value.ownBlock] using hi'
      subst a
      subst b
      rw [hh] at hh'
      simp only [Option.some.injEq, Obj.cells.injEq] at hh'
      exact hne hh'.2.1
theorem lookN_first : ∀ (l : List (ByteArray × Nat)) (k : Nat) (s : ByteArray) (v : Nat), (∀ q ∈ l.take k, q.1 ≠ s) → l[k]? = some (s, v) → lookN l s = some v
  | [], _, _, _, _, h => by simp at h
  | (a, x) :: l, 0, s, v, _, h => by
    simp only [List.getElem?_cons_zero, Option.some.injEq, Prod.mk.injEq] at h
    obtain ⟨rfl, rfl⟩ := h
    simp [lookN]
  | (a, x) :: l, k + 1, s, v, hn, h => by
    have h0 := hn (a, x) (by simp)
    simp only at h0
    simp only [lookN, if_neg h0]
    exact lookN_first l k s v (fun q hq => hn q (by simp [hq])) (by simpa using h)
theorem lookN_out : ∀ (l : List (ByteArray × Nat)) (s : ByteArray), (∀ q ∈ l, q.1 ≠ s) → lookN l s = none
  | [], _, _ => rfl
  | (a, x) :: l, s, hn => by
    have h0 := hn (a, x) (by simp)
    simp only at h0
    simp only [lookN, if_neg h0]
    exact lookN_out l s fun q hq => hn q (List.mem_cons_of_mem _ hq)
theorem fst_names {w w1 : World} {S : Nat → Prop} {g : Nat} {st : WS} {vb vx vn vn' : Value} {nn : List (ByteArray × Nat)} (hB : Blk w g 77 #[vb, vx, vn]) (hob : OwnS w S 5 1 vb st.b.length (st.b.flatMap encB)) (hox : OwnS w S 5 1 vx st.x.length (st.x.flatMap encB)) (hsep : ∀ i, vb.ownBlock = some i → vx.ownBlock ≠ some i)
    (hon : OwnS w S 174 2 vn st.n.length (st.n.flatMap encN)) (hSg : S g) (hSb : ∀ i, S i → i < w.heap.size) (hg : w.grownBy w1 vn.ownBlock) (hon1 : OwnS w1 (fun i => S i ∨ i = w.heap.size) 174 2 vn' nn.length (nn.flatMap encN)) :
    FOut S g ⟨st.b, st.x, nn⟩ w (w1.setCell ⟨g, 2, none⟩ vn') := by
  have hB1 := hB.grown hg (own_blk_ne hon.1 hB (by decide))
  have hB2 : Blk (w1.setCell ⟨g, 2, none⟩ vn') g 77 #[vb, vx, vn'] := hB1.set_ 2 vn'
  have ob1 := hob.keptBut hg fun i hi e => own_own_ne hob.1 hon.1 (by decide) i hi e
  have ox1 := hox.keptBut hg fun i hi e => own_own_ne hox.1 hon.1 (by decide) i hi e
  have z1 := hg.size
  have z5 : (w1.setCell ⟨g, 2, none⟩ vn').heap.size = w1.heap.size := by simp
  refine ⟨fun i => (S i ∨ w.heap.size ≤ i) ∧ i < w1.heap.size, ⟨vb, vx, vn', hB2, ?_, ?_, hsep, ?_, ⟨.inl hSg, hB1.lt⟩, fun i hi => by rw [z5]; exact hi.2⟩, ((Near.refl S w).grown hg fun k hk => hon.2 k hk).setCell (p := ⟨g, 2, none⟩) hSg _, fun i hi => hi.1⟩
  · have := ob1.set ⟨g, 2, none⟩ (own_blk_ne ob1.1 hB1 (by decide)) vn'
    exact ⟨this.1, fun k hk => ⟨.inl (this.2 k hk), by have := (own_lt this.1 hk).2; omega⟩⟩
  · have := ox1.set ⟨g, 2, none⟩ (own_blk_ne ox1.1 hB1 (by decide)) vn'
    exact ⟨this.1, fun k hk => ⟨.inl (this.2 k hk), by have := (own_lt this.1 hk).2; omega⟩⟩
  · have := hon1.set ⟨g, 2, none⟩ (own_blk_ne hon1.1 hB1 (by decide)) vn'
    exact ⟨this.1, fun k hk => ⟨by
      rcases this.2 k hk with h | h
      · exact .inl h
      · exact .inr (by omega), by have := (own_lt this.1 hk).2; omega⟩⟩
theorem fst_texts {w w2 w4 : World} {S : Nat → Prop} {g n2 : Nat} {st : WS} {vb vx vn v2 v4 : Value} {o : Obj} {x2 xn : List Value} {xx : List Int} (hB : Blk w g 77 #[vb, vx, vn]) (hob : OwnS w S 5 1 vb st.b.length (st.b.flatMap encB)) (hox : OwnS w S 5 1 vx st.x.length xn) (hsep : ∀ i, vb.ownBlock = some i → vx.ownBlock ≠ some i)
    (hon : OwnS w S 174 2 vn st.n.length (st.n.flatMap encN)) (hSg : S g) (hSb : ∀ i, S i → i < w.heap.size)
    (hg2 : w.grownBy w2 vx.ownBlock) (hox3 : OwnS (w2.alloc o) (fun i => S i ∨ i = w.heap.size) 5 1 v2 n2 x2) (hl2 : LocA w vx v2) (hg4 : (w2.alloc o).grownBy w4 v2.ownBlock)
    (hox4 : OwnS w4 (fun i => (S i ∨ i = w.heap.size) ∨ i = (w2.alloc o).heap.size) 5 1 v4 xx.length (xx.flatMap encB)) (hl4 : LocA (w2.alloc o) v2 v4) : FOut S g ⟨st.b, xx, st.n⟩ w (w4.setCell ⟨g, 1, none⟩ v4) := by
  have z2 := hg2.size
  have z4 := hg4.size
  have za : (w2.alloc o).heap.size = w2.heap.size + 1 := by simp
  have z5 : (w4.setCell ⟨g, 1, none⟩ v4).heap.size = w4.heap.size := by simp
  have hB3 := (hB.grown hg2 (own_blk_ne hox.1 hB (by decide))).alloc o
  have hB4 := hB3.grown hg4 (own_blk_ne hox3.1 hB3 (by decide))
  have hB5 : Blk (w4.setCell ⟨g, 1, none⟩ v4) g 77 #[vb, v4, vn] := hB4.set_ 1 v4
  have n2' : Near S w w2 := (Near.refl S w).grown hg2 fun k hk => hox.2 k hk
  have n3 : Near S w (w2.alloc o) := n2'.alloc o
  have n4 : Near S w w4 := n3.step ((Near.refl (fun i => S i ∨ i = w.heap.size) _).grown hg4 fun k hk => hox3.2 k hk) fun i hi => by
    rcases hi with h | h
    · exact .inl h
    · exact .inr (by omega)
  have n5 : Near S w (w4.setCell ⟨g, 1, none⟩ v4) := n4.setCell (p := ⟨g, 1, none⟩) hSg v4
  have hvb : ∀ i, vb.ownBlock = some i → i < w.heap.size ∧ v2.ownBlock ≠ some i ∧ v4.ownBlock ≠ some i := fun i hi => by
    have hlt := (own_lt hob.1 hi).2
    have h2 : v2.ownBlock ≠ some i := fun e => by
      rcases hl2 with h | h
      · exact hsep i hi (h ▸ e)
      · rw [h] at e
        simp only [Option.some.injEq] at e
        omega
    refine ⟨hlt, h2, fun e => ?_⟩
    rcases hl4 with h | h
    · exact h2 (h ▸ e)
    · rw [h] at e
      simp only [Option.some.injEq] at e
      omega
  have ob2 := hob.keptBut hg2 hsep
  have ob4 := (ob2.alloc o).keptBut hg4 fun i hi => (hvb i hi).2.1
  have ob5 := ob4.set ⟨g, 1, none⟩ (own_blk_ne ob4.1 hB4 (by decide)) v4
  have on2 := (hon.keptBut hg2 fun i hi e => own_own_ne hon.1 hox.1 (by decide) i hi e).alloc o
  have on4 := on2.keptBut hg4 fun i hi e => own_own_ne on2.1 hox3.1 (by decide) i hi e
  have on5 := on4.set ⟨g, 1, none⟩ (own_blk_ne on4.1 hB4 (by decide)) v4
  have ox5 := hox4.set ⟨g, 1, none⟩ (own_blk_ne hox4.1 hB4 (by decide)) v4
  refine ⟨fun i => (S i ∨ w.heap.size ≤ i) ∧ i < w4.heap.size, ⟨vb, v4, vn, hB5, ⟨ob5.1, fun k hk => ⟨.inl (ob5.2 k hk), by have := (own_lt ob5.1 hk).2; omega⟩⟩, ⟨ox5.1, fun k hk => ⟨?_, by have := (own_lt ox5.1 hk).2; omega⟩⟩, fun i hi => (hvb i hi).2.2, ⟨on5.1, fun k hk => ⟨.inl (on5.2 k hk), by have := (own_lt on5.1 hk).2; omega⟩⟩, ⟨.inl hSg, hB4.lt⟩, fun i hi => by rw [z5]; exact hi.2⟩, n5, fun i hi => hi.1⟩
  rcases ox5.2 k hk with (h | h) | h
  · exact .inl h
  · exact .inr (by omega)
  · exact .inr (by omega)
set_option maxRecDepth 100000 in
set_option maxHeartbeats 2000000 in
theorem ftext_any (g : Nat) (st : WS) (s : ByteArray) (S : Nat → Prop) (w : World) (hw : FSt w S g st) (hs : s.size ≤ 1000) (hx : st.x.length ≤ 1000000) (hn : st.n.length ≤ 1000000) :
    Calls Try.prog 84 #[.pointer (some ⟨g, 0, none⟩), .string s] w fun e w' => e = .returned (.int .i64 (textS st s).2) ∧ FOut S g (textS st s).1 w w' := by
  have HW := Lib.hid hw
  obtain ⟨vb, vx, vn, hB, hob, hox, hsep, hon, hSg, hSb⟩ := hw
  have cB := hB.cell
  have hgl := hB.lt
  obtain ⟨An, cn, hvn, _, hrn⟩ := own_slice hon.1
  obtain ⟨nn, hnn⟩ : ∃ n, st.n.length = n := ⟨_, rfl⟩
  rw [hnn] at hrn hvn hn
  subst hvn
  have HNn := Lib.hid hnn
  have HRn := Lib.hid hrn
  have HBk := Lib.hid hB
  have HOb := Lib.hid hob
  have HOx := Lib.hid hox
  have HOn := Lib.hid hon
  have HSb := Lib.hid hSb
  have HSep := Lib.hid hsep
  clear hnn hrn hB hob hox hon hSb hsep
  go_enter Try.func84, Try.ntmps84
  go_wp2_with fail
  go_loopw [13] (fun i wr => ∃ k : Nat, k ≤ nn ∧ i = .int .i64 k ∧ Hid (∀ q ∈ st.n.take k, q.1 ≠ s) ∧ Below w.heap.size w wr) (fun i _ => nn - (intOf i).toNat)
  case atStart => exact ⟨0, by omega, rfl, by simp [Hid], Below.refl _ _⟩
  case round =>
    obtain ⟨k, hk, rfl, hne, hb⟩ := hrel
    clear cB
    have cB := (HBk.out.kept hb).cell
    have hbz := hb.size
    by_cases hlt : k < nn
    · obtain ⟨p, hp⟩ : ∃ p, st.n[k]? = some p := ⟨_, List.getElem?_eq_getElem (by rw [HNn.out]; exact hlt)⟩
      obtain ⟨b1, o1, rfl, hb1, hd1⟩ := (HRn.out.below hb).row (enc := encN) (fun _ => rfl) (k := k) (by rw [HNn.out]; exact hlt) HNn.out
      have hg1 : st.n[k]'(by rw [HNn.out]; exact hlt) = p := (List.getElem?_eq_some_iff.1 hp).2
      have d0 := hd1 0 (by omega)
      have d1 := hd1 1 (by omega)
      rw [hg1] at d0 d1
      obtain ⟨ps, pv⟩ := p
      simp only [encN, Nat.add_zero, List.getElem?_cons_zero, List.getElem?_cons_succ] at d0 d1
      have HP := Lib.hid hp
      clear hd1 hg1 hp cB
      have cX := (Blk.new wr 174 #[.string ps, .int .i64 pv]).cell
      by_cases heq : ps = s
      · subst heq
        have hlk := lookN_first st.n k ps pv hne.out HP.out
        have ht : textS st ps = (st, pv) := by unfold textS; rw [hlk]
        have HTx := Lib.hid ht
        clear ht hlk
        go_wp2_with fail
        go_ret
        rw [HTx.out]
        exact ⟨rfl, S, HW.out.kept (bal' hb _ hbz), Near.of_below S (bal' hb _ hbz), fun i hi => .inl hi⟩
      · have heb := baL heq
        have HEq := Lib.hid heq
        clear heq
        go_wp2_with fail
        go_roundw
        case rel =>
          refine ⟨k + 1, by omega, by go_num, fun q hq => ?_, bal' hb _ hbz⟩
          rw [List.take_add_one, HP.out] at hq
          simp only [List.mem_append] at hq
          rcases hq with hq | hq
          · exact hne.out q hq
          · simp at hq
            rw [hq]
            exact HEq.out
        case measure => simp [intOf]; omega
    · obtain rfl : k = nn := by omega
      have hlk := lookN_out st.n s (fun q hq => hne.out q (by rw [← HNn.out, List.take_length]; exact hq))
      obtain ⟨nx, hnx⟩ : ∃ n, st.x.length = n := ⟨_, rfl⟩
      have ht : textS st s = (⟨st.b, st.x ++ (strB s ++ [0]), st.n ++ [(s, nx)]⟩, nx) := by unfold textS; rw [hlk, hnx]
      have HTx := Lib.hid ht
      have HNx := Lib.hid hnx
      clear ht hlk hne
      obtain ⟨Ax, cx, hv, _, _⟩ := own_slice HOx.out.1
      rw [hnx] at hv hx
      subst hv
      clear hnx
      have hwr := HW.out.kept hb
      have hBr := HBk.out.kept hb
      have hbX := bal (Below.refl wr.heap.size wr) (.cells #[.string s, .int .i64 nx] 174)
      have hBX := hBr.kept hbX
      have hobX := (HOb.out.kept hb).kept hbX
      have hoxX := (HOx.out.kept hb).kept hbX
      have honX := (HOn.out.kept hb).kept hbX
      have hSbX : ∀ i, S i → i < (wr.alloc (.cells #[.string s, .int .i64 nx] 174)).heap.size := fun i hi => by have := HSb.out i hi; simp; omega
      have HM1 := Lib.hid (show st.n.length + 1 ≤ maxLen by rw [HNn.out]; unfold maxLen; omega)
      have HM2 := Lib.hid (show (st.n.length + 1) * 24 ≤ 140737488355328 by rw [HNn.out]; omega)
      have fB := hBX.frozen
      clear hwr
      go_upto_region 9 with (at_builtin; refine wpList_appO placed_elem rfl (.tmp 33) (.tmp 37) rfl honX rfl rfl (Rd.fresh _ #[.string s, .int .i64 nx] _ 1 2 _ rfl) (by simp [Value.oneCell']) HM1.out HM2.out ?_; intro v1 w1 hon1 hg1 hl1; obtain ⟨A1, c1, rfl, _, _⟩ := own_slice hon1.1; have hB1 := hBX.grown hg1 (own_blk_ne honX.1 hBX (by decide)); have f1 := hB1.frozen; have cB1 := hB1.cell)
      have hA := fst_names (st := st) (nn := st.n ++ [(s, nx)]) hBX hobX hoxX HSep.out honX hSg hSbX hg1 (by
        have e1 : (st.n ++ [(s, nx)]).length = st.n.length + 1 := by simp
        have e2 : (st.n ++ [(s, nx)]).flatMap encN = st.n.flatMap encN ++ #[Value.string s, Value.int IntKind.i64 ↑nx].toList := by simp [encN]
        rw [e1, e2]
        exact hon1)
      have hbw : RowKit.Below w.heap.size w (wr.alloc (.cells #[.string s, .int .i64 nx] 174)) := bal' hb _ hbz
      clear hBX hobX hoxX honX hSbX hg1 hon1 hl1 hB1 f1 cB1 fB cB hBr hbX HM1 HM2
      generalize w1.setCell ⟨g, 2, none⟩ (.slice A1 (st.n.length + 1) c1) = wA at *
      generalize wr.alloc (.cells #[.string s, .int .i64 nx] 174) = wx at *
      obtain ⟨SA, ⟨vb, vx, vn, hB, hob, hox, hsep, hon, hSg, hSb⟩, hnA, hsA⟩ := hA
      obtain ⟨Ax, cx, rfl, _, _⟩ := own_slice hox.1
      have hlx : (⟨st.b, st.x, st.n ++ [(s, nx)]⟩ : WS).x.length = nx := HNx.out
      have hox' : OwnS wA SA 5 1 (.slice Ax nx cx) nx (st.x.flatMap encB) := by
        have := hox
        rw [hlx] at this
        exact this
      have HM1 := Lib.hid (show nx + s.size ≤ maxLen by unfold maxLen; omega)
      have HM2 := Lib.hid (show nx + s.size ≤ 140737488355328 by omega)
      have HM3 := Lib.hid (show nx + s.size + 1 ≤ maxLen by unfold maxLen; omega)
      have HM4 := Lib.hid (show (nx + s.size + 1) * 1 ≤ 140737488355328 by omega)
      rw [hlx] at hB
      have cB := hB.cell
      have HNA := Lib.hid hnA
      have HSA := Lib.hid hsA
      have HBw := Lib.hid hbw
      clear hnA hsA hlx hbw hb hbz
      go_wp2_with (at_builtin; first
        | (refine wpList_appsO rfl (.tmp 45) (.tmp 46) rfl hox' rfl rfl HM1.out HM2.out ?_; intro v2 w2 hox2 hg2 hl2; obtain ⟨A2, c2, rfl, _, _⟩ := own_slice hox2.1; have hB2 := hB.grown hg2 (own_blk_ne hox'.1 hB (by decide)))
        | (refine wpList_appO u8_elem rfl (.tmp 47) (.tmp 48) rfl (hox2.alloc _) rfl rfl (Rd.fresh _ _ _ 1 1 _ rfl) (by simp [Value.oneCell']) HM3.out HM4.out ?_; intro v4 w4 hox4 hg4 hl4; have hox3 := hox2.alloc (.cells #[.int .u8 0] 5); have hB3 := hB2.alloc (.cells #[.int .u8 0] 5); have hB4 := hB3.grown hg4 (own_blk_ne hox3.1 hB3 (by decide)); obtain ⟨A4, c4, rfl, _, _⟩ := own_slice hox4.1; have cB4 := hB4.cell; have f4 := hB4.frozen))
      go_ret
      rw [HTx.out]
      refine ⟨rfl, ?_⟩
      have hE := fst_texts (st := ⟨st.b, st.x, st.n ++ [(s, nx)]⟩) (xx := st.x ++ (strB s ++ [0])) hB hob (by rw [show (⟨st.b, st.x, st.n ++ [(s, nx)]⟩ : WS).x.length = nx from HNx.out]; exact hox') (by have := hsep; rw [HNx.out] at this; exact this) hon hSg hSb hg2 hox3 hl2 hg4 (by
        have e1 : (st.x ++ (strB s ++ [0])).length = nx + s.size + 1 := by simp [strB_len, HNx.out]; omega
        have e2 : (st.x ++ (strB s ++ [0])).flatMap encB = st.x.flatMap encB ++ Lib.strCells s ++ [.int .u8 0] := by rw [strCells_eq]; simp [encB]
        rw [e1, e2]
        exact hox4) hl4
      obtain ⟨SE, h1, h2, h3⟩ := hE
      have h0 : Near S w wA := (Near.of_below S HBw.out).trans HNA.out
      have hz := HBw.out.size
      have hz2 := HNA.out.size
      refine ⟨SE, h1, h0.step h2 (fun i hi => ?_), fun i hi => ?_⟩
      · rcases HSA.out i hi with h | h
        · exact .inl h
        · exact .inr (by omega)
      · rcases h3 i hi with h | h
        · rcases HSA.out i h with h | h
          · exact .inl h
          · exact .inr (by omega)
        · exact .inr (by omega)
end Go.Proofs.Ytnkpaockginooaa
