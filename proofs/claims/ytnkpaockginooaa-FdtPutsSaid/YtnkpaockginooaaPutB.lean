/- A name's place among the texts ((*fdt.writer).text), walked. -/
import Derived.Test.YtnkpaockginooaaPutA
import Derived.Test.YtnkpaockginooaaAppL
namespace Go.Proofs.Ytnkpaockginooaa
set_option linter.unusedVariables false
set_option linter.unusedSimpArgs false
open Go.RowKit Go.Sort Go.Maps Go.WideShapes Go.ChangeShapes

theorem own_map_ne {w : World} {base : Nat} {e : TypeId} {size n : Nat} {v : Value} {xs : List Value} {P : Program} {k : TypeId} {R : Value → Option (DataW Unit × List MemPlace)} {b m : Nat} {D : DataW Unit} (h : w.ownsRow base e size v n xs) (hm : w.ownsMap P k R b m D) : some b ≠ v.ownBlock := by
  rcases h.2 with ⟨rfl, _⟩ | ⟨g', cap, cur, rfl, _, hh, _⟩
  · simp [Value.ownBlock]
  · intro he
    have : g' = b := by simpa [Value.ownBlock] using he.symm
    subst this
    obtain ⟨es, clock, hb, _⟩ := hm
    rw [hh] at hb
    simp at hb
theorem blk_map_ne {w : World} {g : Nat} {T : TypeId} {cs : Array Value} {P : Program} {k : TypeId} {R : Value → Option (DataW Unit × List MemPlace)} {b m : Nat} {D : DataW Unit} (h : Blk w g T cs) (hm : w.ownsMap P k R b m D) : g ≠ b := by
  rintro rfl
  obtain ⟨es, clock, hb, _⟩ := hm
  unfold Blk at h
  rw [h] at hb
  simp at hb
theorem OwnS.keptBut {w w' : World} {S : Nat → Prop} {e : TypeId} {size n : Nat} {v : Value} {xs : List Value} {row : Option Nat} (h : OwnS w S e size v n xs) (hg : w.grownBy w' row) (hne : ∀ i, v.ownBlock = some i → row ≠ some i) : OwnS w' S e size v n xs :=
  ⟨own_same h.1 fun k hk => hg.block k (own_lt h.1 hk).2 (fun e => hne k hk e.symm), h.2⟩
theorem text_out {w w1 w2 w4 : World} {S : Nat → Prop} {g mb nx k : Nat} {vb vx v2 v4 : Value} {st' : WS} {D : DataW Unit} {o : Obj} {x0 x2 : List Value} {n2 : Nat} (hob : OwnS w S 5 1 vb st'.b.length (st'.b.flatMap encB)) (hox : OwnS w S 5 1 vx nx x0) (hsep : ∀ i, vb.ownBlock = some i → vx.ownBlock ≠ some i)
    {D0 : DataW Unit} {k0 : Nat} (hmap : w.ownsMap Try.prog 9 (plainElem Try.prog 44) mb k0 D0) (hg1 : w.grownBy w1 (some mb)) (hmap1 : w1.ownsMap Try.prog 9 (plainElem Try.prog 44) mb k D) (hk : k = st'.n.length) (hrel : MapRel D st'.n)
    (hox1 : OwnS w1 S 5 1 vx nx x0) (hg2 : w1.grownBy w2 vx.ownBlock) (hox3 : OwnS (w2.alloc o) (fun i => S i ∨ i = w1.heap.size) 5 1 v2 n2 x2) (hl2 : LocA w1 vx v2) (hg4 : (w2.alloc o).grownBy w4 v2.ownBlock)
    (hox4 : OwnS w4 (fun i => (S i ∨ i = w1.heap.size) ∨ i = (w2.alloc o).heap.size) 5 1 v4 st'.x.length (st'.x.flatMap encB)) (hl4 : LocA (w2.alloc o) v2 v4) (hB4 : Blk w4 g 70 #[vb, vx, .map (some mb)]) (hB3 : Blk (w2.alloc o) g 70 #[vb, vx, .map (some mb)])
    (hSg : S g) (hSm : S mb) (hSb : ∀ i, S i → i < w.heap.size) : WOut S g mb st' w (w4.setCell ⟨g, 1, none⟩ v4) := by
  have z1 := hg1.size
  have z2 := hg2.size
  have z4 := hg4.size
  have za : (w2.alloc o).heap.size = w2.heap.size + 1 := by simp
  have z5 : (w4.setCell ⟨g, 1, none⟩ v4).heap.size = w4.heap.size := by simp
  have hB5 : Blk (w4.setCell ⟨g, 1, none⟩ v4) g 70 #[vb, v4, .map (some mb)] := hB4.set_ 1 v4
  have hm2 := hmap1.kept hg2 (own_map_ne hox1.1 hmap1)
  have hm4 := (hm2.alloc o).kept hg4 (own_map_ne hox3.1 (hm2.alloc o))
  have hm5 := hm4.setCell (a := ⟨g, 1, none⟩) (Ne.symm (blk_map_ne hB4 hm4)) v4
  have n1 : Near S w w1 := grown_near hg1 hSm
  have n2' : Near S w w2 := n1.grown hg2 fun k hk => hox1.2 k hk
  have n3 : Near S w (w2.alloc o) := n2'.alloc o
  have n4 : Near S w w4 := n3.step ((Near.refl (fun i => S i ∨ i = w1.heap.size) _).grown hg4 fun k hk => hox3.2 k hk) fun i hi => by
    rcases hi with h | h
    · exact .inl h
    · exact .inr (by omega)
  have n5 : Near S w (w4.setCell ⟨g, 1, none⟩ v4) := n4.setCell (p := ⟨g, 1, none⟩) hSg v4
  have hvb : ∀ i, vb.ownBlock = some i → i < w.heap.size ∧ v2.ownBlock ≠ some i ∧ v4.ownBlock ≠ some i := fun i hi => by
    have hlt := (own_lt hob.1 hi).2
    have h2 : v2.ownBlock ≠ some i := fun e => by
      rcases hl2 with h | h
      · exact hsep i hi (h ▸ e)
      · rw [h] at e
        simp only [Option.some.injEq] at e
        omega
    refine ⟨hlt, h2, fun e => ?_⟩
    rcases hl4 with h | h
    · exact h2 (h ▸ e)
    · rw [h] at e
      simp only [Option.some.injEq] at e
      omega
  have ob1 := hob.keptBut hg1 fun i hi e => own_map_ne hob.1 hmap (by rw [hi, e])
  have ob2 := ob1.keptBut hg2 hsep
  have ob4 := (ob2.alloc o).keptBut hg4 fun i hi => (hvb i hi).2.1
  have ob5 := ob4.set ⟨g, 1, none⟩ (own_blk_ne ob4.1 hB4 (by decide)) v4
  have ox5 := hox4.set ⟨g, 1, none⟩ (own_blk_ne hox4.1 hB4 (by decide)) v4
  refine ⟨fun i => (S i ∨ w.heap.size ≤ i) ∧ i < w4.heap.size, ⟨vb, v4, D, hB5, ⟨ob5.1, fun k hk => ⟨.inl (ob5.2 k hk), ?_⟩⟩, ⟨ox5.1, fun k hk => ⟨?_, ?_⟩⟩, fun i hi => (hvb i hi).2.2, by rw [← hk]; exact hm5, hrel, ⟨.inl hSg, hB4.lt⟩, ⟨.inl hSm, hm4.lt⟩, fun i hi => by rw [z5]; exact hi.2⟩, n5, fun i hi => hi.1⟩
  · have := (own_lt ob5.1 hk).2
    omega
  · rcases ox5.2 k hk with (h | h) | h
    · exact .inl h
    · exact .inr (by omega)
    · exact .inr (by omega)
  · have := (own_lt ox5.1 hk).2
    omega
set_option maxRecDepth 100000 in
set_option maxHeartbeats 2000000 in
theorem text_any (g mb : Nat) (st : WS) (s : ByteArray) (S : Nat → Prop) (w : World) (hw : WSt w S g mb st) (hs : s.size ≤ 1000) (hx : st.x.length ≤ 1000000) (hn : st.n.length ≤ 1000000) :
    Calls Try.prog 81 #[.pointer (some ⟨g, 0, none⟩), .string s] w fun e w' => e = .returned (.int .u32 (textS st s).2) ∧ (textS st s).2 < 4294967296 ∧ WOut S g mb (textS st s).1 w w' := by
  have HW := Lib.hid hw
  obtain ⟨vb, vx, D, hB, hob, hox, hsep, hmap, hrel, hSg, hSm, hSb⟩ := hw
  have HRel := Lib.hid hrel
  have hkey := key_s s (by unfold maxLen; omega)
  have cB := hB.cell
  have HBk := Lib.hid hB
  rcases hlk : lookN st.n s with _ | p
  · have hno : has D (kl s) = false := by
      have := hrel s
      rw [hlk] at this
      exact this
    obtain ⟨nx, hnx⟩ : ∃ nx, st.x.length = nx := ⟨_, rfl⟩
    have ht : textS st s = (⟨st.b, st.x ++ (strB s ++ [0]), st.n ++ [(s, nx)]⟩, nx) := by unfold textS; rw [hlk, hnx]
    rw [ht]
    rw [hnx] at hox hx
    have HN := Lib.hid hnx
    have HL := Lib.hid hlk
    obtain ⟨A, c, hv, hnc, _⟩ := own_slice hox.1
    subst hv
    clear hnx ht hlk hrel hB
    have hm4 : (nx : Int) % 4294967296 = nx := by omega
    have hne0 := own_map_ne hox.1 hmap
    have hne1 := blk_map_ne HBk.out hmap
    have HHN := Lib.hid (show st.n.length < maxLen by unfold maxLen; omega)
    have HM1 := Lib.hid (show nx + s.size ≤ maxLen by unfold maxLen; omega)
    have HM2 := Lib.hid (show nx + s.size ≤ 140737488355328 by omega)
    have HM3 := Lib.hid (show nx + s.size + 1 ≤ maxLen by unfold maxLen; omega)
    have HM4 := Lib.hid (show (nx + s.size + 1) * 1 ≤ 140737488355328 by omega)
    have HWf := Lib.hid (show (Lit.int IntKind.u32 (nx : Int)).wf = true by simp [Lit.wf, IntKind.min, IntKind.max, IntKind.signed, IntKind.bits]; omega)
    have HOb := Lib.hid hob
    have HSep := Lib.hid hsep
    have HSb := Lib.hid hSb
    have hgl := HBk.out.lt
    have f0 := HBk.out.frozen
    clear hn hob hsep hSb HW
    go_enter Try.func81, Try.ntmps81
    go_wp2_with (first
      | (at_lookup; refine wpList_lookup_own_ok_int _ rfl _ _ 66 rfl 9 44 .u32 law_s Try.underlying66 Try.underlying44 (zero_u32 _) mb st.n.length D rfl hmap _ _ rfl hkey ?_; intro cc hat hwc; rw [hno])
      | (at_mapUpdate; refine wpList_mapUpdate_own _ rfl _ _ _ 66 rfl 9 44 law_s Try.underlying66 _ mb st.n.length D rfl hmap HHN.out _ _ _ rfl rfl hkey _ [] (plainElem_int Try.underlying44 HWf.out) ?_; intro w1 hmap1 hg1; have hB1 := HBk.out.grown hg1 (by intro e; simp only [Option.some.injEq] at e; exact hne1 e); have hox1 := hox.keptBut hg1 (fun i hi e => hne0 (by rw [hi, e])); have cB1 := hB1.cell; have f1 := hB1.frozen)
      | (at_builtin; first
        | (refine wpList_appsO rfl (.tmp 34) (.tmp 35) rfl hox1 rfl rfl HM1.out HM2.out ?_; intro v2 w2 hox2 hg2 hl2; obtain ⟨A2, c2, rfl, _, _⟩ := own_slice hox2.1; have hB2 := hB1.grown hg2 (own_blk_ne hox1.1 hB1 (by decide)))
        | (refine wpList_appO u8_elem rfl (.tmp 36) (.tmp 37) rfl (hox2.alloc _) rfl rfl (Rd.fresh _ _ _ 1 1 _ rfl) (by simp [Value.oneCell']) HM3.out HM4.out ?_; intro v4 w4 hox4 hg4 hl4; have hox3 := hox2.alloc (.cells #[.int .u8 0] 5); have hB3 := hB2.alloc (.cells #[.int .u8 0] 5); have hB4 := hB3.grown hg4 (own_blk_ne hox3.1 hB3 (by decide)); obtain ⟨A4, c4, rfl, _, _⟩ := own_slice hox4.1; have cB4 := hB4.cell; have f4 := hB4.frozen)))
    go_ret
    have hisM := hmap.isMap
    refine ⟨rfl, by show nx < 4294967296; omega, text_out (st' := ⟨st.b, st.x ++ (strB s ++ [0]), st.n ++ [(s, nx)]⟩) HOb.out hox HSep.out hmap hg1 hmap1 (by simp) (mapRel_put HRel.out hisM s nx HL.out) hox1 hg2 hox3 hl2 hg4 ?_ hl4 hB4 hB3 hSg hSm HSb.out⟩
    have e1 : (st.x ++ (strB s ++ [0])).length = nx + s.size + 1 := by simp [strB_len, HN.out]; omega
    have e2 : (st.x ++ (strB s ++ [0])).flatMap encB = st.x.flatMap encB ++ Lib.strCells s ++ [.int .u8 0] := by rw [strCells_eq]; simp [encB]
    show OwnS w4 _ 5 1 _ (st.x ++ (strB s ++ [0])).length ((st.x ++ (strB s ++ [0])).flatMap encB)
    rw [e1, e2]
    exact hox4
  · have hyes : has D (kl s) = true ∧ D.atKey (kl s) (.lit (.int .u32 0)) = .lit (.int .u32 p) := by
      have := hrel s
      rw [hlk] at this
      exact this
    have ht : textS st s = (st, p) := by unfold textS; rw [hlk]
    rw [ht]
    obtain ⟨hy1, hy2⟩ := hyes
    clear ht hlk hrel hB
    go_enter Try.func81, Try.ntmps81
    go_wp2_with (at_lookup; refine wpList_lookup_own_ok_int _ rfl _ _ 66 rfl 9 44 .u32 law_s Try.underlying66 Try.underlying44 (zero_u32 _) mb st.n.length D rfl hmap _ _ rfl hkey ?_; intro cc hat hwc; rw [hy1]; rw [hy2] at hat; simp only [DataW.lit.injEq, Lit.int.injEq, true_and] at hat; subst hat)
    go_ret
    have hpb := wf_u32 hwc
    exact ⟨rfl, by show p < 4294967296; omega, S, HW.out, Near.refl _ _, fun i hi => .inl hi⟩
end Go.Proofs.Ytnkpaockginooaa
