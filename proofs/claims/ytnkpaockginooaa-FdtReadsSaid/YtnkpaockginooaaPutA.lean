/- A tree as bytes: the specification; the writer in memory; a name's place walked. -/
import Derived.Test.YtnkpaockginooaaMayD
import Derived.Test.YtnkpaockginooaaRegT
import Derived.Maps.OwnSet
import Derived.Lib.AppendStr
import Derived.Test.YtnkpaockginooaaAppL
namespace Go.Proofs.Ytnkpaockginooaa
set_option linter.unusedVariables false
set_option linter.unusedSimpArgs false
open Go.RowKit Go.Sort Go.Maps Go.WideShapes Go.ChangeShapes

/-- The structure, the texts, and the names with their places. -/
structure WS where
  b : List Int
  x : List Int
  n : List (ByteArray × Nat)
open Classical in
noncomputable def lookN : List (ByteArray × Nat) → ByteArray → Option Nat
  | [], _ => none
  | (k, v) :: l, s => if k = s then some v else lookN l s
theorem lookN_app (l : List (ByteArray × Nat)) (k s : ByteArray) (v : Nat) (h : lookN l k = none) : lookN (l ++ [(k, v)]) s = if k = s then some v else lookN l s := by
  induction l with
  | nil => simp [lookN]
  | cons p l ih =>
    obtain ⟨k', v'⟩ := p
    unfold lookN at h
    split at h
    · cases h
    · rename_i hne
      simp only [List.cons_append, lookN]
      rw [ih h]
      by_cases e1 : k' = s
      · have : ¬ k = s := fun e => hne (by rw [e1, e])
        simp [e1, this]
      · simp [e1]
def be4 (l : List Int) : List Int := l.flatMap (bytesN 4 false)
theorem be4_len (l : List Int) : (be4 l).length = 4 * l.length := by
  induction l with
  | nil => rfl
  | cons x l ih =>
    unfold be4 at *
    rw [List.flatMap_cons, List.length_append, bytesN_len, ih, List.length_cons]
    omega
noncomputable def textS (st : WS) (s : ByteArray) : WS × Nat := match lookN st.n s with
  | some p => (st, p)
  | none => (⟨st.b, st.x ++ (strB s ++ [0]), st.n ++ [(s, st.x.length)]⟩, st.x.length)
noncomputable def propS (st : WS) (p : Pr) : WS := ⟨fillN ((st.b ++ be4 [3, p.2.length, (textS st p.1).2]) ++ p.2), (textS st p.1).1.x, (textS st p.1).1.n⟩
/-- The structure behind a node. -/
noncomputable def nodeS : Nat → Tr → WS → WS
  | 0, _, st => st
  | f + 1, t, st =>
    let s3 := t.ks.foldl (fun s k => nodeS f k s) (t.ps.foldl propS ⟨fillN ((st.b ++ be4 [1]) ++ (strB t.nm ++ [0])), st.x, st.n⟩)
    ⟨s3.b ++ be4 [2], s3.x, s3.n⟩
/-- What holds of all places. -/
def PlOk (st : WS) : Prop := ∀ p ∈ st.n, p.2 < 4294967296
theorem lookN_mem : ∀ (l : List (ByteArray × Nat)) (s : ByteArray) (p : Nat), lookN l s = some p → (s, p) ∈ l
  | [], _, _, h => by simp [lookN] at h
  | (k, v) :: l, s, p, h => by
    unfold lookN at h
    split at h
    · rename_i e
      simp only [Option.some.injEq] at h
      subst h e
      exact List.mem_cons_self ..
    · exact List.mem_cons_of_mem _ (lookN_mem l s p h)
theorem lookN_none : ∀ (l : List (ByteArray × Nat)) (s : ByteArray), lookN l s = none → ∀ p ∈ l, p.1 ≠ s
  | [], _, _, _, hp => by cases hp
  | (k, v) :: l, s, h, p, hp => by
    unfold lookN at h
    split at h
    · cases h
    · rename_i e
      rcases List.mem_cons.1 hp with rfl | hp
      · exact e
      · exact lookN_none l s h p hp
/-- What a map of names reads as. -/
def MapRel (D : DataW Unit) (N : List (ByteArray × Nat)) : Prop := ∀ s, match lookN N s with
  | some p => has D (kl s) = true ∧ D.atKey (kl s) (.lit (.int .u32 0)) = .lit (.int .u32 p)
  | none => has D (kl s) = false
theorem mapRel_nil : MapRel (.map []) [] := fun s => by simp [lookN, has]
theorem mapRel_put {D : DataW Unit} {N : List (ByteArray × Nat)} (h : MapRel D N) (hD : IsMap D) (k : ByteArray) (v : Nat) (hk : lookN N k = none) : MapRel (D.put (kl k) (.lit (.int .u32 v))) (N ++ [(k, v)]) := fun s => by
  rw [lookN_app N k s v hk]
  by_cases e : k = s
  · subst e
    simp only [if_true]
    exact ⟨has_put_same hD (kl_key k) _, atKey_put_same hD (kl_key k) _ _⟩
  · have hne : kl s ≠ kl k := fun h2 => e (kl_inj h2).symm
    have := h s
    simp only [if_neg e]
    rw [has_put_other hne, atKey_put_other hne]
    exact this
/-- The writer in memory: its block, its bytes and texts in rows of its own, its map. All of it lies in S. -/
def WSt (w : World) (S : Nat → Prop) (g mb : Nat) (st : WS) : Prop := ∃ vb vx D,
  Blk w g 70 #[vb, vx, .map (some mb)] ∧ OwnS w S 5 1 vb st.b.length (st.b.flatMap encB) ∧ OwnS w S 5 1 vx st.x.length (st.x.flatMap encB) ∧ (∀ i, vb.ownBlock = some i → vx.ownBlock ≠ some i) ∧
  w.ownsMap Try.prog 9 (plainElem Try.prog 44) mb st.n.length D ∧ MapRel D st.n ∧ S g ∧ S mb ∧ ∀ i, S i → i < w.heap.size
/-- .. behind a step. -/
def WOut (S : Nat → Prop) (g mb : Nat) (st : WS) (w w' : World) : Prop := ∃ S', WSt w' S' g mb st ∧ Near S w w' ∧ ∀ i, S' i → S i ∨ w.heap.size ≤ i
theorem map_near {w w' : World} {S : Nat → Prop} {P : Program} {k : TypeId} {R : Value → Option (DataW Unit × List MemPlace)} {b n : Nat} {D : DataW Unit} (h : w.ownsMap P k R b n D) (hn : Near S w w') (hs : ¬ S b) : w'.ownsMap P k R b n D := by
  have hlt := h.lt
  obtain ⟨es, clock, hb, r⟩ := h
  exact ⟨es, clock, (hn.block b hlt hs).trans hb, r⟩
theorem map_kept {w w' : World} {P : Program} {k : TypeId} {R : Value → Option (DataW Unit × List MemPlace)} {b n : Nat} {D : DataW Unit} (h : w.ownsMap P k R b n D) (hb : Below w.heap.size w w') : w'.ownsMap P k R b n D := map_near h (Near.of_below (fun _ => False) hb) (fun h => h)
theorem WSt.kept {w w' : World} {S : Nat → Prop} {g mb : Nat} {st : WS} (h : WSt w S g mb st) (hb : Below w.heap.size w w') : WSt w' S g mb st := by
  obtain ⟨vb, vx, D, h1, h2, h3, h4, h5, h6, h7, h8, h9⟩ := h
  exact ⟨vb, vx, D, h1.kept hb, h2.kept hb, h3.kept hb, h4, map_kept h5 hb, h6, h7, h8, fun i hi => Nat.lt_of_lt_of_le (h9 i hi) hb.size⟩
theorem WOut.trans {S : Nat → Prop} {g mb : Nat} {st2 : WS} {w w1 w2 : World} {S1 : Nat → Prop} (hn : Near S w w1) (hs : ∀ i, S1 i → S i ∨ w.heap.size ≤ i) (h : WOut S1 g mb st2 w1 w2) : WOut S g mb st2 w w2 := by
  obtain ⟨S2, h1, h2, h3⟩ := h
  have := hn.size
  exact ⟨S2, h1, hn.step h2 hs, fun i hi => by
    rcases h3 i hi with h | h
    · exact hs i h
    · exact .inr (by omega)⟩
theorem grown_near {S : Nat → Prop} {w w' : World} {b : Nat} (h : w.grownBy w' (some b)) (hb : S b) : Near S w w' := (Near.refl S w).grown h fun k hk => by
  simp only [Option.some.injEq] at hk
  subst hk
  exact hb
theorem zero_u32 (w : World) : (zeroValue 44).run Try.prog w = .ok (.int .u32 0) w := by kernel_rfl
theorem strCells_eq (s : ByteArray) : Lib.strCells s = (strB s).flatMap encB := by
  rw [flatB_map]
  simp [Lib.strCells, strB]
end Go.Proofs.Ytnkpaockginooaa
namespace Go.Proofs.Ytnkpaockginooaa
set_option linter.unusedVariables false
set_option linter.unusedSimpArgs false
open Go.RowKit Go.Sort Go.Maps Go.WideShapes Go.ChangeShapes

theorem own_map_ne {w : World} {base : Nat} {e : TypeId} {size n : Nat} {v : Value} {xs : List Value} {P : Program} {k : TypeId} {R : Value → Option (DataW Unit × List MemPlace)} {b m : Nat} {D : DataW Unit} (h : w.ownsRow base e size v n xs) (hm : w.ownsMap P k R b m D) : some b ≠ v.ownBlock := by
  rcases h.2 with ⟨rfl, _⟩ | ⟨g', cap, cur, rfl, _, hh, _⟩
  · simp [Value.ownBlock]
  · intro he
    have : g' = b := by simpa [Value.ownBlock] using he.symm
    subst this
    obtain ⟨es, clock, hb, _⟩ := hm
    rw [hh] at hb
    simp at hb
theorem blk_map_ne {w : World} {g : Nat} {T : TypeId} {cs : Array Value} {P : Program} {k : TypeId} {R : Value → Option (DataW Unit × List MemPlace)} {b m : Nat} {D : DataW Unit} (h : Blk w g T cs) (hm : w.ownsMap P k R b m D) : g ≠ b := by
  rintro rfl
  obtain ⟨es, clock, hb, _⟩ := hm
  unfold Blk at h
  rw [h] at hb
  simp at hb
theorem OwnS.keptBut {w w' : World} {S : Nat → Prop} {e : TypeId} {size n : Nat} {v : Value} {xs : List Value} {row : Option Nat} (h : OwnS w S e size v n xs) (hg : w.grownBy w' row) (hne : ∀ i, v.ownBlock = some i → row ≠ some i) : OwnS w' S e size v n xs :=
  ⟨own_same h.1 fun k hk => hg.block k (own_lt h.1 hk).2 (fun e => hne k hk e.symm), h.2⟩
theorem text_out {w w1 w2 w4 : World} {S : Nat → Prop} {g mb nx k : Nat} {vb vx v2 v4 : Value} {st' : WS} {D : DataW Unit} {o : Obj} {x0 x2 : List Value} {n2 : Nat} (hob : OwnS w S 5 1 vb st'.b.length (st'.b.flatMap encB)) (hox : OwnS w S 5 1 vx nx x0) (hsep : ∀ i, vb.ownBlock = some i → vx.ownBlock ≠ some i)
    {D0 : DataW Unit} {k0 : Nat} (hmap : w.ownsMap Try.prog 9 (plainElem Try.prog 44) mb k0 D0) (hg1 : w.grownBy w1 (some mb)) (hmap1 : w1.ownsMap Try.prog 9 (plainElem Try.prog 44) mb k D) (hk : k = st'.n.length) (hrel : MapRel D st'.n)
    (hox1 : OwnS w1 S 5 1 vx nx x0) (hg2 : w1.grownBy w2 vx.ownBlock) (hox3 : OwnS (w2.alloc o) (fun i => S i ∨ i = w1.heap.size) 5 1 v2 n2 x2) (hl2 : LocA w1 vx v2) (hg4 : (w2.alloc o).grownBy w4 v2.ownBlock)
    (hox4 : OwnS w4 (fun i => (S i ∨ i = w1.heap.size) ∨ i = (w2.alloc o).heap.size) 5 1 v4 st'.x.length (st'.x.flatMap encB)) (hl4 : LocA (w2.alloc o) v2 v4) (hB4 : Blk w4 g 70 #[vb, vx, .map (some mb)]) (hB3 : Blk (w2.alloc o) g 70 #[vb, vx, .map (some mb)])
    (hSg : S g) (hSm : S mb) (hSb : ∀ i, S i → i < w.heap.size) : WOut S g mb st' w (w4.setCell ⟨g, 1, none⟩ v4) := by
  have z1 := hg1.size
  have z2 := hg2.size
  have z4 := hg4.size
  have za : (w2.alloc o).heap.size = w2.heap.size + 1 := by simp
  have z5 : (w4.setCell ⟨g, 1, none⟩ v4).heap.size = w4.heap.size := by simp
  have hB5 : Blk (w4.setCell ⟨g, 1, none⟩ v4) g 70 #[vb, v4, .map (some mb)] := hB4.set_ 1 v4
  have hm2 := hmap1.kept hg2 (own_map_ne hox1.1 hmap1)
  have hm4 := (hm2.alloc o).kept hg4 (own_map_ne hox3.1 (hm2.alloc o))
  have hm5 := hm4.setCell (a := ⟨g, 1, none⟩) (Ne.symm (blk_map_ne hB4 hm4)) v4
  have n1 : Near S w w1 := grown_near hg1 hSm
  have n2' : Near S w w2 := n1.grown hg2 fun k hk => hox1.2 k hk
  have n3 : Near S w (w2.alloc o) := n2'.alloc o
  have n4 : Near S w w4 := n3.step ((Near.refl (fun i => S i ∨ i = w1.heap.size) _).grown hg4 fun k hk => hox3.2 k hk) fun i hi => by
    rcases hi with h | h
    · exact .inl h
    · exact .inr (by omega)
  have n5 : Near S w (w4.setCell ⟨g, 1, none⟩ v4) := n4.setCell (p := ⟨g, 1, none⟩) hSg v4
  have hvb : ∀ i, vb.ownBlock = some i → i < w.heap.size ∧ v2.ownBlock ≠ some i ∧ v4.ownBlock ≠ some i := fun i hi => by
    have hlt := (own_lt hob.1 hi).2
    have h2 : v2.ownBlock ≠ some i := fun e => by
      rcases hl2 with h | h
      · exact hsep i hi (h ▸ e)
      · rw [h] at e
        simp only [Option.some.injEq] at e
        omega
    refine ⟨hlt, h2, fun e => ?_⟩
    rcases hl4 with h | h
    · exact h2 (h ▸ e)
    · rw [h] at e
      simp only [Option.some.injEq] at e
      omega
  have ob1 := hob.keptBut hg1 fun i hi e => own_map_ne hob.1 hmap (by rw [hi, e])
  have ob2 := ob1.keptBut hg2 hsep
  have ob4 := (ob2.alloc o).keptBut hg4 fun i hi => (hvb i hi).2.1
  have ob5 := ob4.set ⟨g, 1, none⟩ (own_blk_ne ob4.1 hB4 (by decide)) v4
  have ox5 := hox4.set ⟨g, 1, none⟩ (own_blk_ne hox4.1 hB4 (by decide)) v4
  refine ⟨fun i => (S i ∨ w.heap.size ≤ i) ∧ i < w4.heap.size, ⟨vb, v4, D, hB5, ⟨ob5.1, fun k hk => ⟨.inl (ob5.2 k hk), ?_⟩⟩, ⟨ox5.1, fun k hk => ⟨?_, ?_⟩⟩, fun i hi => (hvb i hi).2.2, by rw [← hk]; exact hm5, hrel, ⟨.inl hSg, hB4.lt⟩, ⟨.inl hSm, hm4.lt⟩, fun i hi => by rw [z5]; exact hi.2⟩, n5, fun i hi => hi.1⟩
  · have := (own_lt ob5.1 hk).2
    omega
  · rcases ox5.2 k hk with (h | h) | h
    · exact .inl h
    · exact .inr (by omega)
    · exact .inr (by omega)
  · have := (own_lt ox5.1 hk).2
    omega
set_option maxRecDepth 100000 in
set_option maxHeartbeats 2000000 in
theorem text_any (g mb : Nat) (st : WS) (s : ByteArray) (S : Nat → Prop) (w : World) (hw : WSt w S g mb st) (hs : s.size ≤ 1000) (hx : st.x.length ≤ 1000000) (hn : st.n.length ≤ 1000000) :
    Calls Try.prog 81 #[.pointer (some ⟨g, 0, none⟩), .string s] w fun e w' => e = .returned (.int .u32 (textS st s).2) ∧ (textS st s).2 < 4294967296 ∧ WOut S g mb (textS st s).1 w w' := by
  have HW := Lib.hid hw
  obtain ⟨vb, vx, D, hB, hob, hox, hsep, hmap, hrel, hSg, hSm, hSb⟩ := hw
  have HRel := Lib.hid hrel
  have hkey := key_s s (by unfold maxLen; omega)
  have cB := hB.cell
  have HBk := Lib.hid hB
  rcases hlk : lookN st.n s with _ | p
  · have hno : has D (kl s) = false := by
      have := hrel s
      rw [hlk] at this
      exact this
    obtain ⟨nx, hnx⟩ : ∃ nx, st.x.length = nx := ⟨_, rfl⟩
    have ht : textS st s = (⟨st.b, st.x ++ (strB s ++ [0]), st.n ++ [(s, nx)]⟩, nx) := by unfold textS; rw [hlk, hnx]
    rw [ht]
    rw [hnx] at hox hx
    have HN := Lib.hid hnx
    have HL := Lib.hid hlk
    obtain ⟨A, c, hv, hnc, _⟩ := own_slice hox.1
    subst hv
    clear hnx ht hlk hrel hB
    have hm4 : (nx : Int) % 4294967296 = nx := by omega
    have hne0 := own_map_ne hox.1 hmap
    have hne1 := blk_map_ne HBk.out hmap
    have HHN := Lib.hid (show st.n.length < maxLen by unfold maxLen; omega)
    have HM1 := Lib.hid (show nx + s.size ≤ maxLen by unfold maxLen; omega)
    have HM2 := Lib.hid (show nx + s.size ≤ 140737488355328 by omega)
    have HM3 := Lib.hid (show nx + s.size + 1 ≤ maxLen by unfold maxLen; omega)
    have HM4 := Lib.hid (show (nx + s.size + 1) * 1 ≤ 140737488355328 by omega)
    have HWf := Lib.hid (show (Lit.int IntKind.u32 (nx : Int)).wf = true by simp [Lit.wf, IntKind.min, IntKind.max, IntKind.signed, IntKind.bits]; omega)
    have HOb := Lib.hid hob
    have HSep := Lib.hid hsep
    have HSb := Lib.hid hSb
    have hgl := HBk.out.lt
    have f0 := HBk.out.frozen
    clear hn hob hsep hSb HW
    go_enter Try.func81, Try.ntmps81
    go_wp2_with (first
      | (at_lookup; refine wpList_lookup_own_ok_int _ rfl _ _ 66 rfl 9 44 .u32 law_s Try.underlying66 Try.underlying44 (zero_u32 _) mb st.n.length D rfl hmap _ _ rfl hkey ?_; intro cc hat hwc; rw [hno])
      | (at_mapUpdate; refine wpList_mapUpdate_own _ rfl _ _ _ 66 rfl 9 44 law_s Try.underlying66 _ mb st.n.length D rfl hmap HHN.out _ _ _ rfl rfl hkey _ [] (plainElem_int Try.underlying44 HWf.out) ?_; intro w1 hmap1 hg1; have hB1 := HBk.out.grown hg1 (by intro e; simp only [Option.some.injEq] at e; exact hne1 e); have hox1 := hox.keptBut hg1 (fun i hi e => hne0 (by rw [hi, e])); have cB1 := hB1.cell; have f1 := hB1.frozen)
      | (at_builtin; first
        | (refine wpList_appsO rfl (.tmp 34) (.tmp 35) rfl hox1 rfl rfl HM1.out HM2.out ?_; intro v2 w2 hox2 hg2 hl2; obtain ⟨A2, c2, rfl, _, _⟩ := own_slice hox2.1; have hB2 := hB1.grown hg2 (own_blk_ne hox1.1 hB1 (by decide)))
        | (refine wpList_appO u8_elem rfl (.tmp 36) (.tmp 37) rfl (hox2.alloc _) rfl rfl (Rd.fresh _ _ _ 1 1 _ rfl) (by simp [Value.oneCell']) HM3.out HM4.out ?_; intro v4 w4 hox4 hg4 hl4; have hox3 := hox2.alloc (.cells #[.int .u8 0] 5); have hB3 := hB2.alloc (.cells #[.int .u8 0] 5); have hB4 := hB3.grown hg4 (own_blk_ne hox3.1 hB3 (by decide)); obtain ⟨A4, c4, rfl, _, _⟩ := own_slice hox4.1; have cB4 := hB4.cell; have f4 := hB4.frozen)))
    go_ret
    have hisM := hmap.isMap
    refine ⟨rfl, by show nx < 4294967296; omega, text_out (st' := ⟨st.b, st.x ++ (strB s ++ [0]), st.n ++ [(s, nx)]⟩) HOb.out hox HSep.out hmap hg1 hmap1 (by simp) (mapRel_put HRel.out hisM s nx HL.out) hox1 hg2 hox3 hl2 hg4 ?_ hl4 hB4 hB3 hSg hSm HSb.out⟩
    have e1 : (st.x ++ (strB s ++ [0])).length = nx + s.size + 1 := by simp [strB_len, HN.out]; omega
    have e2 : (st.x ++ (strB s ++ [0])).flatMap encB = st.x.flatMap encB ++ Lib.strCells s ++ [.int .u8 0] := by rw [strCells_eq]; simp [encB]
    show OwnS w4 _ 5 1 _ (st.x ++ (strB s ++ [0])).length ((st.x ++ (strB s ++ [0])).flatMap encB)
    rw [e1, e2]
    exact hox4
  · have hyes : has D (kl s) = true ∧ D.atKey (kl s) (.lit (.int .u32 0)) = .lit (.int .u32 p) := by
      have := hrel s
      rw [hlk] at this
      exact this
    have ht : textS st s = (st, p) := by unfold textS; rw [hlk]
    rw [ht]
    obtain ⟨hy1, hy2⟩ := hyes
    clear ht hlk hrel hB
    go_enter Try.func81, Try.ntmps81
    go_wp2_with (at_lookup; refine wpList_lookup_own_ok_int _ rfl _ _ 66 rfl 9 44 .u32 law_s Try.underlying66 Try.underlying44 (zero_u32 _) mb st.n.length D rfl hmap _ _ rfl hkey ?_; intro cc hat hwc; rw [hy1]; rw [hy2] at hat; simp only [DataW.lit.injEq, Lit.int.injEq, true_and] at hat; subst hat)
    go_ret
    have hpb := wf_u32 hwc
    exact ⟨rfl, by show p < 4294967296; omega, S, HW.out, Near.refl _ _, fun i hi => .inl hi⟩
end Go.Proofs.Ytnkpaockginooaa
namespace Go.Proofs.Ytnkpaockginooaa
set_option linter.unusedVariables false
set_option linter.unusedSimpArgs false
open Go.RowKit Go.Sort Go.Maps Go.WideShapes Go.ChangeShapes

/-- The writer, its bytes in a block at bb or behind, all else of it below. -/
def WStB (w : World) (S : Nat → Prop) (g mb : Nat) (st : WS) (bb : Nat) : Prop := ∃ vb vx D,
  Blk w g 70 #[vb, vx, .map (some mb)] ∧ w.ownsRow bb 5 1 vb st.b.length (st.b.flatMap encB) ∧ OwnS w S 5 1 vx st.x.length (st.x.flatMap encB) ∧
  w.ownsMap Try.prog 9 (plainElem Try.prog 44) mb st.n.length D ∧ MapRel D st.n ∧ S g ∧ S mb ∧ (∀ i, S i → i < bb) ∧ bb ≤ w.heap.size
theorem WStB.kept {w w' : World} {S : Nat → Prop} {g mb bb : Nat} {st : WS} (h : WStB w S g mb st bb) (hb : Below w.heap.size w w') : WStB w' S g mb st bb := by
  obtain ⟨vb, vx, D, h1, h2, h3, h5, h6, h7, h8, h9, h10⟩ := h
  exact ⟨vb, vx, D, h1.kept hb, own_kept h2 hb, h3.kept hb, map_kept h5 hb, h6, h7, h8, h9, Nat.le_trans h10 hb.size⟩
theorem WStB.st {w : World} {S : Nat → Prop} {g mb bb : Nat} {st : WS} (h : WStB w S g mb st bb) : WSt w (fun i => (S i ∨ bb ≤ i) ∧ i < w.heap.size) g mb st := by
  obtain ⟨vb, vx, D, h1, h2, h3, h5, h6, h7, h8, h9, h10⟩ := h
  refine ⟨vb, vx, D, h1, ⟨(OwnS.of (S := fun _ => True) h2 (fun _ _ => trivial)).1, fun k hk => ⟨.inr (own_lt h2 hk).1, (own_lt h2 hk).2⟩⟩, ⟨h3.1, fun k hk => ⟨.inl (h3.2 k hk), (own_lt h3.1 hk).2⟩⟩, fun i hi e => ?_, h5, h6, ⟨.inl h7, h1.lt⟩, ⟨.inl h8, h5.lt⟩, fun i hi => hi.2⟩
  have a := (own_lt h2 hi).1
  have b := h9 i (h3.2 i e)
  omega
theorem wfour_any (g mb : Nat) (st : WS) (S : Nat → Prop) (A2 : Option Addr) (n2 c2 : Nat) (l : List Int) (w : World) (hw : WSt w S g mb st) (hl2 : l.length = n2) (hm : st.b.length ≤ 100000000) (hm2 : n2 ≤ 100000000) (hx : ∀ x ∈ l, 0 ≤ x ∧ x < 4294967296) (hr2 : Rd w w.heap.size 1 A2 n2 (l.flatMap encU32)) :
    Calls Try.prog 36 #[.pointer (some ⟨g, 0, none⟩), .slice A2 n2 c2] w fun e w' => e = .returned (.tuple #[]) ∧ WStB w' S g mb ⟨st.b ++ be4 l, st.x, st.n⟩ w.heap.size ∧ Near S w w' := by
  obtain ⟨vb, vx, D, hB, hob, hox, hsep, hmap, hrel, hSg, hSm, hSb⟩ := hw
  obtain ⟨A, c, rfl, _, hrd⟩ := own_slice hob.1
  refine (four_any g 0 70 _ A A2 st.b.length c n2 c2 st.b l w hB rfl rfl hl2 hm hm2 hx hrd hr2).mono ?_
  rintro e w1 ⟨rfl, A1, c1, hB1, hown1, hn1⟩
  refine ⟨rfl, ⟨_, vx, D, hB1, ?_, hox.keptBut ⟨hn1.os, hn1.tape, hn1.output, hn1.size, fun k hk hne => hn1.block k hk (fun e => hne (by rw [e]))⟩ (row := some g) (fun i hi e => ?_), map_near hmap hn1 (fun e => ?_), hrel, hSg, hSm, hSb, hn1.size⟩, hn1.mono (fun i hi => by rw [hi]; exact hSg)⟩
  · have e1 : (st.b ++ be4 l).length = st.b.length + 4 * n2 := by rw [List.length_append, be4_len, hl2]
    show w1.ownsRow _ _ 1 _ (st.b ++ be4 l).length ((st.b ++ be4 l).flatMap encB)
    rw [e1]
    exact hown1
  · have := own_blk_ne hox.1 hB (by decide)
    exact this (by rw [hi, e])
  · exact blk_map_ne hB hmap e.symm
theorem wfill_any (g mb bb : Nat) (st : WS) (S : Nat → Prop) (A2 : Option Addr) (m c2 : Nat) (l : List Int) (w : World) (hw : WStB w S g mb st bb) (hl2 : l.length = m) (hm : st.b.length + m ≤ 90000000) (hr2 : Rd w w.heap.size 1 A2 m (l.flatMap encB)) :
    Calls Try.prog 80 #[.pointer (some ⟨g, 0, none⟩), .slice A2 m c2] w fun e w' => e = .returned (.tuple #[]) ∧ WStB w' S g mb ⟨fillN (st.b ++ l), st.x, st.n⟩ bb ∧ Near (fun i => i = g ∨ bb ≤ i) w w' := by
  obtain ⟨vb, vx, D, hB, hob, hox, hmap, hrel, hSg, hSm, hSb, hbb⟩ := hw
  refine (fill_any g 0 70 _ vb bb st.b.length A2 m c2 st.b l w hB rfl (by decide) rfl hl2 hm hbb hob hr2).mono ?_
  rintro e w1 ⟨rfl, v1, hB1, hown1, hn1⟩
  refine ⟨rfl, ⟨v1, vx, D, hB1, hown1, ?_, map_near hmap hn1 (fun e => ?_), hrel, hSg, hSm, hSb, Nat.le_trans hbb hn1.size⟩, hn1⟩
  · refine ⟨own_same hox.1 fun k hk => hn1.block k (own_lt hox.1 hk).2 fun e => ?_, hox.2⟩
    rcases e with e | e
    · exact own_blk_ne hox.1 hB (by decide) (by rw [hk, e])
    · have := hSb k (hox.2 k hk)
      omega
  · rcases e with e | e
    · exact blk_map_ne hB hmap e.symm
    · have := hSb mb hSm
      omega
theorem fillN_le (l : List Int) : (fillN l).length ≤ l.length + 3 := by rw [fillN_len]; omega
theorem textS_b (st : WS) (s : ByteArray) : (textS st s).1.b = st.b := by
  unfold textS
  split <;> rfl
theorem textS_bd (st : WS) (s : ByteArray) : (textS st s).1.x.length ≤ st.x.length + s.size + 1 ∧ (textS st s).1.n.length ≤ st.n.length + 1 := by
  unfold textS
  split
  · exact ⟨by simp; omega, by simp⟩
  · exact ⟨by simp [strB_len]; omega, by simp⟩
theorem nameB_len {s m : ByteArray} (h : nameB s m = true) : s.size ≤ 31 := by
  unfold nameB at h
  simp only [Bool.and_eq_true, decide_eq_true_eq] at h
  omega
theorem prOk_bd {q : Pr} (h : prOk q = true) : q.1.size ≤ 31 ∧ q.2.length ≤ 4096 := by
  unfold prOk at h
  simp only [Bool.and_eq_true, decide_eq_true_eq] at h
  exact ⟨nameB_len h.1, h.2⟩
def headS (nm : ByteArray) (st : WS) : WS := ⟨fillN ((st.b ++ be4 [1]) ++ (strB nm ++ [0])), st.x, st.n⟩
theorem nmOk_len {f : Nat} {nm : ByteArray} (h : nmOk f nm = true) : nm.size ≤ 31 := by
  unfold nmOk at h
  split at h
  · simp only [decide_eq_true_eq] at h
    omega
  · exact nameB_len h
/-- The bounds a little closer: room for the end of each node that stands open. -/
def BdO (st : WS) (n p : Int) (o : Nat) : Prop := (st.b.length : Int) + 4 * o ≤ 60 * n + 4200 * p ∧ (st.x.length : Int) ≤ 40 * p ∧ (st.n.length : Int) ≤ p
theorem nodeS_succ (f : Nat) (t : Tr) (st : WS) : nodeS (f + 1) t st = ⟨(t.ks.foldl (fun s k => nodeS f k s) (t.ps.foldl propS (headS t.nm st))).b ++ be4 [2], (t.ks.foldl (fun s k => nodeS f k s) (t.ps.foldl propS (headS t.nm st))).x, (t.ks.foldl (fun s k => nodeS f k s) (t.ps.foldl propS (headS t.nm st))).n⟩ := rfl
theorem propS_bdo {st : WS} {n p : Int} {o : Nat} {q : Pr} (h : BdO st n p o) (hq : prOk q = true) : BdO (propS st q) n (p + 1) o := by
  have z := prOk_bd hq
  obtain ⟨h1, h2, h3⟩ := h
  have a := textS_bd st q.1
  have b := fillN_le ((st.b ++ be4 [3, (q.2.length : Int), ((textS st q.1).2 : Int)]) ++ q.2)
  have c := be4_len [3, (q.2.length : Int), ((textS st q.1).2 : Int)]
  simp only [List.length_append, c, List.length_cons, List.length_nil] at b
  refine ⟨?_, ?_, ?_⟩
  · show ((fillN ((st.b ++ be4 [3, (q.2.length : Int), ((textS st q.1).2 : Int)]) ++ q.2)).length : Int) + 4 * o ≤ _
    omega
  · show ((textS st q.1).1.x.length : Int) ≤ _
    omega
  · show ((textS st q.1).1.n.length : Int) ≤ _
    omega
theorem propsS_bdo {o : Nat} : ∀ (l : List Pr) {st : WS} {n p : Int}, BdO st n p o → (∀ q ∈ l, prOk q = true) → BdO (l.foldl propS st) n (p + l.length) o
  | [], _, _, _, h, _ => by simpa using h
  | q :: l, st, n, p, h, hq => by
    have := propsS_bdo l (propS_bdo h (hq q (List.mem_cons_self ..))) (fun q hq' => hq q (List.mem_cons_of_mem _ hq'))
    simp only [List.foldl_cons, List.length_cons]
    rw [show p + ((l.length + 1 : Nat) : Int) = p + 1 + l.length by omega]
    exact this
theorem headS_bdo {st : WS} {n p : Int} {o : Nat} {nm : ByteArray} (h : BdO st n p o) (hn : nm.size ≤ 31) : BdO (headS nm st) (n + 1) p (o + 1) := by
  obtain ⟨h1, h2, h3⟩ := h
  have b := fillN_le ((st.b ++ be4 [1]) ++ (strB nm ++ [0]))
  simp only [List.length_append, be4_len, List.length_cons, List.length_nil, strB_len] at b
  have c : ((headS nm st).b.length : Int) ≤ st.b.length + 4 + 32 + 3 := by
    show ((fillN ((st.b ++ be4 [1]) ++ (strB nm ++ [0]))).length : Int) ≤ _
    omega
  exact ⟨by omega, h2, h3⟩
theorem kidsS_bdo {f o : Nat} (ih : ∀ t c c' st, mayF f t c = some c' → BdO st c.1 c.2 o → BdO (nodeS f t st) c'.1 c'.2 o) : ∀ (l : List Tr) (c c' : Int × Int) (st : WS), kidsF (mayF f) l c = some c' → BdO st c.1 c.2 o → BdO (l.foldl (fun s k => nodeS f k s) st) c'.1 c'.2 o
  | [], c, c', st, h, hb => by
    simp only [kidsF, Option.some.injEq] at h
    subst h
    exact hb
  | k :: l, c, c', st, h, hb => by
    simp only [kidsF, Option.bind_eq_some_iff] at h
    obtain ⟨d, hd, hl⟩ := h
    exact kidsS_bdo ih l d c' _ hl (ih k c d st hd hb)
theorem mayF_inv {f : Nat} {t : Tr} {c c' : Int × Int} (h : mayF (f + 1) t c = some c') : headOk f t c.1 c.2 ∧ kidsF (mayF f) t.ks (c.1 + 1, c.2 + t.ps.length) = some c' ∧ (t.ks.map Tr.nm).Nodup := by
  unfold mayF at h
  split at h
  · rename_i hh
    rw [Option.bind_eq_some_iff] at h
    obtain ⟨d, hd, h⟩ := h
    split at h
    · rename_i hn
      simp only [Option.some.injEq] at h
      subst h
      exact ⟨hh, hd, hn⟩
    · cases h
  · cases h
theorem nodeS_bdo : ∀ (f o : Nat) (t : Tr) (c c' : Int × Int) (st : WS), mayF f t c = some c' → BdO st c.1 c.2 o → BdO (nodeS f t st) c'.1 c'.2 o
  | 0, _, _, _, _, _, h, _ => by simp [mayF] at h
  | f + 1, o, t, c, c', st, h, hb => by
    obtain ⟨hh, hk, _⟩ := mayF_inv h
    have h1 := headS_bdo hb (nmOk_len hh.2.2.1)
    have h2 := propsS_bdo t.ps h1 (fun q hq => List.all_eq_true.1 hh.2.2.2.1 q hq)
    have h3 := kidsS_bdo (o := o + 1) (fun t c c' st => nodeS_bdo f (o + 1) t c c' st) t.ks _ c' _ hk h2
    rw [nodeS_succ]
    obtain ⟨a, b, d⟩ := h3
    refine ⟨?_, b, d⟩
    show (((t.ks.foldl (fun s k => nodeS f k s) (t.ps.foldl propS (headS t.nm st))).b ++ be4 [2]).length : Int) + 4 * o ≤ _
    rw [List.length_append, be4_len]
    simp only [List.length_cons, List.length_nil]
    omega
end Go.Proofs.Ytnkpaockginooaa
