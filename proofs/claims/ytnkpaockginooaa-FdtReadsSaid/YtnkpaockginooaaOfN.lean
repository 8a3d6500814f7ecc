/- The document's cursor: a node, its plain law and what it answers. -/
import Derived.Test.YtnkpaockginooaaOfM
import Derived.Test.YtnkpaockginooaaPutF
namespace Go.Proofs.Ytnkpaockginooaa
set_option linter.unusedVariables false
set_option linter.unusedSimpArgs false
open Go.RowKit Go.Sort
theorem up4_al {n : Nat} : up4 n % 4 = 0 := by unfold up4; omega
theorem itemsP_al {g : Nat → Nat → Option (Tr × Nat × Nat)} {b x : List Int} (hg : ∀ a l t a' l', a % 4 = 0 → g a l = some (t, a', l') → a' % 4 = 0) : ∀ (f : Nat) (ps : List Pr) (ks : List Tr) (a l : Nat) (ps' : List Pr) (ks' : List Tr) (a' l' : Nat), a % 4 = 0 → itemsP g b x f ps ks a l = some (ps', ks', a', l') → a' % 4 = 0
  | 0, _, _, _, _, _, _, _, _, _, h => by simp [itemsP] at h
  | f + 1, ps, ks, a, l, ps', ks', a', l', ha, h => by
    simp only [itemsP, Option.bind_eq_some_iff] at h
    obtain ⟨y, hy, h⟩ := h
    split at h
    · simp only [Option.bind_eq_some_iff] at h
      obtain ⟨n, hn, p, hp, nm, hnm, h⟩ := h
      split at h
      · have := up4_al (n := n.toNat)
        exact itemsP_al hg f _ _ _ _ _ _ _ _ (by omega) h
      · cases h
    · split at h
      · simp only [Option.bind_eq_some_iff] at h
        obtain ⟨⟨t, a2, l2⟩, hr, h⟩ := h
        dsimp only at h
        exact itemsP_al hg f _ _ _ _ _ _ _ _ (hg _ _ _ _ _ (by omega) hr) h
      · split at h
        · simp only [Option.some.injEq, Prod.mk.injEq] at h
          omega
        · cases h
theorem nodeP_al {b x : List Int} : ∀ (d a l : Nat) (t : Tr) (a' l' : Nat), a % 4 = 0 → nodeP b x d a l = some (t, a', l') → a' % 4 = 0
  | 0, _, _, _, _, _, _, h => by simp [nodeP] at h
  | d + 1, a, l, t, a', l', ha, h => by
    unfold nodeP at h
    split at h
    · cases h
    · simp only [Option.bind_eq_some_iff] at h
      obtain ⟨nm, hnm, ⟨ps, ks, a2, l2⟩, hr, h⟩ := h
      simp only [Option.some.injEq, Prod.mk.injEq] at h
      have := up4_al (n := nm.length + 1)
      have := itemsP_al (fun a l t a' l' => nodeP_al d a l t a' l') _ _ _ _ _ _ _ _ _ (by omega) hr
      omega
/-- What the cursor's node answers: a tree at any rate, and whether it was wrong. -/
def CurS (b x : List Int) (d a l : Nat) (t : Tr) (a' : Int) (bad : Bool) (l' : Int) : Prop := match nodeP b x d a l with
  | none => bad = true
  | some (t0, a0, l0) => bad = false ∧ t = t0 ∧ a' = (a0 : Int) ∧ l' = (l0 : Int)
theorem CurS.no {b x : List Int} {d a l : Nat} {t : Tr} {a' l' : Int} (h : nodeP b x d a l = none) : CurS b x d a l t a' true l' := by
  unfold CurS
  rw [h]
theorem CurS.yes {b x : List Int} {d a l a0 l0 : Nat} {t : Tr} (h : nodeP b x d a l = some (t, a0, l0)) : CurS b x d a l t a0 false l0 := by
  unfold CurS
  rw [h]
  exact ⟨rfl, rfl, rfl, rfl⟩
def RCur (Q : QP) (r : Rdr) (b x : List Int) (d a l : Nat) (w : World) (e : Ending) (w' : World) : Prop :=
  ∃ (t : Tr) (sn : ByteArray) (A1 : Option Addr) (n1 c1 : Nat) (A2 : Option Addr) (n2 c2 k : Nat) (a' : Int) (bad : Bool) (l' : Int), e = .returned (.agg #[.string sn, .slice A1 n1 c1, .slice A2 n2 c2]) ∧ TrY Q w' (fun i => i < w.heap.size) k t [.string sn, .slice A1 n1 c1, .slice A2 n2 c2] ∧ Blk w' r.g 142 (r.cc a' bad l') ∧ Near (fun i => i = r.g) w w' ∧ CurS b x d a l t a' bad l'
theorem cur_fin {Q : QP} {r : Rdr} {b x : List Int} {d a l : Nat} {w w5 : World} {t : Tr} {s0 s : ByteArray} {A0 A1 A A' : Option Addr} {n0 c0 n1 c1 n c n' c' : Nat} {a5 l5 : Int} {bad : Bool} {k : Nat}
    (hR : Blk w5 w.heap.size 25 #[.string s0, .slice A0 n0 c0, .slice A1 n1 c1]) (hX : TrY Q w5 (fun i => i < w.heap.size + 1) k t [.string s, .slice A n c, .slice A' n' c']) (hB5 : Blk w5 r.g 142 (r.cc a5 bad l5)) (hN5 : Near (fun i => i = r.g) w w5) (hg : r.g < w.heap.size) (hm : CurS b x d a l t a5 bad l5) :
    Blk (((w5.setCell ⟨w.heap.size, 0, none⟩ (.string s)).setCell ⟨w.heap.size, 1, none⟩ (.slice A n c)).setCell ⟨w.heap.size, 2, none⟩ (.slice A' n' c')) w.heap.size 25 #[.string s, .slice A n c, .slice A' n' c'] ∧
      RCur Q r b x d a l w (.returned (.agg #[.string s, .slice A n c, .slice A' n' c'])) (((w5.setCell ⟨w.heap.size, 0, none⟩ (.string s)).setCell ⟨w.heap.size, 1, none⟩ (.slice A n c)).setCell ⟨w.heap.size, 2, none⟩ (.slice A' n' c')) := by
  obtain ⟨hRf, hXf, _⟩ := named_treeY (B := w.heap.size) (w := w5) (Nat.le_refl _) hR (by show w.heap.size < w.heap.size + 1; omega) hX (Below.refl _ _)
  have hBf := ((hB5.far (p := ⟨w.heap.size, 0, none⟩) (by show r.g ≠ w.heap.size; omega) (.string s)).far (p := ⟨w.heap.size, 1, none⟩) (by show r.g ≠ w.heap.size; omega) (.slice A n c)).far (p := ⟨w.heap.size, 2, none⟩) (by show r.g ≠ w.heap.size; omega) (.slice A' n' c')
  refine ⟨hRf, t, s, A, n, c, A', n', c', k, a5, bad, l5, rfl, hXf.less fun i hi => by omega, hBf, ?_, hm⟩
  exact hN5.step ((((Near.refl (fun i => i = w.heap.size) w5).setCell (p := ⟨w.heap.size, 0, none⟩) rfl _).setCell (p := ⟨w.heap.size, 1, none⟩) rfl _).setCell (p := ⟨w.heap.size, 2, none⟩) rfl _) (fun i hi => .inr (by omega))
/-- Where a node is read: what holds at each turn. -/
structure MidC (Q : QP) (r : Rdr) (b x nm : List Int) (d B base bt br : Nat) (F0 : Option (List Pr × List Tr × Nat × Nat)) (ps : List Pr) (ks : List Tr) (vps vks : Value) (w0 wr : World) : Prop where
  box : Blk wr bt 25 #[.string (strOfNums nm), vps, vks]
  res : Blk wr br 25 #[.string ⟨#[]⟩, .slice none 0 0, .slice none 0 0]
  ps : OwnPsY Q wr base ps vps
  ks : OwnTsY Q wr (fun i => i < base ∨ vps.ownBlock = some i) base ks vks
  near : Near (fun i => i = r.g) w0 wr
  size : base ≤ wr.heap.size
structure MidG (b x nm : List Int) (d : Nat) (F0 : Option (List Pr × List Tr × Nat × Nat)) (f : Nat) (ps : List Pr) (ks : List Tr) (a l : Nat) : Prop where
  spec : itemsP (nodeP b x d) b x f ps ks a l = F0
  fuel : b.length + 1 ≤ f + a
  few : ps.length + ks.length + f ≤ b.length + 1
  apos : a ≤ b.length + 3
  lfew : l ≤ 1000
  al : a % 4 = 0
theorem mid_tree {Q : QP} {r : Rdr} {b x nm : List Int} {d B base bt br : Nat} {F0 : Option (List Pr × List Tr × Nat × Nat)} {ps : List Pr} {ks : List Tr} {vps vks : Value} {w0 wr : World} (h : MidC Q r b x nm d B base bt br F0 ps ks vps vks w0 wr) (hb : w0.heap.size < base) (hn : nm.length ≤ 20000) :
    ∃ Ap cp Ak ck k, vps = .slice Ap ps.length cp ∧ vks = .slice Ak ks.length ck ∧ TrY Q wr (fun i => i < w0.heap.size + 1) k (.mk (strOfNums nm) ps ks) [.string (strOfNums nm), .slice Ap ps.length cp, .slice Ak ks.length ck] := by
  obtain ⟨Ak, ck, hvk⟩ : ∃ A c, vks = .slice A ks.length c := by
    obtain ⟨xs, h1, _⟩ := h.ks
    obtain ⟨A, c, e, _⟩ := own_slice h1
    exact ⟨A, c, e⟩
  obtain ⟨Ap, cp, hvp⟩ : ∃ A c, vps = .slice A ps.length c := by
    obtain ⟨css, h1, _⟩ := h.ps
    obtain ⟨A, c, e, _⟩ := own_slice h1
    exact ⟨A, c, e⟩
  have hn2 : (strOfNums nm).size ≤ maxLen := by rw [strOfNums_size]; unfold maxLen; omega
  obtain ⟨cs, kt, hcs, hXt⟩ := TrPY.mk (X := fun i => i < w0.heap.size + 1) hn2 (h.ps.ps (fun i hi => by omega)) ((h.ks.less (Y := fun i => i < w0.heap.size + 1) (fun i hi => .inl (by omega))).ts (fun i hi => by omega))
  have hcs : cs = [.string (strOfNums nm), vps, vks] := by
    have := congrArg (fun v => match v with | Value.agg a => a.toList | _ => []) hcs
    simpa using this.symm
  subst hcs
  rw [hvp, hvk] at hXt
  exact ⟨Ap, cp, Ak, ck, kt, hvp, hvk, hXt⟩
/-- Where the cursor alone turns. -/
theorem same_cur {w w' : World} {X : Nat → Prop} {g : Nat} {cs : Array Value} (hn : Near (fun i => i = g) w w') (hg : Blk w g 142 cs) (hX : X g) : Same X w w' := ⟨hn.size, fun b cs' T fz hb hx => by
  by_cases e : b = g
  · subst e
    unfold Blk at hg
    rw [hg] at hb
    simp only [Option.some.injEq, Obj.cells.injEq] at hb
    rcases hx with h | h
    · exact absurd hX h
    · exact absurd (hb.2.1.trans h) (by decide)
  · exact ⟨fz, (hn.block b (heap_lt hb) e).trans hb⟩⟩
/-- .. and all stays, where the cursor alone turns. -/
theorem MidC.near_ {Q : QP} {r : Rdr} {b x nm : List Int} {d B base bt br : Nat} {F0 : Option (List Pr × List Tr × Nat × Nat)} {ps : List Pr} {ks : List Tr} {vps vks : Value} {w0 wr w5 : World} {cs : Array Value} (h : MidC Q r b x nm d B base bt br F0 ps ks vps vks w0 wr) (hn : Near (fun i => i = r.g) wr w5) (hB : Blk wr r.g 142 cs) (hg : r.g < bt) (hr : r.g ≠ br) (hbt : bt < base) :
    MidC Q r b x nm d B base bt br F0 ps ks vps vks w0 w5 := by
  have hsm := same_cur (X := fun i => i < base ∨ vps.ownBlock = some i) hn hB (.inl (by omega))
  have hz := hn.size
  exact ⟨h.box.same (hn.block bt h.box.lt (by omega)), h.res.same (hn.block br h.res.lt (fun e => hr e.symm)), h.ps.turn hsm (fun i hi => hn.block i (h.ps.lt hi).2 (by have := (h.ps.lt hi).1; omega)),
    h.ks.turn hsm (fun i hi => hn.block i (h.ks.lt hi).2 (by have := (h.ks.lt hi).1; omega)), h.near.trans hn, by have := h.size; omega⟩
section
variable {Q : QP} {r : Rdr} {b x nm : List Int} {d B base bt br : Nat} {F0 : Option (List Pr × List Tr × Nat × Nat)} {ps : List Pr} {ks : List Tr} {vps vks : Value} {w0 wr w9 : World}
theorem MidC.kept (h : MidC Q r b x nm d B base bt br F0 ps ks vps vks w0 wr) (hb : Below wr.heap.size wr w9) : MidC Q r b x nm d B base bt br F0 ps ks vps vks w0 w9 :=
  ⟨h.box.kept hb, h.res.kept hb, h.ps.turn (X := fun _ => False) (Same.of_below hb) (fun i hi => hb.block i (h.ps.lt hi).2), h.ks.turn (Same.of_below hb) (fun i hi => hb.block i (h.ks.lt hi).2), h.near.trans (Near.of_below _ hb), by have := h.size; have := hb.size; omega⟩
theorem MidC.addkid {t : Tr} {y : Value} (h : MidC Q r b x nm d B base bt br F0 ps ks vps vks w0 w9) (hx : TsPY Q (fun i => (i < base ∨ vps.ownBlock = some i) ∨ vks.ownBlock = some i) [t] w9 y) (hg : r.g < bt) (hbt : bt < base) (hbr : br < bt) (hw : w0.heap.size ≤ bt) (hn : ks.length ≤ 1000000) :
    ∃ w' A c, (Builtin.append_ #[23, 23] 23 #[vks, y]).run Try.prog w9 = .ok (.slice A (ks.length + 1) c) w' ∧ Blk w' bt 25 #[.string (strOfNums nm), vps, vks] ∧
      MidC Q r b x nm d B base bt br F0 ps (ks ++ [t]) vps (.slice A (ks.length + 1) c) w0 (w'.setCell ⟨bt, 2, none⟩ (.slice A (ks.length + 1) c)) ∧ ∀ T cs, Blk w9 r.g T cs → Blk (w'.setCell ⟨bt, 2, none⟩ (.slice A (ks.length + 1) c)) r.g T cs := by
  have hz := h.size
  obtain ⟨v', w', A, c, hr, hK, hb, hg', hv⟩ := h.ks.app2 23 hz hx hn
  rw [List.length_append] at hv
  simp only [List.length_cons, List.length_nil, Nat.zero_add] at hv
  subst hv
  have hT := h.box.same (hb.block bt hbt)
  have hR := h.res.same (hb.block br (by omega))
  have hP := h.ps.turn (Same.grown (X := fun i => vks.ownBlock = some i) h.ks.choose_spec.1 (by decide) (fun i hi => hi) hg') (fun i hi => hg'.block i (h.ps.lt hi).2 (fun e => by
    obtain ⟨css, ho, _⟩ := h.ps
    exact own_own_ne h.ks.choose_spec.1 ho (by decide) i e.symm hi))
  have hzb := hb.size
  refine ⟨w', A, c, hr, hT, ⟨hT.set_ 2 _, hR.far (p := ⟨bt, 2, none⟩) (by show br ≠ bt; omega) _, ?_, ?_, ?_, by simp; omega⟩, fun T cs hB => (hB.same (hb.block r.g (by omega))).far (p := ⟨bt, 2, none⟩) (by show r.g ≠ bt; omega) _⟩
  · exact hP.turn (Same.set_in (X := fun i => i = bt) hT (by decide) rfl 2 _) (fun i hi => Below.heap_setCell _ _ _ _ (by have := (hP.lt hi).1; show i ≠ bt; omega))
  · exact hK.turn (Same.set_in (X := fun i => i < base ∨ vps.ownBlock = some i) hT (by decide) (.inl hbt) 2 _) (fun i hi => Below.heap_setCell _ _ _ _ (by have := (hK.lt hi).1; show i ≠ bt; omega))
  · exact (h.near.step (S2 := fun i => base ≤ i) ⟨hb.os, hb.tape, hb.output, hb.size, fun i hi hn => hb.block i (by omega)⟩ (fun i hi => .inr (by omega))).step ((Near.refl (fun i => i = bt) _).setCell (p := ⟨bt, 2, none⟩) rfl _) (fun i hi => .inr (by omega))
theorem MidC.addprop {p : Pr} {y : Value} (h : MidC Q r b x nm d B base bt br F0 ps ks vps vks w0 w9) (hx : PsPY Q (fun i => vps.ownBlock = some i) [p] w9 y) (hg : r.g < bt) (hbt : bt < base) (hbr : br < bt) (hw : w0.heap.size ≤ bt) (hn : ps.length ≤ 1000000) :
    ∃ w' A c, (Builtin.append_ #[22, 22] 22 #[vps, y]).run Try.prog w9 = .ok (.slice A (ps.length + 1) c) w' ∧ Blk w' bt 25 #[.string (strOfNums nm), vps, vks] ∧
      MidC Q r b x nm d B base bt br F0 (ps ++ [p]) ks (.slice A (ps.length + 1) c) vks w0 (w'.setCell ⟨bt, 1, none⟩ (.slice A (ps.length + 1) c)) ∧ (∀ T cs, Blk w9 r.g T cs → Blk w' r.g T cs) ∧ ∀ T cs, Blk w9 r.g T cs → Blk (w'.setCell ⟨bt, 1, none⟩ (.slice A (ps.length + 1) c)) r.g T cs := by
  have hz := h.size
  obtain ⟨v', w', A, c, hr, hP, hb, hg', hv, hl⟩ := h.ps.app 22 hz hx hn
  rw [List.length_append] at hv
  simp only [List.length_cons, List.length_nil, Nat.zero_add] at hv
  subst hv
  have hT := h.box.same (hb.block bt hbt)
  have hR := h.res.same (hb.block br (by omega))
  have hK := h.ks.beside (X' := fun i => i < base ∨ (Value.slice A (ps.length + 1) c).ownBlock = some i) (Same.grown (X := fun i => i < base ∨ vps.ownBlock = some i) h.ps.choose_spec.1 (by decide) (fun i hi => .inr hi) hg') (fun i hi => hg'.block i (h.ks.lt hi).2 (fun e => by
    obtain ⟨xs, ho, _⟩ := h.ks
    exact own_own_ne h.ps.choose_spec.1 ho (by decide) i e.symm hi)) (fun i hi => by
    rcases hi with h' | h'
    · exact .inl (.inl h')
    · rcases hl with e | e
      · exact .inl (.inr (e ▸ h'))
      · rw [e] at h'
        simp only [Option.some.injEq] at h'
        exact .inr (by omega))
  have hzb := hb.size
  refine ⟨w', A, c, hr, hT, ⟨hT.set_ 1 _, hR.far (p := ⟨bt, 1, none⟩) (by show br ≠ bt; omega) _, ?_, ?_, ?_, by simp; omega⟩, fun T cs hB => hB.same (hb.block r.g (by omega)), fun T cs hB => (hB.same (hb.block r.g (by omega))).far (p := ⟨bt, 1, none⟩) (by show r.g ≠ bt; omega) _⟩
  · exact hP.turn (Same.set_in (X := fun i => i = bt) hT (by decide) rfl 1 _) (fun i hi => Below.heap_setCell _ _ _ _ (by have := (hP.lt hi).1; show i ≠ bt; omega))
  · exact hK.turn (Same.set_in (X := fun i => i < base ∨ (Value.slice A (ps.length + 1) c).ownBlock = some i) hT (by decide) (.inl hbt) 1 _) (fun i hi => Below.heap_setCell _ _ _ _ (by have := (hK.lt hi).1; show i ≠ bt; omega))
  · exact (h.near.step (S2 := fun i => base ≤ i) ⟨hb.os, hb.tape, hb.output, hb.size, fun i hi hn => hb.block i (by omega)⟩ (fun i hi => .inr (by omega))).step ((Near.refl (fun i => i = bt) _).setCell (p := ⟨bt, 1, none⟩) rfl _) (fun i hi => .inr (by omega))
end
end Go.Proofs.Ytnkpaockginooaa
