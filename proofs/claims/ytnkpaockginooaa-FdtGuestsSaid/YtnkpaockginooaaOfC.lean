/- The reader's node: the plain law of its parts; properties of the call's own. -/
import Derived.Test.YtnkpaockginooaaOfA
namespace Go.Proofs.Ytnkpaockginooaa
set_option linter.unusedVariables false
set_option linter.unusedSimpArgs false
open Go.RowKit Go.Sort

theorem four4_some {b : List Int} {a : Nat} {y : Int} (h : four4 b a = some y) : a + 4 ≤ b.length ∧ y = numB ((b.drop a).take 4) := by
  unfold four4 at h
  split at h
  · simp only [Option.some.injEq] at h
    exact ⟨by assumption, h.symm⟩
  · cases h
theorem itemsP_at {g : Nat → Nat → Option (Tr × Nat × Nat)} {b x : List Int} (hg : ∀ a l t a' l', g a l = some (t, a', l') → a + 4 ≤ a' ∧ a' ≤ b.length) : ∀ (f : Nat) (ps : List Pr) (ks : List Tr) (a l : Nat) (ps' : List Pr) (ks' : List Tr) (a' l' : Nat), itemsP g b x f ps ks a l = some (ps', ks', a', l') → a + 4 ≤ a' ∧ a' ≤ b.length
  | 0, _, _, _, _, _, _, _, _, h => by simp [itemsP] at h
  | f + 1, ps, ks, a, l, ps', ks', a', l', h => by
    simp only [itemsP, Option.bind_eq_some_iff] at h
    obtain ⟨y, hy, h⟩ := h
    have h4 := (four4_some hy).1
    split at h
    · simp only [Option.bind_eq_some_iff] at h
      obtain ⟨n, hn, p, hp, nm, hnm, h⟩ := h
      split at h
      · have := itemsP_at hg f _ _ _ _ _ _ _ _ h
        omega
      · cases h
    · split at h
      · simp only [Option.bind_eq_some_iff] at h
        obtain ⟨⟨t, a2, l2⟩, hr, h⟩ := h
        dsimp only at h
        have h1 := hg _ _ _ _ _ hr
        have := itemsP_at hg f _ _ _ _ _ _ _ _ h
        omega
      · split at h
        · simp only [Option.some.injEq, Prod.mk.injEq] at h
          omega
        · cases h
theorem nodeP_at {b x : List Int} : ∀ (d a l : Nat) (t : Tr) (a' l' : Nat), nodeP b x d a l = some (t, a', l') → a + 4 ≤ a' ∧ a' ≤ b.length
  | 0, _, _, _, _, _, h => by simp [nodeP] at h
  | d + 1, a, l, t, a', l', h => by
    unfold nodeP at h
    split at h
    · cases h
    · simp only [Option.bind_eq_some_iff] at h
      obtain ⟨nm, hnm, ⟨ps, ks, a2, l2⟩, hr, h⟩ := h
      simp only [Option.some.injEq, Prod.mk.injEq] at h
      have := itemsP_at (fun a l t a' l' => nodeP_at d a l t a' l') _ _ _ _ _ _ _ _ _ hr
      omega
theorem itemsP_less {g : Nat → Nat → Option (Tr × Nat × Nat)} {b x : List Int} (hg : ∀ a l t a' l', g a l = some (t, a', l') → l' ≤ l) : ∀ (f : Nat) (ps : List Pr) (ks : List Tr) (a l : Nat) (ps' : List Pr) (ks' : List Tr) (a' l' : Nat), itemsP g b x f ps ks a l = some (ps', ks', a', l') → l' ≤ l
  | 0, _, _, _, _, _, _, _, _, h => by simp [itemsP] at h
  | f + 1, ps, ks, a, l, ps', ks', a', l', h => by
    simp only [itemsP, Option.bind_eq_some_iff] at h
    obtain ⟨y, hy, h⟩ := h
    split at h
    · simp only [Option.bind_eq_some_iff] at h
      obtain ⟨n, hn, p, hp, nm, hnm, h⟩ := h
      split at h
      · exact itemsP_less hg f _ _ _ _ _ _ _ _ h
      · cases h
    · split at h
      · simp only [Option.bind_eq_some_iff] at h
        obtain ⟨⟨t, a2, l2⟩, hr, h⟩ := h
        dsimp only at h
        have h1 := hg _ _ _ _ _ hr
        have := itemsP_less hg f _ _ _ _ _ _ _ _ h
        omega
      · split at h
        · simp only [Option.some.injEq, Prod.mk.injEq] at h
          omega
        · cases h
theorem nodeP_less {b x : List Int} : ∀ (d a l : Nat) (t : Tr) (a' l' : Nat), nodeP b x d a l = some (t, a', l') → l' ≤ l
  | 0, _, _, _, _, _, h => by simp [nodeP] at h
  | d + 1, a, l, t, a', l', h => by
    unfold nodeP at h
    split at h
    · cases h
    · simp only [Option.bind_eq_some_iff] at h
      obtain ⟨nm, hnm, ⟨ps, ks, a2, l2⟩, hr, h⟩ := h
      simp only [Option.some.injEq, Prod.mk.injEq] at h
      have := itemsP_less (fun a l t a' l' => nodeP_less d a l t a' l') _ _ _ _ _ _ _ _ _ hr
      omega
/-- What the reader's node answers. -/
def RNode (r : Rdr) (b x : List Int) (d a l : Nat) (w : World) (e : Ending) (w' : World) : Prop := match nodeP b x d a l with
  | none => e = thrown ∧ Near (fun i => i = r.g) w w'
  | some (t, a', l') => ∃ (sn : ByteArray) (A1 : Option Addr) (n1 c1 : Nat) (A2 : Option Addr) (n2 c2 k : Nat), e = .returned (.agg #[.string sn, .slice A1 n1 c1, .slice A2 n2 c2]) ∧ TrX w' (fun i => i < w.heap.size) k t [.string sn, .slice A1 n1 c1, .slice A2 n2 c2] ∧ Blk w' r.g 135 (r.cs a' l') ∧ Near (fun i => i = r.g) w w'
theorem RNode.no {r : Rdr} {b x : List Int} {d a l : Nat} {w w' : World} (h : nodeP b x d a l = none) (hn : Near (fun i => i = r.g) w w') : RNode r b x d a l w thrown w' := by
  unfold RNode
  rw [h]
  exact ⟨rfl, hn⟩
theorem nodeP_zero {b x : List Int} {d a : Nat} : nodeP b x d a 0 = none := by cases d <;> simp [nodeP]
theorem nodeP_txt {b x : List Int} {d a l : Nat} (h : txt b a = none) : nodeP b x (d + 1) a l = none := by
  unfold nodeP
  split
  · rfl
  · rw [h]; rfl
theorem nodeP_items {b x nm : List Int} {d a l : Nat} (hl : l ≠ 0) (h : txt b a = some nm) : nodeP b x (d + 1) a l = (itemsP (nodeP b x d) b x (b.length + 1) [] [] (a + up4 (nm.length + 1)) (l - 1)).bind fun r => some (.mk (strOfNums nm) r.1 r.2.1, r.2.2.1, r.2.2.2) := by
  rw [nodeP.eq_def]
  simp only [if_neg hl, h, Option.bind_some]
section
variable {g : Nat → Nat → Option (Tr × Nat × Nat)} {b x : List Int} {f : Nat} {ps : List Pr} {ks : List Tr} {a l : Nat}
theorem itemsP_no (h : four4 b a = none) : itemsP g b x f ps ks a l = none := by
  cases f with
  | zero => rfl
  | succ f => simp [itemsP, h]
theorem itemsP_else {y : Int} (h : four4 b a = some y) (h3 : y ≠ 3) (h1 : y ≠ 1) (h2 : y ≠ 2) : itemsP g b x f ps ks a l = none := by
  cases f with
  | zero => rfl
  | succ f => simp [itemsP, h, h3, h1, h2]
theorem itemsP_end (h : four4 b a = some 2) : itemsP g b x (f + 1) ps ks a l = some (ps, ks, a + 4, l) := by
  simp [itemsP, h]
theorem itemsP_kid (h : four4 b a = some 1) : itemsP g b x (f + 1) ps ks a l = (g (a + 4) l).bind fun r => itemsP g b x f ps (ks ++ [r.1]) r.2.1 r.2.2 := by
  simp [itemsP, h]
theorem itemsP_kid0 (h : four4 b a = some 1) (hk : g (a + 4) l = none) : itemsP g b x f ps ks a l = none := by
  cases f with
  | zero => rfl
  | succ f => rw [itemsP_kid h, hk]; rfl
theorem itemsP_n (h : four4 b a = some 3) (h8 : four4 b (a + 4) = none) : itemsP g b x f ps ks a l = none := by
  cases f with
  | zero => rfl
  | succ f => simp [itemsP, h, h8]
theorem itemsP_p {n : Int} (h : four4 b a = some 3) (h8 : four4 b (a + 4) = some n) (h12 : four4 b (a + 8) = none) : itemsP g b x f ps ks a l = none := by
  cases f with
  | zero => rfl
  | succ f => simp [itemsP, h, h8, h12]
theorem itemsP_t {n p : Int} (h : four4 b a = some 3) (h8 : four4 b (a + 4) = some n) (h12 : four4 b (a + 8) = some p) (ht : txt x p.toNat = none) : itemsP g b x f ps ks a l = none := by
  cases f with
  | zero => rfl
  | succ f => simp [itemsP, h, h8, h12, ht]
theorem itemsP_long {n p : Int} {nm : List Int} (h : four4 b a = some 3) (h8 : four4 b (a + 4) = some n) (h12 : four4 b (a + 8) = some p) (ht : txt x p.toNat = some nm) (hn : ¬ n.toNat ≤ b.length - (a + 12)) : itemsP g b x f ps ks a l = none := by
  cases f with
  | zero => rfl
  | succ f =>
    simp only [itemsP, h, h8, h12, ht, Option.bind_some, if_true]
    rw [if_neg hn]
theorem itemsP_prop {n p : Int} {nm : List Int} (h : four4 b a = some 3) (h8 : four4 b (a + 4) = some n) (h12 : four4 b (a + 8) = some p) (ht : txt x p.toNat = some nm) (hn : n.toNat ≤ b.length - (a + 12)) : itemsP g b x (f + 1) ps ks a l = itemsP g b x f (ps ++ [(strOfNums nm, (b.drop (a + 12)).take n.toNat)]) ks (a + 12 + up4 n.toNat) l := by
  simp only [itemsP, h, h8, h12, ht, Option.bind_some, if_true]
  rw [if_pos hn]
end
theorem nodeP_none {b x nm : List Int} {d a l : Nat} (hl : l ≠ 0) (h : txt b a = some nm) (hi : itemsP (nodeP b x d) b x (b.length + 1) [] [] (a + up4 (nm.length + 1)) (l - 1) = none) : nodeP b x (d + 1) a l = none := by
  rw [nodeP_items hl h, hi]
  rfl
theorem nodeP_some {b x nm : List Int} {d a l : Nat} {ps : List Pr} {ks : List Tr} {a' l' : Nat} (hl : l ≠ 0) (h : txt b a = some nm) (hi : itemsP (nodeP b x d) b x (b.length + 1) [] [] (a + up4 (nm.length + 1)) (l - 1) = some (ps, ks, a', l')) : nodeP b x (d + 1) a l = some (.mk (strOfNums nm) ps ks, a', l') := by
  rw [nodeP_items hl h, hi]
  rfl
/-- Rows of properties of the call's own. -/
def OwnPs (w : World) (base : Nat) (ps : List Pr) (v : Value) : Prop := ∃ css : List (List Value), w.ownsRow base 88 2 v ps.length css.flatten ∧ AllIn (fun p c => PrX w p c) ps css
theorem info_prop2 : (Try.prog.info? 88).map (fun i => (i.zero, i.size, i.bytes)) = some (some (.agg #[.string ⟨#[]⟩, .slice none 0 0]), 2, 40) := by kernel_rfl
theorem prop_elem : ElemInfo Try.prog 22 88 2 40 := by
  obtain ⟨i, hi, hz, hs, hb⟩ := info_parts info_prop2
  exact ⟨Try.underlying22, ⟨i, _, hi, hz, hs, hb, rfl⟩, by decide⟩
theorem OwnPs.nil (w : World) (base : Nat) : OwnPs w base [] (.slice none 0 0) := ⟨[], ⟨rfl, .inl ⟨rfl, rfl⟩⟩, trivial⟩
theorem OwnPs.turn {w w' : World} {X : Nat → Prop} {base : Nat} {ps : List Pr} {v : Value} (h : OwnPs w base ps v) (hs : Same X w w') (hv : ∀ g, v.ownBlock = some g → w'.heap[g]? = w.heap[g]?) : OwnPs w' base ps v := by
  obtain ⟨css, h1, h3⟩ := h
  exact ⟨css, own_same h1 hv, h3.mono fun _ _ h => h.turn hs⟩
theorem OwnPs.lt {w : World} {base : Nat} {ps : List Pr} {v : Value} (h : OwnPs w base ps v) {g : Nat} (hg : v.ownBlock = some g) : base ≤ g ∧ g < w.heap.size := by
  obtain ⟨css, h1, _⟩ := h
  exact own_lt h1 hg
theorem OwnPs.ps {w : World} {X : Nat → Prop} {base : Nat} {ps : List Pr} {v : Value} (h : OwnPs w base ps v) (hX : ∀ b, X b → b < base) : PsP X ps w v := by
  obtain ⟨css, h1, h3⟩ := h
  obtain ⟨hl, hat⟩ := h3.at
  have hlen := h3.lens fun _ _ h => h.len
  have mk : ∀ A c, v = .slice A ps.length c → ps.length ≤ c → c ≤ maxLen → Rd w w.heap.size 2 A ps.length css.flatten → (∀ b o, A = some ⟨b, o, none⟩ → ¬ X b ∧ ∃ cs fz, w.heap[b]? = some (.cells cs 88 fz)) → PsP X ps w v := by
    intro A c hv hc hm hr hnx
    refine ⟨A, c, fun i => css.getD i [], hv, hc, hm, fun hn => ?_, fun i t ht => ?_⟩
    · obtain ⟨b, off, rfl, hb, hcell⟩ := hr.cells hn
      refine ⟨b, off, rfl, (hnx b off rfl).1, (hnx b off rfl).2, fun i hi j hj => ?_⟩
      have hx : css[i]? = some (css.getD i []) := by
        rw [List.getD_eq_getElem?_getD, List.getElem?_eq_getElem (by omega)]
        rfl
      rw [hcell _ (by
        have : (i + 1) * 2 ≤ ps.length * 2 := Nat.mul_le_mul_right _ (by omega)
        omega), flatten_get css i j _ hlen hx hj]
    · obtain ⟨c, e1, e2⟩ := hat i t ht
      have : css.getD i [] = c := by rw [List.getD_eq_getElem?_getD, e1]; rfl
      show PrX _ _ (css.getD i [])
      rw [this]
      exact e2
  rcases h1.2 with ⟨rfl, h0⟩ | ⟨g, cap, cur, rfl, hg, hh, hnc, hcm, hr⟩
  · have : ps = [] := List.eq_nil_of_length_eq_zero h0
    subst this
    exact PsP.nil 0 none (by simp [maxLen])
  · exact mk _ _ rfl hnc hcm (Rd.of_own h1) fun b o e => by
      injection e with e
      injection e with e
      subst e
      exact ⟨fun hx => by
        have := hX _ hx
        omega, _, _, hh⟩
theorem OwnPs.app {w : World} {base : Nat} {ps : List Pr} {p : Pr} {v x : Value} (ty : TypeId) (h : OwnPs w base ps v) (hbase : base ≤ w.heap.size) (hx : PsP (fun b => v.ownBlock = some b) [p] w x) (hn : ps.length ≤ 1000000) :
    ∃ v' w' A c', (Builtin.append_ #[22, 22] ty #[v, x]).run Try.prog w = .ok v' w' ∧ OwnPs w' base (ps ++ [p]) v' ∧ Below base w w' ∧ w.grownBy w' v.ownBlock ∧ v' = .slice A (ps ++ [p]).length c' ∧ (v'.ownBlock = v.ownBlock ∨ v'.ownBlock = some w.heap.size) := by
  obtain ⟨css, hown, hall⟩ := h
  obtain ⟨A, c, f, rfl, hc1, hc2, hrows, hel⟩ := hx
  obtain ⟨b, off, rfl, hxb, ⟨bcs, bfz, hbt⟩, hcell⟩ := hrows (by simp)
  have hpr := hel 0 p rfl
  obtain ⟨htt, ⟨i, z, hi, hz, hsize, hby, hzs⟩, hsz⟩ := prop_elem
  have hM : ps.length + 1 ≤ maxLen := by unfold maxLen; omega
  have hM2 : (ps.length + 1) * 40 ≤ 140737488355328 := by omega
  obtain ⟨v', w', hrun, hown', hgr, _, hloc⟩ := run_append_own_at (P := Try.prog) w base 22 ty 88 i z 2 40 htt hi hz hsize hby hzs hsz v ps.length css.flatten hown ⟨b, off, none⟩ 1 c (f 0) (by rw [hpr.len]) (fun j u hu => by
    have hj : j < 2 := by
      have := (List.getElem?_eq_some_iff.1 hu).1
      have := hpr.len
      omega
    have h1 := hcell 0 (by simp) j hj
    rw [Nat.zero_mul, Nat.zero_add, hu] at h1
    rw [← h1]
    have e : ((⟨b, off, none⟩ : Addr).add j) = ⟨b, off + j, none⟩ := by cases j <;> simp [Addr.add]
    rw [e]) (by
      obtain ⟨_, _, v0, e, A0, c0, rfl, _⟩ := hpr
      intro u hu
      rw [e] at hu
      simp at hu
      rcases hu with rfl | rfl <;> rfl) hM hM2 hbase
  have hsame : Same (fun b => v.ownBlock = some b) w w' := Same.grown hown (by decide) (fun g hg => hg) hgr
  have hown2 : w'.ownsRow base 88 2 v' (ps ++ [p]).length (css ++ [f 0]).flatten := by
    rw [List.length_append]
    simpa using hown'
  obtain ⟨A', c', hv', _, _⟩ := own_slice hown2
  exact ⟨v', w', A', c', hrun, ⟨css ++ [f 0], hown2, AllIn.snoc (hpr.turn hsame) (hall.mono fun _ _ h => h.turn hsame)⟩, (Below.refl base w).grown hgr hbase (fun k hk => (hown.lt k hk).1), hgr, hv', hloc⟩
theorem wpList_apr {P : Program} {w : World} {ops : Array Oper} {rest : List Oper} {o : Oper} {a : Act} {Q : Exit → Act → World → Prop} {t tn : TypeId} (hgd : o.guard = none) (s x : Operand)
    (ho : o.op = .call { callee := .builtin .append, args := #[s, x], argTypes := #[t, tn] }) {vs vx : Value} (hs : a.eval s = vs) (hx : a.eval x = vx)
    {v' : Value} {w' : World} (hr : (Builtin.append_ #[t, tn] o.type #[vs, vx]).run P w = .ok v' w') (h : wpList P ops Q rest (a.put o.dst v') w') : wpList P ops Q (o :: rest) a w :=
  wpList_plain hgd fun _ hK => Lib.wp_append_run w s x t tn ho vs vx hs hx v' w' hr (hK _ _ h)
/-- Where the reader alone turns. -/
theorem same_near {w w' : World} {X : Nat → Prop} {g : Nat} {cs : Array Value} (hn : Near (fun i => i = g) w w') (hg : Blk w g 135 cs) (hX : X g) : Same X w w' := ⟨hn.size, fun b cs' T fz hb hx => by
  by_cases e : b = g
  · subst e
    unfold Blk at hg
    rw [hg] at hb
    simp only [Option.some.injEq, Obj.cells.injEq] at hb
    rcases hx with h | h
    · exact absurd hX h
    · exact absurd (hb.2.1.trans h) (by decide)
  · exact ⟨fz, (hn.block b (heap_lt hb) e).trans hb⟩⟩
theorem OwnTs.app2 {w : World} {X : Nat → Prop} {base : Nat} {ts : List Tr} {t : Tr} {v x : Value} (ty : TypeId) (h : OwnTs w X base ts v) (hbase : base ≤ w.heap.size) (hx : TsP (fun b => X b ∨ v.ownBlock = some b) [t] w x) (hn : ts.length ≤ 1000000) :
    ∃ v' w' A c, (Builtin.append_ #[23, 23] ty #[v, x]).run Try.prog w = .ok v' w' ∧ OwnTs w' X base (ts ++ [t]) v' ∧ Below base w w' ∧ w.grownBy w' v.ownBlock ∧ v' = .slice A (ts ++ [t]).length c := by
  obtain ⟨xs, hown, css, rfl, hall⟩ := h
  obtain ⟨A, c, f, k, rfl, hc1, hc2, hrows, hel⟩ := hx
  obtain ⟨b, off, rfl, hxb, ⟨bcs, bfz, hbt⟩, hcell⟩ := hrows (by simp)
  have ht := hel 0 t rfl
  have hlen := ht.len
  obtain ⟨htt, ⟨i, z, hi, hz, hsize, hby, hzs⟩, hsz⟩ := tree_elem
  have hM : ts.length + 1 ≤ maxLen := by unfold maxLen; omega
  have hM2 : (ts.length + 1) * 64 ≤ 140737488355328 := by omega
  obtain ⟨v', w', hrun, hown', hgr, _, hloc⟩ := run_append_own_at (P := Try.prog) w base 23 ty 25 i z 3 64 htt hi hz hsize hby hzs hsz v ts.length css.flatten hown ⟨b, off, none⟩ 1 c (f 0) (by rw [hlen]) (fun j u hu => by
    have hj : j < 3 := by
      have := (List.getElem?_eq_some_iff.1 hu).1
      omega
    have h1 := hcell 0 (by simp) j hj
    rw [Nat.zero_mul, Nat.zero_add, hu] at h1
    rw [← h1]
    have e : ((⟨b, off, none⟩ : Addr).add j) = ⟨b, off + j, none⟩ := by cases j <;> simp [Addr.add]
    rw [e]) ht.one hM hM2 hbase
  have hsame : Same (fun b => X b ∨ v.ownBlock = some b) w w' := Same.grown hown (by decide) (fun g hg => .inr hg) hgr
  have hsw : ∀ g, (X g ∨ v'.ownBlock = some g) → g < w'.heap.size → (X g ∨ v.ownBlock = some g) ∨ w.heap.size ≤ g := by
    intro g hg _
    rcases hg with hg | hg
    · exact .inl (.inl hg)
    · rcases hloc with e | e
      · exact .inl (.inr (by rw [← e]; exact hg))
      · rw [e] at hg
        simp only [Option.some.injEq] at hg
        exact .inr (by omega)
  have turn : ∀ {k : Nat} {t : Tr} {cs : List Value}, TrX w (fun b => X b ∨ v.ownBlock = some b) k t cs → TrX w' (fun b => X b ∨ v'.ownBlock = some b) k t cs := by
    intro k t cs h
    have h1 : TrX w (fun b => (X b ∨ v.ownBlock = some b) ∨ w.heap.size ≤ b) k t cs := TrX.swap (fun b hb hlt => by
      rcases hb with hb | hb
      · exact hb
      · exact absurd hlt (by omega)) h
    have h2 := TrX.turn (X := fun b => (X b ∨ v.ownBlock = some b) ∨ w.heap.size ≤ b) ⟨hsame.size, fun b cs T fz hb hx => hsame.block b cs T fz hb (hx.imp_left fun hn h => hn (.inl h))⟩ h1
    exact TrX.swap hsw h2
  have hown2 : w'.ownsRow base 25 3 v' (ts ++ [t]).length (css.flatten ++ f 0) := by
    rw [List.length_append]
    exact hown'
  obtain ⟨A', c', hv', _, _⟩ := own_slice hown2
  refine ⟨v', w', A', c', hrun, ⟨css.flatten ++ f 0, hown2, css ++ [f 0], by simp, ?_⟩, (Below.refl base w).grown hgr hbase (fun k hk => (hown.lt k hk).1), hgr, hv'⟩
  exact AllIn.snoc ⟨k, turn ht⟩ (hall.mono fun _ _ ⟨k, h⟩ => ⟨k, turn h⟩)
theorem OwnTs.beside {w w' : World} {X X' : Nat → Prop} {base : Nat} {ts : List Tr} {v : Value} (h : OwnTs w X base ts v) (hs : Same X w w') (hv : ∀ g, v.ownBlock = some g → w'.heap[g]? = w.heap[g]?) (hX : ∀ i, X' i → X i ∨ w.heap.size ≤ i) : OwnTs w' X' base ts v := by
  obtain ⟨xs, h1, css, h2, h3⟩ := h
  refine ⟨xs, own_same h1 hv, css, h2, h3.mono fun _ _ ⟨k, h⟩ => ⟨k, ?_⟩⟩
  have a1 : TrX w (fun b => (X b ∨ v.ownBlock = some b) ∨ w.heap.size ≤ b) k _ _ := TrX.swap (fun b hb hlt => by
    rcases hb with hb | hb
    · exact hb
    · exact absurd hlt (by omega)) h
  have a2 := TrX.turn (X := fun b => (X b ∨ v.ownBlock = some b) ∨ w.heap.size ≤ b) ⟨hs.size, fun b cs T fz hb hx => hs.block b cs T fz hb (hx.imp_left fun hn h => hn (.inl (.inl h)))⟩ a1
  exact a2.less fun b hb => by
    rcases hb with hb | hb
    · rcases hX b hb with h | h
      · exact .inl (.inl h)
      · exact .inr h
    · exact .inl (.inr hb)
theorem OwnTs.less {w : World} {X Y : Nat → Prop} {base : Nat} {ts : List Tr} {v : Value} (h : OwnTs w X base ts v) (hY : ∀ b, Y b → X b) : OwnTs w Y base ts v := by
  obtain ⟨xs, h1, css, h2, h3⟩ := h
  exact ⟨xs, h1, css, h2, h3.mono fun _ _ ⟨k, h⟩ => ⟨k, h.less fun b hb => hb.imp_left (hY b)⟩⟩
end Go.Proofs.Ytnkpaockginooaa
