/- What a slot holds in a drawn region that makes trees: bytes, numbers, properties, nodes, lists of them. -/
import Derived.Test.YtnkpaockginooaaRegS
import Derived.Test.YtnkpaockginooaaTreeG
import Derived.Test.YtnkpaockginooaaHexB
namespace Go.Proofs.Ytnkpaockginooaa
set_option linter.unusedVariables false
set_option linter.unusedSimpArgs false
open Go.RowKit Go.Sort

theorem Rd.kept {w w' : World} {s n : Nat} {A : Option Addr} {xs : List Value} (h : Rd w w.heap.size s A n xs) (hb : Below w.heap.size w w') : Rd w' w'.heap.size s A n xs := (h.below hb).more hb.size
/-- Of the blocks that were there, only blocks of X that hold no bytes have turned (and marks). -/
structure Same (X : Nat → Prop) (w w' : World) : Prop where
  size : w.heap.size ≤ w'.heap.size
  block : ∀ b cs T fz, w.heap[b]? = some (.cells cs T fz) → (¬ X b ∨ T = 5) → ∃ fz', w'.heap[b]? = some (.cells cs T fz')
theorem heap_lt {w : World} {b : Nat} {o : Obj} (h : w.heap[b]? = some o) : b < w.heap.size := (Array.getElem?_eq_some_iff.1 h).1
section
variable {w w' w2 : World} {X : Nat → Prop}
theorem Same.of_turn (h : Turn w w') : Same X w w' := ⟨h.size, fun b cs T fz hb _ => by
  rcases h.block b (heap_lt hb) with e | ⟨cs', f1, f2, e1, e2⟩
  · exact ⟨fz, e.trans hb⟩
  · rw [hb] at e1
    simp only [Option.some.injEq, Obj.cells.injEq] at e1
    obtain ⟨rfl, rfl, _⟩ := e1
    exact ⟨f2, e2⟩⟩
theorem Same.of_below (h : Below w.heap.size w w') : Same X w w' := Same.of_turn (Turn.of_below h)
theorem Same.trans (h : Same X w w') (k : Same X w' w2) : Same X w w2 := ⟨Nat.le_trans h.size k.size, fun b cs T fz hb hx => by
  obtain ⟨f1, h1⟩ := h.block b cs T fz hb hx
  exact k.block b cs T f1 h1 hx⟩
theorem Same.set_in {g : Nat} {T : TypeId} {cs : Array Value} (hg : Blk w g T cs) (hT : T ≠ 5) (hX : X g) (o : Nat) (u : Value) : Same X w (w.setCell ⟨g, o, none⟩ u) := ⟨by simp, fun b cs' T' fz hb hx => ⟨fz, (Below.heap_setCell w _ u b (fun e => by
  have e : b = g := e
  subst e
  unfold Blk at hg
  rw [hg] at hb
  simp only [Option.some.injEq, Obj.cells.injEq] at hb
  rcases hx with hx | hx
  · exact hx hX
  · exact hT (hb.2.1.trans hx))).trans hb⟩⟩
/-- Where X is all. -/
theorem Same.set {g : Nat} {T : TypeId} {cs : Array Value} (hg : Blk w g T cs) (hT : T ≠ 5) (o : Nat) (u : Value) : Same (fun _ => True) w (w.setCell ⟨g, o, none⟩ u) := Same.set_in hg hT trivial o u
theorem Same.grown {base size n : Nat} {e : TypeId} {v : Value} {xs : List Value} (hown : w.ownsRow base e size v n xs) (he : e ≠ 5) (hX : ∀ g, v.ownBlock = some g → X g) (hg : w.grownBy w' v.ownBlock) : Same X w w' := ⟨hg.size, fun b cs T fz hb hx => ⟨fz, (hg.block b (heap_lt hb) (fun heq => by
  rcases hown.2 with ⟨rfl, _⟩ | ⟨g, cap, cur, rfl, _, hh, _⟩
  · simp [Value.ownBlock] at heq
  · have heq : b = g := by simpa [Value.ownBlock] using heq
    subst heq
    rw [hh] at hb
    simp only [Option.some.injEq, Obj.cells.injEq] at hb
    rcases hx with hx | hx
    · exact hx (hX _ (by simp [Value.ownBlock]))
    · exact he (hb.2.1.trans hx))).trans hb⟩⟩
theorem cell_alike {b : Nat} {cs : Array Value} {T : TypeId} {fz fz' : Nat × Nat} (h : w.heap[b]? = some (.cells cs T fz)) (h' : w'.heap[b]? = some (.cells cs T fz')) (o : Nat) : w'.cell? ⟨b, o, none⟩ = w.cell? ⟨b, o, none⟩ :=
  (cell_of_row w' b o cs T fz' h').trans (cell_of_row w b o cs T fz h).symm
end
/-- Rows of cells in a block of type T: bytes, numbers. -/
def RowP (T : TypeId) {α : Type} (enc : α → List Value) (s : Nat) (l : List α) (w : World) (v : Value) : Prop :=
  ∃ A c, v = .slice A l.length c ∧ l.length ≤ c ∧ c ≤ maxLen ∧ Rd w w.heap.size s A l.length (l.flatMap enc) ∧ (0 < l.length → ∃ b o cs fz, A = some ⟨b, o, none⟩ ∧ w.heap[b]? = some (.cells cs T fz))
theorem RowP.gone {w w' : World} {T : TypeId} {α : Type} {enc : α → List Value} {s : Nat} {l : List α} {v : Value} (h : RowP T enc s l w v) (hz : w.heap.size ≤ w'.heap.size) (hs : ∀ (b : Nat) (cs : Array Value) (fz : Nat × Nat), w.heap[b]? = some (.cells cs T fz) → ∃ fz', w'.heap[b]? = some (.cells cs T fz')) : RowP T enc s l w' v := by
  obtain ⟨A, c, h1, h2, h3, h4, h5⟩ := h
  refine ⟨A, c, h1, h2, h3, ⟨h4.1, fun hn => ?_⟩, fun hn => ?_⟩
  · obtain ⟨b, o, e, hb, hc⟩ := h4.2 hn
    obtain ⟨b', o', cs, fz, e', ht⟩ := h5 hn
    rw [e] at e'
    simp only [Option.some.injEq, Addr.mk.injEq, and_true] at e'
    obtain ⟨rfl, rfl⟩ := e'
    obtain ⟨fz', ht'⟩ := hs b cs fz ht
    exact ⟨b, o, e, Nat.lt_of_lt_of_le hb hz, fun j u hj => (cell_alike ht ht' _).trans (hc j u hj)⟩
  · obtain ⟨b, o, cs, fz, e, ht⟩ := h5 hn
    obtain ⟨fz', ht'⟩ := hs b cs fz ht
    exact ⟨b, o, cs, fz', e, ht'⟩
theorem RowP.alike {w w' : World} {T : TypeId} {α : Type} {enc : α → List Value} {s : Nat} {l : List α} {v : Value} (h : RowP T enc s l w v) (hs : Same (fun _ => False) w w') : RowP T enc s l w' v := h.gone hs.size fun b cs fz hb => hs.block b cs T fz hb (.inl fun h => h)
theorem RowP.kept {w w' : World} {T : TypeId} {α : Type} {enc : α → List Value} {s : Nat} {l : List α} {v : Value} (h : RowP T enc s l w v) (hb : Below w.heap.size w w') : RowP T enc s l w' v := h.alike (Same.of_below hb)
def RowV (T : TypeId) {α : Type} (enc : α → List Value) (s : Nat) (l : List α) : SP := ⟨RowP T enc s l, fun h hb => h.alike (Same.of_turn hb)⟩
abbrev BsV (l : List Int) : SP := RowV 5 encB 1 l
theorem RowP.turn {w w' : World} {X : Nat → Prop} {l : List Int} {v : Value} (h : RowP 5 encB 1 l w v) (hs : Same X w w') : RowP 5 encB 1 l w' v := h.gone hs.size fun b cs fz hb => hs.block b cs _ fz hb (.inr rfl)
/-- A property in its cells. -/
def PrX (w : World) (p : Pr) (cs : List Value) : Prop := p.1.size ≤ maxLen ∧ BytesOk p.2 ∧ ∃ v, cs = [.string p.1, v] ∧ RowP 5 encB 1 p.2 w v
/-- Rows that lie in none of the blocks X. -/
def RowsX (w : World) (X : Nat → Prop) (T : TypeId) (k : Nat) (A : Option Addr) (n : Nat) (f : Nat → List Value) : Prop :=
  0 < n → ∃ b off, A = some ⟨b, off, none⟩ ∧ ¬ X b ∧ (∃ cs fz, w.heap[b]? = some (.cells cs T fz)) ∧ ∀ i, i < n → ∀ j, j < k → w.cell? ⟨b, off + (i * k + j), none⟩ = (f i)[j]?
/-- A tree whose rows lie in none of the blocks X. -/
def TrX (w : World) (X : Nat → Prop) : Nat → Tr → List Value → Prop
  | 0, _, _ => False
  | n + 1, t, cs => t.nm.size ≤ maxLen ∧ ∃ (A1 : Option Addr) (c1 : Nat) (A2 : Option Addr) (c2 : Nat) (f g : Nat → List Value),
      cs = [.string t.nm, .slice A1 t.ps.length c1, .slice A2 t.ks.length c2] ∧ t.ps.length ≤ c1 ∧ c1 ≤ maxLen ∧ t.ks.length ≤ c2 ∧ c2 ≤ maxLen ∧ RowsX w X 88 2 A1 t.ps.length f ∧ RowsX w X 25 3 A2 t.ks.length g ∧
      (∀ i p, t.ps[i]? = some p → PrX w p (f i)) ∧ (∀ i k, t.ks[i]? = some k → TrX w X n k (g i))
section
variable {w w' : World} {X Y : Nat → Prop}
theorem PrX.ok {p : Pr} {cs : List Value} (h : PrX w p cs) : PrOk w w.heap.size p cs := by
  obtain ⟨h1, h2, v, rfl, A, c, rfl, h3, h4, h5, h6⟩ := h
  exact ⟨h1, h2, A, c, rfl, h3, h4, h5⟩
theorem PrX.len {p : Pr} {cs : List Value} (h : PrX w p cs) : cs.length = 2 := by
  obtain ⟨_, _, _, e, _⟩ := h
  rw [e]; rfl
theorem PrX.turn {p : Pr} {cs : List Value} (h : PrX w p cs) (hs : Same X w w') : PrX w' p cs := by
  obtain ⟨h1, h2, v, h3, h4⟩ := h
  exact ⟨h1, h2, v, h3, h4.turn hs⟩
theorem PrX.kept {p : Pr} {cs : List Value} (h : PrX w p cs) (hb : Below w.heap.size w w') : PrX w' p cs := h.turn (Same.of_below (X := fun _ => False) hb)
theorem RowsX.turn {T : TypeId} {k n : Nat} {A : Option Addr} {f : Nat → List Value} (h : RowsX w X T k A n f) (hs : Same X w w') : RowsX w' X T k A n f := fun hn => by
  obtain ⟨b, off, e, hx, ⟨cs, fz, ht⟩, hc⟩ := h hn
  obtain ⟨fz', ht'⟩ := hs.block b cs T fz ht (.inl hx)
  exact ⟨b, off, e, hx, ⟨cs, fz', ht'⟩, fun i hi j hj => (cell_alike ht ht' _).trans (hc i hi j hj)⟩
theorem RowsX.at {T : TypeId} {k n : Nat} {A : Option Addr} {f : Nat → List Value} (h : RowsX w X T k A n f) : RowsAt w w.heap.size k A n f := fun hn => by
  obtain ⟨b, off, e, _, ⟨_, _, ht⟩, hc⟩ := h hn
  exact ⟨b, off, e, heap_lt ht, hc⟩
theorem TrX.turn (hs : Same X w w') : ∀ {n : Nat} {t : Tr} {cs : List Value}, TrX w X n t cs → TrX w' X n t cs
  | 0, _, _, h => h
  | n + 1, t, cs, ⟨h0, A1, c1, A2, c2, f, g, h1, h2, h3, h4, h5, h6, h7, h8, h9⟩ =>
    ⟨h0, A1, c1, A2, c2, f, g, h1, h2, h3, h4, h5, h6.turn hs, h7.turn hs, fun i p hp => (h8 i p hp).turn hs, fun i k hk => TrX.turn hs (h9 i k hk)⟩
theorem TrX.kept {n : Nat} {t : Tr} {cs : List Value} (h : TrX w X n t cs) (hb : Below w.heap.size w w') : TrX w' X n t cs := TrX.turn (Same.of_below hb) h
theorem TrX.ok : ∀ {n : Nat} {t : Tr} {cs : List Value}, TrX w X n t cs → TrOk w w.heap.size n t cs
  | 0, _, _, h => h
  | n + 1, t, cs, ⟨h0, A1, c1, A2, c2, f, g, h1, h2, h3, h4, h5, h6, h7, h8, h9⟩ =>
    ⟨h0, A1, c1, A2, c2, f, g, h1, h2, h3, h4, h5, h6.at, h7.at, fun i p hp => (h8 i p hp).ok, fun i k hk => TrX.ok (h9 i k hk)⟩
theorem TrX.mono : ∀ {n m : Nat} {t : Tr} {cs : List Value}, TrX w X n t cs → n ≤ m → TrX w X m t cs
  | 0, _, _, _, h, _ => h.elim
  | n + 1, 0, _, _, _, hm => absurd hm (by omega)
  | n + 1, m + 1, t, cs, ⟨h0, A1, c1, A2, c2, f, g, h1, h2, h3, h4, h5, h6, h7, h8, h9⟩, hm =>
    ⟨h0, A1, c1, A2, c2, f, g, h1, h2, h3, h4, h5, h6, h7, h8, fun i k hk => TrX.mono (h9 i k hk) (by omega)⟩
theorem TrX.len : ∀ {n : Nat} {t : Tr} {cs : List Value}, TrX w X n t cs → cs.length = 3
  | 0, _, _, h => h.elim
  | n + 1, _, _, ⟨_, _, _, _, _, _, _, e, _⟩ => by rw [e]; rfl
/-- Other blocks X: only blocks that are there count. -/
theorem RowsX.swap {T : TypeId} {k n : Nat} {A : Option Addr} {f : Nat → List Value} (h : RowsX w X T k A n f) (hY : ∀ b, Y b → b < w.heap.size → X b) : RowsX w Y T k A n f := fun hn => by
  obtain ⟨b, off, e, hx, ht, hc⟩ := h hn
  exact ⟨b, off, e, fun hy => hx (hY b hy (by obtain ⟨_, _, ht⟩ := ht; exact heap_lt ht)), ht, hc⟩
theorem TrX.swap (hY : ∀ b, Y b → b < w.heap.size → X b) : ∀ {n : Nat} {t : Tr} {cs : List Value}, TrX w X n t cs → TrX w Y n t cs
  | 0, _, _, h => h
  | n + 1, t, cs, ⟨h0, A1, c1, A2, c2, f, g, h1, h2, h3, h4, h5, h6, h7, h8, h9⟩ =>
    ⟨h0, A1, c1, A2, c2, f, g, h1, h2, h3, h4, h5, h6.swap hY, h7.swap hY, h8, fun i k hk => TrX.swap hY (h9 i k hk)⟩
theorem TrX.less (hY : ∀ b, Y b → X b) {n : Nat} {t : Tr} {cs : List Value} (h : TrX w X n t cs) : TrX w Y n t cs := TrX.swap (fun b hb _ => hY b hb) h
/-- A leaf's rows are properties: no block of nodes. -/
theorem RowsX.more {T T' : TypeId} {g k n : Nat} {A : Option Addr} {f : Nat → List Value} {cs : Array Value} (h : RowsX w X T k A n f) (hg : Blk w g T' cs) (hT : T ≠ T') : RowsX w (fun b => X b ∨ b = g) T k A n f := fun hn => by
  obtain ⟨b, off, e, hx, ⟨cs', fz, ht⟩, hc⟩ := h hn
  refine ⟨b, off, e, fun hy => ?_, ⟨cs', fz, ht⟩, hc⟩
  rcases hy with hy | rfl
  · exact hx hy
  · unfold Blk at hg
    rw [hg] at ht
    simp only [Option.some.injEq, Obj.cells.injEq] at ht
    exact hT ht.2.1.symm
theorem TrX.leaf {g : Nat} {cs0 : Array Value} (hg : Blk w g 25 cs0) : ∀ {n : Nat} {t : Tr} {cs : List Value}, TrX w X n t cs → t.ks = [] → TrX w (fun b => X b ∨ b = g) n t cs
  | 0, _, _, h, _ => h
  | n + 1, t, cs, ⟨h0, A1, c1, A2, c2, f, g', h1, h2, h3, h4, h5, h6, h7, h8, h9⟩, hl =>
    ⟨h0, A1, c1, A2, c2, f, g', h1, h2, h3, h4, h5, h6.more hg (by decide), fun hn => absurd hn (by rw [hl]; simp), h8, fun i k hk => by rw [hl] at hk; simp at hk⟩
end
/-- A property, a node; lists of them. -/
def PrP (p : Pr) (w : World) (v : Value) : Prop := ∃ cs, v = .agg cs.toArray ∧ PrX w p cs
def PrV (p : Pr) : SP := ⟨PrP p, fun ⟨cs, h1, h2⟩ hb => ⟨cs, h1, h2.turn (Same.of_turn (X := fun _ => False) hb)⟩⟩
def TrP (X : Nat → Prop) (t : Tr) (w : World) (v : Value) : Prop := ∃ cs k, v = .agg cs.toArray ∧ TrX w X k t cs
def TrV (X : Nat → Prop) (t : Tr) : SP := ⟨TrP X t, fun ⟨cs, k, h1, h2⟩ hb => ⟨cs, k, h1, TrX.turn (Same.of_turn hb) h2⟩⟩
def PsP (X : Nat → Prop) (ps : List Pr) (w : World) (v : Value) : Prop := ∃ A c f, v = .slice A ps.length c ∧ ps.length ≤ c ∧ c ≤ maxLen ∧ RowsX w X 88 2 A ps.length f ∧ ∀ i p, ps[i]? = some p → PrX w p (f i)
def PsV (X : Nat → Prop) (ps : List Pr) : SP := ⟨PsP X ps, fun ⟨A, c, f, h1, h2, h3, h4, h5⟩ hb => ⟨A, c, f, h1, h2, h3, h4.turn (Same.of_turn hb), fun i p hp => (h5 i p hp).turn (Same.of_turn (X := fun _ => False) hb)⟩⟩
def TsP (X : Nat → Prop) (ts : List Tr) (w : World) (v : Value) : Prop := ∃ A c f k, v = .slice A ts.length c ∧ ts.length ≤ c ∧ c ≤ maxLen ∧ RowsX w X 25 3 A ts.length f ∧ ∀ i t, ts[i]? = some t → TrX w X k t (f i)
def TsV (X : Nat → Prop) (ts : List Tr) : SP := ⟨TsP X ts, fun ⟨A, c, f, k, h1, h2, h3, h4, h5⟩ hb => ⟨A, c, f, k, h1, h2, h3, h4.turn (Same.of_turn hb), fun i t ht => TrX.turn (Same.of_turn hb) (h5 i t ht)⟩⟩
section
variable {w w' : World} {X : Nat → Prop}
theorem RowP.own {α : Type} {enc : α → List Value} {s base n : Nat} {e : TypeId} {l : List α} {v : Value} {xs : List Value} (h : w.ownsRow base e s v n xs) (hn : n = l.length) (hx : xs = l.flatMap enc) : RowP e enc s l w v := by
  subst hn hx
  rcases h.2 with ⟨rfl, h0⟩ | ⟨g, cap, cur, rfl, hg, hh, hnc, hcm, hr⟩
  · have : l = [] := List.eq_nil_of_length_eq_zero h0
    subst this
    exact ⟨none, 0, rfl, Nat.le_refl _, by simp [maxLen], Rd.nil, fun h => absurd h (by simp)⟩
  · exact ⟨_, _, rfl, hnc, hcm, Rd.of_own h, fun _ => ⟨_, _, _, _, rfl, hh⟩⟩
theorem PrP.mk {nm : ByteArray} {l : List Int} {v : Value} (hnm : nm.size ≤ maxLen) (hl : BytesOk l) (h : RowP 5 encB 1 l w v) : PrP (nm, l) w (.agg #[.string nm, v]) := ⟨[.string nm, v], rfl, hnm, hl, v, rfl, h⟩
theorem TrP.mk {nm : ByteArray} {ps : List Pr} {ts : List Tr} {v1 v2 : Value} (hnm : nm.size ≤ maxLen) (h1 : PsP X ps w v1) (h2 : TsP X ts w v2) : TrP X (.mk nm ps ts) w (.agg #[.string nm, v1, v2]) := by
  obtain ⟨A, c, f, rfl, a1, a2, a3, a4⟩ := h1
  obtain ⟨B, d, g, k, rfl, b1, b2, b3, b4⟩ := h2
  exact ⟨[.string nm, .slice A ps.length c, .slice B ts.length d], k + 1, rfl, hnm, A, c, B, d, f, g, rfl, a1, a2, b1, b2, a3, b3, a4, b4⟩
theorem PsP.nil (c : Nat) (A : Option Addr) (hc : c ≤ maxLen) : PsP X [] w (.slice A 0 c) := ⟨A, c, fun _ => [], rfl, Nat.zero_le _, hc, fun h => absurd h (by simp), fun i p h => by simp at h⟩
theorem TsP.nil (c : Nat) (A : Option Addr) (hc : c ≤ maxLen) : TsP X [] w (.slice A 0 c) := ⟨A, c, fun _ => [], 0, rfl, Nat.zero_le _, hc, fun h => absurd h (by simp), fun i p h => by simp at h⟩
/-- A new block of rows. -/
theorem RowsX.fresh (w : World) (cs : Array Value) (e : TypeId) (k n : Nat) (f : Nat → List Value) (b : Nat) (hb : b = w.heap.size) (hX : ∀ b, X b → b < w.heap.size) (hf : ∀ i, i < n → ∀ j, j < k → cs[i * k + j]? = (f i)[j]?) :
    RowsX (w.alloc (.cells cs e)) X e k (some ⟨b, 0, none⟩) n f := by
  subst hb
  intro hn
  refine ⟨w.heap.size, 0, rfl, fun hx => Nat.lt_irrefl _ (hX _ hx), ⟨cs, _, Blk.new w e cs⟩, fun i hi j hj => ?_⟩
  rw [Nat.zero_add]
  exact ((Blk.new w e cs).cell _).trans (hf i hi j hj)
end
end Go.Proofs.Ytnkpaockginooaa
