/- What a slot holds in a drawn region that makes trees: bytes, numbers, properties, nodes, lists of them. -/
import Derived.Test.YtnkpaockginooaaRegT
import Derived.Test.YtnkpaockginooaaTreeF
import Derived.Test.YtnkpaockginooaaHexA
namespace Go.Proofs.Ytnkpaockginooaa
set_option linter.unusedVariables false
set_option linter.unusedSimpArgs false
open Go.RowKit Go.Sort

theorem Rd.kept {w w' : World} {s n : Nat} {A : Option Addr} {xs : List Value} (h : Rd w w.heap.size s A n xs) (hb : Below w.heap.size w w') : Rd w' w'.heap.size s A n xs := (h.below hb).more hb.size
/-- Of the blocks that were there, only blocks of X that hold no bytes have turned (and marks). -/
structure Same (X : Nat → Prop) (w w' : World) : Prop where
  size : w.heap.size ≤ w'.heap.size
  block : ∀ b cs T fz, w.heap[b]? = some (.cells cs T fz) → (¬ X b ∨ T = 5) → ∃ fz', w'.heap[b]? = some (.cells cs T fz')
theorem heap_lt {w : World} {b : Nat} {o : Obj} (h : w.heap[b]? = some o) : b < w.heap.size := (Array.getElem?_eq_some_iff.1 h).1
section
variable {w w' w2 : World} {X : Nat → Prop}
theorem Same.of_turn (h : Turn w w') : Same X w w' := ⟨h.size, fun b cs T fz hb _ => by
  rcases h.block b (heap_lt hb) with e | ⟨cs', f1, f2, e1, e2⟩
  · exact ⟨fz, e.trans hb⟩
  · rw [hb] at e1
    simp only [Option.some.injEq, Obj.cells.injEq] at e1
    obtain ⟨rfl, rfl, _⟩ := e1
    exact ⟨f2, e2⟩⟩
theorem Same.of_below (h : Below w.heap.size w w') : Same X w w' := Same.of_turn (Turn.of_below h)
theorem Same.trans (h : Same X w w') (k : Same X w' w2) : Same X w w2 := ⟨Nat.le_trans h.size k.size, fun b cs T fz hb hx => by
  obtain ⟨f1, h1⟩ := h.block b cs T fz hb hx
  exact k.block b cs T f1 h1 hx⟩
theorem Same.set_in {g : Nat} {T : TypeId} {cs : Array Value} (hg : Blk w g T cs) (hT : T ≠ 5) (hX : X g) (o : Nat) (u : Value) : Same X w (w.setCell ⟨g, o, none⟩ u) := ⟨by simp, fun b cs' T' fz hb hx => ⟨fz, (Below.heap_setCell w _ u b (fun e => by
  have e : b = g := e
  subst e
  unfold Blk at hg
  rw [hg] at hb
  simp only [Option.some.injEq, Obj.cells.injEq] at hb
  rcases hx with hx | hx
  · exact hx hX
  · exact hT (hb.2.1.trans hx))).trans hb⟩⟩
/-- Where X is all. -/
theorem Same.set {g : Nat} {T : TypeId} {cs : Array Value} (hg : Blk w g T cs) (hT : T ≠ 5) (o : Nat) (u : Value) : Same (fun _ => True) w (w.setCell ⟨g, o, none⟩ u) := Same.set_in hg hT trivial o u
theorem Same.grown {base size n : Nat} {e : TypeId} {v : Value} {xs : List Value} (hown : w.ownsRow base e size v n xs) (he : e ≠ 5) (hX : ∀ g, v.ownBlock = some g → X g) (hg : w.grownBy w' v.ownBlock) : Same X w w' := ⟨hg.size, fun b cs T fz hb hx => ⟨fz, (hg.block b (heap_lt hb) (fun heq => by
  rcases hown.2 with ⟨rfl, _⟩ | ⟨g, cap, cur, rfl, _, hh, _⟩
  · simp [Value.ownBlock] at heq
  · have heq : b = g := by simpa [Value.ownBlock] using heq
    subst heq
    rw [hh] at hb
    simp only [Option.some.injEq, Obj.cells.injEq] at hb
    rcases hx with hx | hx
    · exact hx (hX _ (by simp [Value.ownBlock]))
    · exact he (hb.2.1.trans hx))).trans hb⟩⟩
theorem cell_alike {b : Nat} {cs : Array Value} {T : TypeId} {fz fz' : Nat × Nat} (h : w.heap[b]? = some (.cells cs T fz)) (h' : w'.heap[b]? = some (.cells cs T fz')) (o : Nat) : w'.cell? ⟨b, o, none⟩ = w.cell? ⟨b, o, none⟩ :=
  (cell_of_row w' b o cs T fz' h').trans (cell_of_row w b o cs T fz h).symm
end
/-- Rows of cells in a block of type T: bytes, numbers. -/
def RowP (T : TypeId) {α : Type} (enc : α → List Value) (s : Nat) (l : List α) (w : World) (v : Value) : Prop :=
  ∃ A c, v = .slice A l.length c ∧ l.length ≤ c ∧ c ≤ maxLen ∧ Rd w w.heap.size s A l.length (l.flatMap enc) ∧ (0 < l.length → ∃ b o cs fz, A = some ⟨b, o, none⟩ ∧ w.heap[b]? = some (.cells cs T fz))
theorem RowP.gone {w w' : World} {T : TypeId} {α : Type} {enc : α → List Value} {s : Nat} {l : List α} {v : Value} (h : RowP T enc s l w v) (hz : w.heap.size ≤ w'.heap.size) (hs : ∀ (b : Nat) (cs : Array Value) (fz : Nat × Nat), w.heap[b]? = some (.cells cs T fz) → ∃ fz', w'.heap[b]? = some (.cells cs T fz')) : RowP T enc s l w' v := by
  obtain ⟨A, c, h1, h2, h3, h4, h5⟩ := h
  refine ⟨A, c, h1, h2, h3, ⟨h4.1, fun hn => ?_⟩, fun hn => ?_⟩
  · obtain ⟨b, o, e, hb, hc⟩ := h4.2 hn
    obtain ⟨b', o', cs, fz, e', ht⟩ := h5 hn
    rw [e] at e'
    simp only [Option.some.injEq, Addr.mk.injEq, and_true] at e'
    obtain ⟨rfl, rfl⟩ := e'
    obtain ⟨fz', ht'⟩ := hs b cs fz ht
    exact ⟨b, o, e, Nat.lt_of_lt_of_le hb hz, fun j u hj => (cell_alike ht ht' _).trans (hc j u hj)⟩
  · obtain ⟨b, o, cs, fz, e, ht⟩ := h5 hn
    obtain ⟨fz', ht'⟩ := hs b cs fz ht
    exact ⟨b, o, cs, fz', e, ht'⟩
theorem RowP.alike {w w' : World} {T : TypeId} {α : Type} {enc : α → List Value} {s : Nat} {l : List α} {v : Value} (h : RowP T enc s l w v) (hs : Same (fun _ => False) w w') : RowP T enc s l w' v := h.gone hs.size fun b cs fz hb => hs.block b cs T fz hb (.inl fun h => h)
theorem RowP.kept {w w' : World} {T : TypeId} {α : Type} {enc : α → List Value} {s : Nat} {l : List α} {v : Value} (h : RowP T enc s l w v) (hb : Below w.heap.size w w') : RowP T enc s l w' v := h.alike (Same.of_below hb)
def RowV (T : TypeId) {α : Type} (enc : α → List Value) (s : Nat) (l : List α) : SP := ⟨RowP T enc s l, fun h hb => h.alike (Same.of_turn hb)⟩
abbrev BsV (l : List Int) : SP := RowV 5 encB 1 l
theorem RowP.turn {w w' : World} {X : Nat → Prop} {l : List Int} {v : Value} (h : RowP 5 encB 1 l w v) (hs : Same X w w') : RowP 5 encB 1 l w' v := h.gone hs.size fun b cs fz hb => hs.block b cs _ fz hb (.inr rfl)
/-- A property in its cells. -/
def PrX (w : World) (p : Pr) (cs : List Value) : Prop := p.1.size ≤ maxLen ∧ BytesOk p.2 ∧ ∃ v, cs = [.string p.1, v] ∧ RowP 5 encB 1 p.2 w v
/-- Rows that lie in none of the blocks X. -/
def RowsX (w : World) (X : Nat → Prop) (T : TypeId) (k : Nat) (A : Option Addr) (n : Nat) (f : Nat → List Value) : Prop :=
  0 < n → ∃ b off, A = some ⟨b, off, none⟩ ∧ ¬ X b ∧ (∃ cs fz, w.heap[b]? = some (.cells cs T fz)) ∧ ∀ i, i < n → ∀ j, j < k → w.cell? ⟨b, off + (i * k + j), none⟩ = (f i)[j]?
/-- A tree whose rows lie in none of the blocks X. -/
def TrX (w : World) (X : Nat → Prop) : Nat → Tr → List Value → Prop
  | 0, _, _ => False
  | n + 1, t, cs => t.nm.size ≤ maxLen ∧ ∃ (A1 : Option Addr) (c1 : Nat) (A2 : Option Addr) (c2 : Nat) (f g : Nat → List Value),
      cs = [.string t.nm, .slice A1 t.ps.length c1, .slice A2 t.ks.length c2] ∧ t.ps.length ≤ c1 ∧ c1 ≤ maxLen ∧ t.ks.length ≤ c2 ∧ c2 ≤ maxLen ∧ RowsX w X 88 2 A1 t.ps.length f ∧ RowsX w X 25 3 A2 t.ks.length g ∧
      (∀ i p, t.ps[i]? = some p → PrX w p (f i)) ∧ (∀ i k, t.ks[i]? = some k → TrX w X n k (g i))
section
variable {w w' : World} {X Y : Nat → Prop}
theorem PrX.ok {p : Pr} {cs : List Value} (h : PrX w p cs) : PrOk w w.heap.size p cs := by
  obtain ⟨h1, h2, v, rfl, A, c, rfl, h3, h4, h5, h6⟩ := h
  exact ⟨h1, h2, A, c, rfl, h3, h4, h5⟩
theorem PrX.len {p : Pr} {cs : List Value} (h : PrX w p cs) : cs.length = 2 := by
  obtain ⟨_, _, _, e, _⟩ := h
  rw [e]; rfl
theorem PrX.turn {p : Pr} {cs : List Value} (h : PrX w p cs) (hs : Same X w w') : PrX w' p cs := by
  obtain ⟨h1, h2, v, h3, h4⟩ := h
  exact ⟨h1, h2, v, h3, h4.turn hs⟩
theorem PrX.kept {p : Pr} {cs : List Value} (h : PrX w p cs) (hb : Below w.heap.size w w') : PrX w' p cs := h.turn (Same.of_below (X := fun _ => False) hb)
theorem RowsX.turn {T : TypeId} {k n : Nat} {A : Option Addr} {f : Nat → List Value} (h : RowsX w X T k A n f) (hs : Same X w w') : RowsX w' X T k A n f := fun hn => by
  obtain ⟨b, off, e, hx, ⟨cs, fz, ht⟩, hc⟩ := h hn
  obtain ⟨fz', ht'⟩ := hs.block b cs T fz ht (.inl hx)
  exact ⟨b, off, e, hx, ⟨cs, fz', ht'⟩, fun i hi j hj => (cell_alike ht ht' _).trans (hc i hi j hj)⟩
theorem RowsX.at {T : TypeId} {k n : Nat} {A : Option Addr} {f : Nat → List Value} (h : RowsX w X T k A n f) : RowsAt w w.heap.size k A n f := fun hn => by
  obtain ⟨b, off, e, _, ⟨_, _, ht⟩, hc⟩ := h hn
  exact ⟨b, off, e, heap_lt ht, hc⟩
theorem TrX.turn (hs : Same X w w') : ∀ {n : Nat} {t : Tr} {cs : List Value}, TrX w X n t cs → TrX w' X n t cs
  | 0, _, _, h => h
  | n + 1, t, cs, ⟨h0, A1, c1, A2, c2, f, g, h1, h2, h3, h4, h5, h6, h7, h8, h9⟩ =>
    ⟨h0, A1, c1, A2, c2, f, g, h1, h2, h3, h4, h5, h6.turn hs, h7.turn hs, fun i p hp => (h8 i p hp).turn hs, fun i k hk => TrX.turn hs (h9 i k hk)⟩
theorem TrX.kept {n : Nat} {t : Tr} {cs : List Value} (h : TrX w X n t cs) (hb : Below w.heap.size w w') : TrX w' X n t cs := TrX.turn (Same.of_below hb) h
theorem TrX.ok : ∀ {n : Nat} {t : Tr} {cs : List Value}, TrX w X n t cs → TrOk w w.heap.size n t cs
  | 0, _, _, h => h
  | n + 1, t, cs, ⟨h0, A1, c1, A2, c2, f, g, h1, h2, h3, h4, h5, h6, h7, h8, h9⟩ =>
    ⟨h0, A1, c1, A2, c2, f, g, h1, h2, h3, h4, h5, h6.at, h7.at, fun i p hp => (h8 i p hp).ok, fun i k hk => TrX.ok (h9 i k hk)⟩
theorem TrX.mono : ∀ {n m : Nat} {t : Tr} {cs : List Value}, TrX w X n t cs → n ≤ m → TrX w X m t cs
  | 0, _, _, _, h, _ => h.elim
  | n + 1, 0, _, _, _, hm => absurd hm (by omega)
  | n + 1, m + 1, t, cs, ⟨h0, A1, c1, A2, c2, f, g, h1, h2, h3, h4, h5, h6, h7, h8, h9⟩, hm =>
    ⟨h0, A1, c1, A2, c2, f, g, h1, h2, h3, h4, h5, h6, h7, h8, fun i k hk => TrX.mono (h9 i k hk) (by omega)⟩
theorem TrX.len : ∀ {n : Nat} {t : Tr} {cs : List Value}, TrX w X n t cs → cs.length = 3
  | 0, _, _, h => h.elim
  | n + 1, _, _, ⟨_, _, _, _, _, _, _, e, _⟩ => by rw [e]; rfl
/-- Other blocks X: only blocks that are there count. -/
theorem RowsX.swap {T : TypeId} {k n : Nat} {A : Option Addr} {f : Nat → List Value} (h : RowsX w X T k A n f) (hY : ∀ b, Y b → b < w.heap.size → X b) : RowsX w Y T k A n f := fun hn => by
  obtain ⟨b, off, e, hx, ht, hc⟩ := h hn
  exact ⟨b, off, e, fun hy => hx (hY b hy (by obtain ⟨_, _, ht⟩ := ht; exact heap_lt ht)), ht, hc⟩
theorem TrX.swap (hY : ∀ b, Y b → b < w.heap.size → X b) : ∀ {n : Nat} {t : Tr} {cs : List Value}, TrX w X n t cs → TrX w Y n t cs
  | 0, _, _, h => h
  | n + 1, t, cs, ⟨h0, A1, c1, A2, c2, f, g, h1, h2, h3, h4, h5, h6, h7, h8, h9⟩ =>
    ⟨h0, A1, c1, A2, c2, f, g, h1, h2, h3, h4, h5, h6.swap hY, h7.swap hY, h8, fun i k hk => TrX.swap hY (h9 i k hk)⟩
theorem TrX.less (hY : ∀ b, Y b → X b) {n : Nat} {t : Tr} {cs : List Value} (h : TrX w X n t cs) : TrX w Y n t cs := TrX.swap (fun b hb _ => hY b hb) h
/-- A leaf's rows are properties: no block of nodes. -/
theorem RowsX.more {T T' : TypeId} {g k n : Nat} {A : Option Addr} {f : Nat → List Value} {cs : Array Value} (h : RowsX w X T k A n f) (hg : Blk w g T' cs) (hT : T ≠ T') : RowsX w (fun b => X b ∨ b = g) T k A n f := fun hn => by
  obtain ⟨b, off, e, hx, ⟨cs', fz, ht⟩, hc⟩ := h hn
  refine ⟨b, off, e, fun hy => ?_, ⟨cs', fz, ht⟩, hc⟩
  rcases hy with hy | rfl
  · exact hx hy
  · unfold Blk at hg
    rw [hg] at ht
    simp only [Option.some.injEq, Obj.cells.injEq] at ht
    exact hT ht.2.1.symm
theorem TrX.leaf {g : Nat} {cs0 : Array Value} (hg : Blk w g 25 cs0) : ∀ {n : Nat} {t : Tr} {cs : List Value}, TrX w X n t cs → t.ks = [] → TrX w (fun b => X b ∨ b = g) n t cs
  | 0, _, _, h, _ => h
  | n + 1, t, cs, ⟨h0, A1, c1, A2, c2, f, g', h1, h2, h3, h4, h5, h6, h7, h8, h9⟩, hl =>
    ⟨h0, A1, c1, A2, c2, f, g', h1, h2, h3, h4, h5, h6.more hg (by decide), fun hn => absurd hn (by rw [hl]; simp), h8, fun i k hk => by rw [hl] at hk; simp at hk⟩
end
/-- A property, a node; lists of them. -/
def PrP (p : Pr) (w : World) (v : Value) : Prop := ∃ cs, v = .agg cs.toArray ∧ PrX w p cs
def PrV (p : Pr) : SP := ⟨PrP p, fun ⟨cs, h1, h2⟩ hb => ⟨cs, h1, h2.turn (Same.of_turn (X := fun _ => False) hb)⟩⟩
def TrP (X : Nat → Prop) (t : Tr) (w : World) (v : Value) : Prop := ∃ cs k, v = .agg cs.toArray ∧ TrX w X k t cs
def TrV (X : Nat → Prop) (t : Tr) : SP := ⟨TrP X t, fun ⟨cs, k, h1, h2⟩ hb => ⟨cs, k, h1, TrX.turn (Same.of_turn hb) h2⟩⟩
def PsP (X : Nat → Prop) (ps : List Pr) (w : World) (v : Value) : Prop := ∃ A c f, v = .slice A ps.length c ∧ ps.length ≤ c ∧ c ≤ maxLen ∧ RowsX w X 88 2 A ps.length f ∧ ∀ i p, ps[i]? = some p → PrX w p (f i)
def PsV (X : Nat → Prop) (ps : List Pr) : SP := ⟨PsP X ps, fun ⟨A, c, f, h1, h2, h3, h4, h5⟩ hb => ⟨A, c, f, h1, h2, h3, h4.turn (Same.of_turn hb), fun i p hp => (h5 i p hp).turn (Same.of_turn (X := fun _ => False) hb)⟩⟩
def TsP (X : Nat → Prop) (ts : List Tr) (w : World) (v : Value) : Prop := ∃ A c f k, v = .slice A ts.length c ∧ ts.length ≤ c ∧ c ≤ maxLen ∧ RowsX w X 25 3 A ts.length f ∧ ∀ i t, ts[i]? = some t → TrX w X k t (f i)
def TsV (X : Nat → Prop) (ts : List Tr) : SP := ⟨TsP X ts, fun ⟨A, c, f, k, h1, h2, h3, h4, h5⟩ hb => ⟨A, c, f, k, h1, h2, h3, h4.turn (Same.of_turn hb), fun i t ht => TrX.turn (Same.of_turn hb) (h5 i t ht)⟩⟩
section
variable {w w' : World} {X : Nat → Prop}
theorem RowP.own {α : Type} {enc : α → List Value} {s base n : Nat} {e : TypeId} {l : List α} {v : Value} {xs : List Value} (h : w.ownsRow base e s v n xs) (hn : n = l.length) (hx : xs = l.flatMap enc) : RowP e enc s l w v := by
  subst hn hx
  rcases h.2 with ⟨rfl, h0⟩ | ⟨g, cap, cur, rfl, hg, hh, hnc, hcm, hr⟩
  · have : l = [] := List.eq_nil_of_length_eq_zero h0
    subst this
    exact ⟨none, 0, rfl, Nat.le_refl _, by simp [maxLen], Rd.nil, fun h => absurd h (by simp)⟩
  · exact ⟨_, _, rfl, hnc, hcm, Rd.of_own h, fun _ => ⟨_, _, _, _, rfl, hh⟩⟩
theorem PrP.mk {nm : ByteArray} {l : List Int} {v : Value} (hnm : nm.size ≤ maxLen) (hl : BytesOk l) (h : RowP 5 encB 1 l w v) : PrP (nm, l) w (.agg #[.string nm, v]) := ⟨[.string nm, v], rfl, hnm, hl, v, rfl, h⟩
theorem TrP.mk {nm : ByteArray} {ps : List Pr} {ts : List Tr} {v1 v2 : Value} (hnm : nm.size ≤ maxLen) (h1 : PsP X ps w v1) (h2 : TsP X ts w v2) : TrP X (.mk nm ps ts) w (.agg #[.string nm, v1, v2]) := by
  obtain ⟨A, c, f, rfl, a1, a2, a3, a4⟩ := h1
  obtain ⟨B, d, g, k, rfl, b1, b2, b3, b4⟩ := h2
  exact ⟨[.string nm, .slice A ps.length c, .slice B ts.length d], k + 1, rfl, hnm, A, c, B, d, f, g, rfl, a1, a2, b1, b2, a3, b3, a4, b4⟩
theorem PsP.nil (c : Nat) (A : Option Addr) (hc : c ≤ maxLen) : PsP X [] w (.slice A 0 c) := ⟨A, c, fun _ => [], rfl, Nat.zero_le _, hc, fun h => absurd h (by simp), fun i p h => by simp at h⟩
theorem TsP.nil (c : Nat) (A : Option Addr) (hc : c ≤ maxLen) : TsP X [] w (.slice A 0 c) := ⟨A, c, fun _ => [], 0, rfl, Nat.zero_le _, hc, fun h => absurd h (by simp), fun i p h => by simp at h⟩
/-- A new block of rows. -/
theorem RowsX.fresh (w : World) (cs : Array Value) (e : TypeId) (k n : Nat) (f : Nat → List Value) (b : Nat) (hb : b = w.heap.size) (hX : ∀ b, X b → b < w.heap.size) (hf : ∀ i, i < n → ∀ j, j < k → cs[i * k + j]? = (f i)[j]?) :
    RowsX (w.alloc (.cells cs e)) X e k (some ⟨b, 0, none⟩) n f := by
  subst hb
  intro hn
  refine ⟨w.heap.size, 0, rfl, fun hx => Nat.lt_irrefl _ (hX _ hx), ⟨cs, _, Blk.new w e cs⟩, fun i hi j hj => ?_⟩
  rw [Nat.zero_add]
  exact ((Blk.new w e cs).cell _).trans (hf i hi j hj)
end
end Go.Proofs.Ytnkpaockginooaa
namespace Go.Proofs.Ytnkpaockginooaa
set_option linter.unusedVariables false
set_option linter.unusedSimpArgs false
open Go.RowKit Go.Sort

/-- Each in its cells. -/
def AllIn {α : Type} (R : α → List Value → Prop) : List α → List (List Value) → Prop
  | [], [] => True
  | a :: xa, c :: cs => R a c ∧ AllIn R xa cs
  | _, _ => False
theorem AllIn.at {α : Type} {R : α → List Value → Prop} : ∀ {xa : List α} {cs : List (List Value)}, AllIn R xa cs → xa.length = cs.length ∧ ∀ (i : Nat) (a : α), xa[i]? = some a → ∃ c, cs[i]? = some c ∧ R a c
  | [], [], _ => ⟨rfl, fun i a h => by simp at h⟩
  | a :: xa, c :: cs, ⟨h1, h2⟩ => by
    obtain ⟨h3, h4⟩ := AllIn.at h2
    refine ⟨by simp [h3], fun i b h => ?_⟩
    match i with
    | 0 =>
      obtain rfl : a = b := by simpa using h
      exact ⟨c, rfl, h1⟩
    | i + 1 => exact h4 i b (by simpa using h)
theorem AllIn.mono {α : Type} {R S : α → List Value → Prop} (hRS : ∀ a c, R a c → S a c) : ∀ {xa : List α} {cs : List (List Value)}, AllIn R xa cs → AllIn S xa cs
  | [], [], _ => trivial
  | a :: xa, c :: cs, ⟨h1, h2⟩ => ⟨hRS _ _ h1, AllIn.mono hRS h2⟩
theorem flatten_get {k : Nat} : ∀ (css : List (List Value)) (i j : Nat) (c : List Value), (∀ c ∈ css, c.length = k) → css[i]? = some c → j < k → css.flatten[i * k + j]? = c[j]?
  | [], i, j, c, _, h, _ => by simp at h
  | c0 :: css, 0, j, c, hl, h, hj => by
    obtain rfl : c0 = c := by simpa using h
    have := hl c0 (List.mem_cons_self ..)
    simp only [List.flatten_cons, Nat.zero_mul, Nat.zero_add]
    rw [List.getElem?_append_left (by omega)]
  | c0 :: css, i + 1, j, c, hl, h, hj => by
    have h0 := hl c0 (List.mem_cons_self ..)
    simp only [List.flatten_cons]
    rw [List.getElem?_append_right (by rw [Nat.succ_mul]; omega), show (i + 1) * k + j - c0.length = i * k + j by rw [Nat.succ_mul]; omega]
    exact flatten_get css i j c (fun c hc => hl c (List.mem_cons_of_mem _ hc)) (by simpa using h) hj
theorem AllIn.lens {α : Type} {R : α → List Value → Prop} {k : Nat} (hR : ∀ a c, R a c → c.length = k) : ∀ {xa : List α} {cs : List (List Value)}, AllIn R xa cs → ∀ c ∈ cs, c.length = k
  | [], [], _, c, h => by cases h
  | a :: xa, c :: cs, ⟨h1, h2⟩, x, h => by
    rcases List.mem_cons.1 h with rfl | h
    · exact hR _ _ h1
    · exact AllIn.lens hR h2 x h
section
variable {w : World} {X : Nat → Prop}
theorem trs_fuel : ∀ {ts : List Tr} {css : List (List Value)}, AllIn (fun t cs => ∃ k, TrX w X k t cs) ts css → ∃ k, AllIn (fun t cs => TrX w X k t cs) ts css
  | [], [], _ => ⟨0, trivial⟩
  | t :: ts, c :: cs, ⟨⟨k, h1⟩, h2⟩ => by
    obtain ⟨m, h3⟩ := trs_fuel h2
    exact ⟨max k m, h1.mono (Nat.le_max_left _ _), h3.mono fun _ _ h => h.mono (Nat.le_max_right _ _)⟩
/-- Rows in a new block. -/
theorem RowsX.block (w : World) (cs : Array Value) (css : List (List Value)) (e : TypeId) (k n b : Nat) (hb : b = w.heap.size) (hX : ∀ b, X b → b < w.heap.size) (hc : cs.toList = css.flatten) (hl : ∀ c ∈ css, c.length = k) (hn : css.length = n) :
    RowsX (w.alloc (.cells cs e)) X e k (some ⟨b, 0, none⟩) n (fun i => css.getD i []) := by
  refine RowsX.fresh w cs e k n _ b hb hX fun i hi j hj => ?_
  have hx : css[i]? = some (css.getD i []) := by
    rw [List.getD_eq_getElem?_getD, List.getElem?_eq_getElem (by omega)]
    rfl
  rw [← flatten_get css i j _ hl hx hj, ← hc]
  simp
theorem RowP.fresh {e : TypeId} {α : Type} {enc : α → List Value} {s : Nat} (w : World) (l : List α) (cs : Array Value) (n b : Nat) (hb : b = w.heap.size) (hc : cs.toList = l.flatMap enc) (hn : l.length = n) (hs : cs.size = n * s) (hm : n ≤ maxLen) :
    RowP e enc s l (w.alloc (.cells cs e)) (.slice (some ⟨b, 0, none⟩) n n) := by
  subst hn
  refine ⟨_, l.length, rfl, Nat.le_refl _, hm, ?_, fun _ => ⟨_, _, _, _, rfl, Blk.fresh w e cs hb⟩⟩
  rw [← hc]
  exact Rd.fresh w cs e l.length s b hs hb
theorem PsP.fresh (w : World) (ps : List Pr) (css : List (List Value)) (cs : Array Value) (b n : Nat) (h : AllIn (fun p c => PrX w p c) ps css) (hb : b = w.heap.size) (hc : cs.toList = css.flatten) (hn : ps.length = n) (hm : n ≤ maxLen) (hX : ∀ b, X b → b < w.heap.size) :
    PsP X ps (w.alloc (.cells cs 88)) (.slice (some ⟨b, 0, none⟩) n n) := by
  obtain ⟨hl, hat⟩ := h.at
  refine ⟨_, n, fun i => css.getD i [], by rw [hn], by omega, hm, by rw [hn]; exact RowsX.block w cs css 88 2 n b hb hX hc (h.lens fun _ _ h => h.len) (by omega), fun i p hp => ?_⟩
  obtain ⟨c, h1, h2⟩ := hat i p hp
  have e1 : css.getD i [] = c := by rw [List.getD_eq_getElem?_getD, h1]; rfl
  show PrX _ _ (css.getD i [])
  rw [e1]
  exact h2.kept (bal (Below.refl _ _) _)
theorem TsP.fresh (w : World) (ts : List Tr) (css : List (List Value)) (cs : Array Value) (b n : Nat) (h : AllIn (fun t c => ∃ k, TrX w X k t c) ts css) (hb : b = w.heap.size) (hc : cs.toList = css.flatten) (hn : ts.length = n) (hm : n ≤ maxLen) (hX : ∀ b, X b → b < w.heap.size) :
    TsP X ts (w.alloc (.cells cs 25)) (.slice (some ⟨b, 0, none⟩) n n) := by
  obtain ⟨k, h⟩ := trs_fuel h
  obtain ⟨hl, hat⟩ := h.at
  refine ⟨_, n, fun i => css.getD i [], k, by rw [hn], by omega, hm, by rw [hn]; exact RowsX.block w cs css 25 3 n b hb hX hc (h.lens fun _ _ h => h.len) (by omega), fun i p hp => ?_⟩
  obtain ⟨c, h1, h2⟩ := hat i p hp
  have e1 : css.getD i [] = c := by rw [List.getD_eq_getElem?_getD, h1]; rfl
  show TrX _ _ _ _ (css.getD i [])
  rw [e1]
  exact h2.kept (bal (Below.refl _ _) _)
theorem PrP.cells {p : Pr} {v : Value} (h : PrP p w v) : ∃ A c, v = .agg #[.string p.1, .slice A p.2.length c] ∧ PrX w p [.string p.1, .slice A p.2.length c] := by
  obtain ⟨cs, rfl, h⟩ := h
  obtain ⟨h1, h2, v, rfl, h3⟩ := id h
  obtain ⟨A, c, rfl, _⟩ := id h3
  exact ⟨A, c, rfl, h⟩
theorem TrP.cells {t : Tr} {v : Value} (h : TrP X t w v) : ∃ A c B d, v = .agg #[.string t.nm, .slice A t.ps.length c, .slice B t.ks.length d] ∧ ∃ k, TrX w X k t [.string t.nm, .slice A t.ps.length c, .slice B t.ks.length d] := by
  obtain ⟨cs, k, rfl, h⟩ := h
  match k, h with
  | k + 1, h =>
    obtain ⟨_, A, c, B, d, f, g, rfl, h3⟩ := id h
    exact ⟨A, c, B, d, rfl, k + 1, h⟩
/-- Rows of trees of the call's own: one more. -/
def OwnTs (w : World) (X : Nat → Prop) (base : Nat) (ts : List Tr) (v : Value) : Prop := ∃ xs : List Value, w.ownsRow base 25 3 v ts.length xs ∧ ∃ css, xs = css.flatten ∧ AllIn (fun t c => ∃ k, TrX w (fun b => X b ∨ v.ownBlock = some b) k t c) ts css
theorem info_tree3 : (Try.prog.info? 25).map (fun i => (i.zero, i.size, i.bytes)) = some (some (.agg #[.string ⟨#[]⟩, .slice none 0 0, .slice none 0 0]), 3, 64) := by kernel_rfl
theorem tree_elem : ElemInfo Try.prog 23 25 3 64 := by
  obtain ⟨i, hi, hz, hs, hb⟩ := info_parts info_tree3
  exact ⟨Try.underlying23, ⟨i, _, hi, hz, hs, hb, rfl⟩, by decide⟩
theorem AllIn.snoc {α : Type} {R : α → List Value → Prop} {a : α} {c : List Value} (hac : R a c) : ∀ {xa : List α} {cs : List (List Value)}, AllIn R xa cs → AllIn R (xa ++ [a]) (cs ++ [c])
  | [], [], _ => ⟨hac, trivial⟩
  | x :: xa, y :: cs, ⟨h1, h2⟩ => ⟨h1, AllIn.snoc hac h2⟩
theorem OwnTs.kept {w' : World} {base : Nat} {ts : List Tr} {v : Value} (h : OwnTs w X base ts v) (hb : Below w.heap.size w w') : OwnTs w' X base ts v := by
  obtain ⟨xs, h1, css, h2, h3⟩ := h
  exact ⟨xs, own_kept h1 hb, css, h2, h3.mono fun _ _ ⟨k, h⟩ => ⟨k, h.kept hb⟩⟩
theorem OwnTs.turn {w' : World} {base : Nat} {ts : List Tr} {v : Value} (h : OwnTs w X base ts v) (hs : Same X w w') (hv : ∀ g, v.ownBlock = some g → w'.heap[g]? = w.heap[g]?) : OwnTs w' X base ts v := by
  obtain ⟨xs, h1, css, h2, h3⟩ := h
  exact ⟨xs, own_same h1 hv, css, h2, h3.mono fun _ _ ⟨k, h⟩ => ⟨k, TrX.turn ⟨hs.size, fun b cs T fz hb hx => hs.block b cs T fz hb (hx.imp_left fun h h' => h (.inl h'))⟩ h⟩⟩
theorem OwnTs.ts {base : Nat} {ts : List Tr} {v : Value} (h : OwnTs w X base ts v) (hX : ∀ b, X b → b < base) : TsP X ts w v := by
  obtain ⟨xs, h1, css, rfl, h3⟩ := h
  have h3 := h3.mono (S := fun t c => ∃ k, TrX w X k t c) fun _ _ ⟨k, h⟩ => ⟨k, h.less fun b hb => .inl hb⟩
  obtain ⟨k, h3⟩ := trs_fuel h3
  obtain ⟨hl, hat⟩ := h3.at
  have hlen := h3.lens fun _ _ h => h.len
  have mk : ∀ A c, v = .slice A ts.length c → ts.length ≤ c → c ≤ maxLen → Rd w w.heap.size 3 A ts.length css.flatten → (∀ b o, A = some ⟨b, o, none⟩ → ¬ X b ∧ ∃ cs fz, w.heap[b]? = some (.cells cs 25 fz)) → TsP X ts w v := by
    intro A c hv hc hm hr hnx
    refine ⟨A, c, fun i => css.getD i [], k, hv, hc, hm, fun hn => ?_, fun i t ht => ?_⟩
    · obtain ⟨b, off, rfl, hb, hcell⟩ := hr.cells hn
      refine ⟨b, off, rfl, (hnx b off rfl).1, (hnx b off rfl).2, fun i hi j hj => ?_⟩
      have hx : css[i]? = some (css.getD i []) := by
        rw [List.getD_eq_getElem?_getD, List.getElem?_eq_getElem (by omega)]
        rfl
      rw [hcell _ (by
        have : (i + 1) * 3 ≤ ts.length * 3 := Nat.mul_le_mul_right _ (by omega)
        omega), flatten_get css i j _ hlen hx hj]
    · obtain ⟨c, e1, e2⟩ := hat i t ht
      have : css.getD i [] = c := by rw [List.getD_eq_getElem?_getD, e1]; rfl
      show TrX _ _ _ _ (css.getD i [])
      rw [this]
      exact e2
  rcases h1.2 with ⟨rfl, h0⟩ | ⟨g, cap, cur, rfl, hg, hh, hnc, hcm, hr⟩
  · have : ts = [] := List.eq_nil_of_length_eq_zero h0
    subst this
    exact TsP.nil 0 none (by simp [maxLen])
  · exact mk _ _ rfl hnc hcm (Rd.of_own h1) fun b o e => by
      injection e with e
      injection e with e
      subst e
      exact ⟨fun hx => by
        have := hX _ hx
        omega, _, _, hh⟩
/-- A node laid into the named result's block (or any other block of X). -/
theorem named_tree {w w1 : World} {B g : Nat} {t : Tr} {s0 s : ByteArray} {A0 A1 A A' : Option Addr} {n0 c0 n1 c1 n c n' c' : Nat} (hg : B ≤ g) (hc : Blk w1 g 25 #[.string s0, .slice A0 n0 c0, .slice A1 n1 c1]) (hX : X g)
    {k : Nat} (h : TrX w1 X k t [.string s, .slice A n c, .slice A' n' c']) (hb : Below B w w1) :
    Blk (((w1.setCell ⟨g, 0, none⟩ (.string s)).setCell ⟨g, 1, none⟩ (.slice A n c)).setCell ⟨g, 2, none⟩ (.slice A' n' c')) g 25 #[.string s, .slice A n c, .slice A' n' c'] ∧
      TrX (((w1.setCell ⟨g, 0, none⟩ (.string s)).setCell ⟨g, 1, none⟩ (.slice A n c)).setCell ⟨g, 2, none⟩ (.slice A' n' c')) X k t [.string s, .slice A n c, .slice A' n' c'] ∧
      Below B w (((w1.setCell ⟨g, 0, none⟩ (.string s)).setCell ⟨g, 1, none⟩ (.slice A n c)).setCell ⟨g, 2, none⟩ (.slice A' n' c')) := by
  have h1 := hc.set_ 0 (.string s)
  have h2 := h1.set_ 1 (.slice A n c)
  have h3 := h2.set_ 2 (.slice A' n' c')
  exact ⟨h3, TrX.turn (Same.set_in h2 (by decide) hX 2 _) (TrX.turn (Same.set_in h1 (by decide) hX 1 _) (TrX.turn (Same.set_in hc (by decide) hX 0 _) h)),
    ((hb.setCell (p := ⟨g, 0, none⟩) hg _).setCell (p := ⟨g, 1, none⟩) hg _).setCell (p := ⟨g, 2, none⟩) hg _⟩
end
end Go.Proofs.Ytnkpaockginooaa
namespace Go.Proofs.Ytnkpaockginooaa
set_option linter.unusedVariables false
set_option linter.unusedSimpArgs false
open Go.RowKit Go.Sort

theorem PsP.turn {w w' : World} {X : Nat → Prop} {ps : List Pr} {v : Value} (h : PsP X ps w v) (hs : Same X w w') : PsP X ps w' v := by
  obtain ⟨A, c, f, h1, h2, h3, h4, h5⟩ := h
  exact ⟨A, c, f, h1, h2, h3, h4.turn hs, fun i p hp => (h5 i p hp).turn hs⟩
theorem TsP.turn {w w' : World} {X : Nat → Prop} {ts : List Tr} {v : Value} (h : TsP X ts w v) (hs : Same X w w') : TsP X ts w' v := by
  obtain ⟨A, c, f, k, h1, h2, h3, h4, h5⟩ := h
  exact ⟨A, c, f, k, h1, h2, h3, h4.turn hs, fun i t ht => TrX.turn hs (h5 i t ht)⟩
theorem PsP.less {w : World} {X Y : Nat → Prop} {ps : List Pr} {v : Value} (h : PsP X ps w v) (hY : ∀ b, Y b → X b) : PsP Y ps w v := by
  obtain ⟨A, c, f, h1, h2, h3, h4, h5⟩ := h
  exact ⟨A, c, f, h1, h2, h3, h4.swap fun b hb _ => hY b hb, h5⟩
theorem TsP.less {w : World} {X Y : Nat → Prop} {ts : List Tr} {v : Value} (h : TsP X ts w v) (hY : ∀ b, Y b → X b) : TsP Y ts w v := by
  obtain ⟨A, c, f, k, h1, h2, h3, h4, h5⟩ := h
  exact ⟨A, c, f, k, h1, h2, h3, h4.swap fun b hb _ => hY b hb, fun i t ht => TrX.less hY (h5 i t ht)⟩
theorem TrX.parts : ∀ {w : World} {X : Nat → Prop} {n : Nat} {t : Tr} {s : ByteArray} {v1 v2 : Value}, TrX w X n t [.string s, v1, v2] → s = t.nm ∧ t.nm.size ≤ maxLen ∧ PsP X t.ps w v1 ∧ TsP X t.ks w v2
  | _, _, 0, _, _, _, _, h => h.elim
  | _, _, n + 1, t, _, _, _, ⟨h0, A1, c1, A2, c2, f, g, h1, h2, h3, h4, h5, h6, h7, h8, h9⟩ => by
    simp only [List.cons.injEq, Value.string.injEq, and_true] at h1
    obtain ⟨rfl, rfl, rfl⟩ := h1
    exact ⟨rfl, h0, ⟨A1, c1, f, rfl, h2, h3, h6, h8⟩, ⟨A2, c2, g, n, rfl, h4, h5, h7, h9⟩⟩
theorem OwnTs.nil (w : World) (X : Nat → Prop) (base : Nat) : OwnTs w X base [] (.slice none 0 0) := ⟨[], ⟨rfl, .inl ⟨rfl, rfl⟩⟩, [], rfl, trivial⟩
theorem TrX.one : ∀ {w : World} {X : Nat → Prop} {n : Nat} {t : Tr} {cs : List Value}, TrX w X n t cs → ∀ u ∈ cs, u.oneCell' = true
  | _, _, 0, _, _, h => h.elim
  | _, _, n + 1, _, _, ⟨_, _, _, _, _, _, _, e, _⟩ => by
    rw [e]
    intro u hu
    simp at hu
    rcases hu with rfl | rfl | rfl <;> rfl
theorem OwnTs.app {w : World} {X : Nat → Prop} {base : Nat} {ts : List Tr} {t : Tr} {v x : Value} (ty : TypeId) (h : OwnTs w X base ts v) (hbase : base ≤ w.heap.size) (hX : ∀ b, X b → b < base) (hx : TsP (fun b => X b ∨ v.ownBlock = some b) [t] w x) (hn : ts.length ≤ 1000000) :
    ∃ v' w' A c, (Builtin.append_ #[23, 23] ty #[v, x]).run Try.prog w = .ok v' w' ∧ OwnTs w' X base (ts ++ [t]) v' ∧ Below base w w' ∧ w.grownBy w' v.ownBlock ∧ v' = .slice A (ts ++ [t]).length c := by
  obtain ⟨xs, hown, css, rfl, hall⟩ := h
  obtain ⟨A, c, f, k, rfl, hc1, hc2, hrows, hel⟩ := hx
  obtain ⟨b, off, rfl, hxb, ⟨bcs, bfz, hbt⟩, hcell⟩ := hrows (by simp)
  have ht := hel 0 t rfl
  have hlen := ht.len
  obtain ⟨htt, ⟨i, z, hi, hz, hsize, hby, hzs⟩, hsz⟩ := tree_elem
  have hM : ts.length + 1 ≤ maxLen := by unfold maxLen; omega
  have hM2 : (ts.length + 1) * 64 ≤ 140737488355328 := by omega
  obtain ⟨v', w', hrun, hown', hgr, _, hloc⟩ := run_append_own_at (P := Try.prog) w base 23 ty 25 i z 3 64 htt hi hz hsize hby hzs hsz v ts.length css.flatten hown ⟨b, off, none⟩ 1 c (f 0) (by rw [hlen]) (fun j u hu => by
    have hj : j < 3 := by
      have := (List.getElem?_eq_some_iff.1 hu).1
      omega
    have h1 := hcell 0 (by simp) j hj
    rw [Nat.zero_mul, Nat.zero_add, hu] at h1
    rw [← h1]
    have e : ((⟨b, off, none⟩ : Addr).add j) = ⟨b, off + j, none⟩ := by cases j <;> simp [Addr.add]
    rw [e]) ht.one hM hM2 hbase
  have hsame : Same (fun b => X b ∨ v.ownBlock = some b) w w' := Same.grown hown (by decide) (fun g hg => .inr hg) hgr
  have hsw : ∀ g, (X g ∨ v'.ownBlock = some g) → g < w'.heap.size → (X g ∨ v.ownBlock = some g) ∨ w.heap.size ≤ g := by
    intro g hg _
    rcases hg with hg | hg
    · exact .inl (.inl hg)
    · rcases hloc with e | e
      · exact .inl (.inr (by rw [← e]; exact hg))
      · rw [e] at hg
        simp only [Option.some.injEq] at hg
        exact .inr (by omega)
  have turn : ∀ {k : Nat} {t : Tr} {cs : List Value}, TrX w (fun b => X b ∨ v.ownBlock = some b) k t cs → TrX w' (fun b => X b ∨ v'.ownBlock = some b) k t cs := by
    intro k t cs h
    have h1 : TrX w (fun b => (X b ∨ v.ownBlock = some b) ∨ w.heap.size ≤ b) k t cs := TrX.swap (fun b hb hlt => by
      rcases hb with hb | hb
      · exact hb
      · exact absurd hlt (by omega)) h
    have h2 := TrX.turn (X := fun b => (X b ∨ v.ownBlock = some b) ∨ w.heap.size ≤ b) ⟨hsame.size, fun b cs T fz hb hx => hsame.block b cs T fz hb (hx.imp_left fun hn h => hn (.inl h))⟩ h1
    exact TrX.swap hsw h2
  have hown2 : w'.ownsRow base 25 3 v' (ts ++ [t]).length (css.flatten ++ f 0) := by
    rw [List.length_append]
    exact hown'
  obtain ⟨A', c', hv', _, _⟩ := own_slice hown2
  refine ⟨v', w', A', c', hrun, ⟨css.flatten ++ f 0, hown2, css ++ [f 0], by simp, ?_⟩, (Below.refl base w).grown hgr hbase (fun k hk => (hown.lt k hk).1), hgr, hv'⟩
  exact AllIn.snoc ⟨k, turn ht⟩ (hall.mono fun _ _ ⟨k, h⟩ => ⟨k, turn h⟩)
theorem OwnTs.lt {w : World} {X : Nat → Prop} {base : Nat} {ts : List Tr} {v : Value} (h : OwnTs w X base ts v) {g : Nat} (hg : v.ownBlock = some g) : base ≤ g ∧ g < w.heap.size := by
  obtain ⟨xs, h1, _⟩ := h
  exact own_lt h1 hg
end Go.Proofs.Ytnkpaockginooaa
