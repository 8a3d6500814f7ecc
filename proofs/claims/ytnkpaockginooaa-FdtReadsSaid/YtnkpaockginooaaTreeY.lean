/- Trees in memory whose properties' bytes lie in a row that is told apart (Q): the document's reader hands such out. -/
import Derived.Test.YtnkpaockginooaaOfC
namespace Go.Proofs.Ytnkpaockginooaa
set_option linter.unusedVariables false
set_option linter.unusedSimpArgs false
open Go.RowKit Go.Sort

abbrev QP := List Int → Option Addr → Prop
def PrY (Q : QP) (p : Pr) (cs : List Value) : Prop := p.1.size ≤ maxLen ∧ BytesOk p.2 ∧ ∃ A c, cs = [.string p.1, .slice A p.2.length c] ∧ p.2.length ≤ c ∧ c ≤ maxLen ∧ Q p.2 A
theorem PrY.len {Q : QP} {p : Pr} {cs : List Value} (h : PrY Q p cs) : cs.length = 2 := by
  obtain ⟨_, _, _, _, e, _⟩ := h
  rw [e]; rfl
section
variable {Q : QP} {w w' : World} {X Y : Nat → Prop}
def TrY (Q : QP) (w : World) (X : Nat → Prop) : Nat → Tr → List Value → Prop
  | 0, _, _ => False
  | n + 1, t, cs => t.nm.size ≤ maxLen ∧ ∃ (A1 : Option Addr) (c1 : Nat) (A2 : Option Addr) (c2 : Nat) (f g : Nat → List Value),
      cs = [.string t.nm, .slice A1 t.ps.length c1, .slice A2 t.ks.length c2] ∧ t.ps.length ≤ c1 ∧ c1 ≤ maxLen ∧ t.ks.length ≤ c2 ∧ c2 ≤ maxLen ∧ RowsX w X 88 2 A1 t.ps.length f ∧ RowsX w X 25 3 A2 t.ks.length g ∧
      (∀ i p, t.ps[i]? = some p → PrY Q p (f i)) ∧ (∀ i k, t.ks[i]? = some k → TrY Q w X n k (g i))
theorem TrY.turn (hs : Same X w w') : ∀ {n : Nat} {t : Tr} {cs : List Value}, TrY Q w X n t cs → TrY Q w' X n t cs
  | 0, _, _, h => h
  | n + 1, t, cs, ⟨h0, A1, c1, A2, c2, f, g, h1, h2, h3, h4, h5, h6, h7, h8, h9⟩ =>
    ⟨h0, A1, c1, A2, c2, f, g, h1, h2, h3, h4, h5, h6.turn hs, h7.turn hs, h8, fun i k hk => TrY.turn hs (h9 i k hk)⟩
theorem TrY.ok (hQ : ∀ p cs, PrY Q p cs → PrOk w w.heap.size p cs) : ∀ {n : Nat} {t : Tr} {cs : List Value}, TrY Q w X n t cs → TrOk w w.heap.size n t cs
  | 0, _, _, h => h
  | n + 1, t, cs, ⟨h0, A1, c1, A2, c2, f, g, h1, h2, h3, h4, h5, h6, h7, h8, h9⟩ =>
    ⟨h0, A1, c1, A2, c2, f, g, h1, h2, h3, h4, h5, h6.at, h7.at, fun i p hp => hQ _ _ (h8 i p hp), fun i k hk => TrY.ok hQ (h9 i k hk)⟩
theorem TrY.mono : ∀ {n m : Nat} {t : Tr} {cs : List Value}, TrY Q w X n t cs → n ≤ m → TrY Q w X m t cs
  | 0, _, _, _, h, _ => h.elim
  | n + 1, 0, _, _, _, hm => absurd hm (by omega)
  | n + 1, m + 1, t, cs, ⟨h0, A1, c1, A2, c2, f, g, h1, h2, h3, h4, h5, h6, h7, h8, h9⟩, hm =>
    ⟨h0, A1, c1, A2, c2, f, g, h1, h2, h3, h4, h5, h6, h7, h8, fun i k hk => TrY.mono (h9 i k hk) (by omega)⟩
theorem TrY.len : ∀ {n : Nat} {t : Tr} {cs : List Value}, TrY Q w X n t cs → cs.length = 3
  | 0, _, _, h => h.elim
  | n + 1, _, _, ⟨_, _, _, _, _, _, _, e, _⟩ => by rw [e]; rfl
theorem TrY.swap (hY : ∀ b, Y b → b < w.heap.size → X b) : ∀ {n : Nat} {t : Tr} {cs : List Value}, TrY Q w X n t cs → TrY Q w Y n t cs
  | 0, _, _, h => h
  | n + 1, t, cs, ⟨h0, A1, c1, A2, c2, f, g, h1, h2, h3, h4, h5, h6, h7, h8, h9⟩ =>
    ⟨h0, A1, c1, A2, c2, f, g, h1, h2, h3, h4, h5, h6.swap hY, h7.swap hY, h8, fun i k hk => TrY.swap hY (h9 i k hk)⟩
theorem TrY.less (hY : ∀ b, Y b → X b) {n : Nat} {t : Tr} {cs : List Value} (h : TrY Q w X n t cs) : TrY Q w Y n t cs := TrY.swap (fun b hb _ => hY b hb) h
def TrPY (Q : QP) (X : Nat → Prop) (t : Tr) (w : World) (v : Value) : Prop := ∃ cs k, v = .agg cs.toArray ∧ TrY Q w X k t cs
def PsPY (Q : QP) (X : Nat → Prop) (ps : List Pr) (w : World) (v : Value) : Prop := ∃ A c f, v = .slice A ps.length c ∧ ps.length ≤ c ∧ c ≤ maxLen ∧ RowsX w X 88 2 A ps.length f ∧ ∀ i p, ps[i]? = some p → PrY Q p (f i)
def TsPY (Q : QP) (X : Nat → Prop) (ts : List Tr) (w : World) (v : Value) : Prop := ∃ A c f k, v = .slice A ts.length c ∧ ts.length ≤ c ∧ c ≤ maxLen ∧ RowsX w X 25 3 A ts.length f ∧ ∀ i t, ts[i]? = some t → TrY Q w X k t (f i)
theorem TrPY.mk {nm : ByteArray} {ps : List Pr} {ts : List Tr} {v1 v2 : Value} (hnm : nm.size ≤ maxLen) (h1 : PsPY Q X ps w v1) (h2 : TsPY Q X ts w v2) : TrPY Q X (.mk nm ps ts) w (.agg #[.string nm, v1, v2]) := by
  obtain ⟨A, c, f, rfl, a1, a2, a3, a4⟩ := h1
  obtain ⟨B, d, g, k, rfl, b1, b2, b3, b4⟩ := h2
  exact ⟨[.string nm, .slice A ps.length c, .slice B ts.length d], k + 1, rfl, hnm, A, c, B, d, f, g, rfl, a1, a2, b1, b2, a3, b3, a4, b4⟩
theorem PsPY.nil (c : Nat) (A : Option Addr) (hc : c ≤ maxLen) : PsPY Q X [] w (.slice A 0 c) := ⟨A, c, fun _ => [], rfl, Nat.zero_le _, hc, fun h => absurd h (by simp), fun i p h => by simp at h⟩
theorem TsPY.nil (c : Nat) (A : Option Addr) (hc : c ≤ maxLen) : TsPY Q X [] w (.slice A 0 c) := ⟨A, c, fun _ => [], 0, rfl, Nat.zero_le _, hc, fun h => absurd h (by simp), fun i p h => by simp at h⟩
theorem trs_fuelY : ∀ {ts : List Tr} {css : List (List Value)}, AllIn (fun t cs => ∃ k, TrY Q w X k t cs) ts css → ∃ k, AllIn (fun t cs => TrY Q w X k t cs) ts css
  | [], [], _ => ⟨0, trivial⟩
  | t :: ts, c :: cs, ⟨⟨k, h1⟩, h2⟩ => by
    obtain ⟨m, h3⟩ := trs_fuelY h2
    exact ⟨max k m, h1.mono (Nat.le_max_left _ _), h3.mono fun _ _ h => h.mono (Nat.le_max_right _ _)⟩
theorem PsPY.fresh (w : World) (ps : List Pr) (css : List (List Value)) (cs : Array Value) (b n : Nat) (h : AllIn (fun p c => PrY Q p c) ps css) (hb : b = w.heap.size) (hc : cs.toList = css.flatten) (hn : ps.length = n) (hm : n ≤ maxLen) (hX : ∀ b, X b → b < w.heap.size) :
    PsPY Q X ps (w.alloc (.cells cs 88)) (.slice (some ⟨b, 0, none⟩) n n) := by
  obtain ⟨hl, hat⟩ := h.at
  refine ⟨_, n, fun i => css.getD i [], by rw [hn], by omega, hm, by rw [hn]; exact RowsX.block w cs css 88 2 n b hb hX hc (h.lens fun _ _ h => h.len) (by omega), fun i p hp => ?_⟩
  obtain ⟨c, h1, h2⟩ := hat i p hp
  have e1 : css.getD i [] = c := by rw [List.getD_eq_getElem?_getD, h1]; rfl
  show PrY Q p (css.getD i [])
  rw [e1]
  exact h2
theorem TsPY.fresh (w : World) (ts : List Tr) (css : List (List Value)) (cs : Array Value) (b n : Nat) (h : AllIn (fun t c => ∃ k, TrY Q w X k t c) ts css) (hb : b = w.heap.size) (hc : cs.toList = css.flatten) (hn : ts.length = n) (hm : n ≤ maxLen) (hX : ∀ b, X b → b < w.heap.size) :
    TsPY Q X ts (w.alloc (.cells cs 25)) (.slice (some ⟨b, 0, none⟩) n n) := by
  obtain ⟨k, h⟩ := trs_fuelY h
  obtain ⟨hl, hat⟩ := h.at
  refine ⟨_, n, fun i => css.getD i [], k, by rw [hn], by omega, hm, by rw [hn]; exact RowsX.block w cs css 25 3 n b hb hX hc (h.lens fun _ _ h => h.len) (by omega), fun i p hp => ?_⟩
  obtain ⟨c, h1, h2⟩ := hat i p hp
  have e1 : css.getD i [] = c := by rw [List.getD_eq_getElem?_getD, h1]; rfl
  show TrY Q _ _ _ _ (css.getD i [])
  rw [e1]
  exact TrY.turn (Same.of_below (X := X) (bal (Below.refl _ _) _)) h2
def OwnTsY (Q : QP) (w : World) (X : Nat → Prop) (base : Nat) (ts : List Tr) (v : Value) : Prop := ∃ xs : List Value, w.ownsRow base 25 3 v ts.length xs ∧ ∃ css, xs = css.flatten ∧ AllIn (fun t c => ∃ k, TrY Q w (fun b => X b ∨ v.ownBlock = some b) k t c) ts css
theorem OwnTsY.turn {w' : World} {base : Nat} {ts : List Tr} {v : Value} (h : OwnTsY Q w X base ts v) (hs : Same X w w') (hv : ∀ g, v.ownBlock = some g → w'.heap[g]? = w.heap[g]?) : OwnTsY Q w' X base ts v := by
  obtain ⟨xs, h1, css, h2, h3⟩ := h
  exact ⟨xs, own_same h1 hv, css, h2, h3.mono fun _ _ ⟨k, h⟩ => ⟨k, TrY.turn ⟨hs.size, fun b cs T fz hb hx => hs.block b cs T fz hb (hx.imp_left fun h h' => h (.inl h'))⟩ h⟩⟩
theorem OwnTsY.ts {base : Nat} {ts : List Tr} {v : Value} (h : OwnTsY Q w X base ts v) (hX : ∀ b, X b → b < base) : TsPY Q X ts w v := by
  obtain ⟨xs, h1, css, rfl, h3⟩ := h
  have h3 := h3.mono (S := fun t c => ∃ k, TrY Q w X k t c) fun _ _ ⟨k, h⟩ => ⟨k, h.less fun b hb => .inl hb⟩
  obtain ⟨k, h3⟩ := trs_fuelY h3
  obtain ⟨hl, hat⟩ := h3.at
  have hlen := h3.lens fun _ _ h => h.len
  have mk : ∀ A c, v = .slice A ts.length c → ts.length ≤ c → c ≤ maxLen → Rd w w.heap.size 3 A ts.length css.flatten → (∀ b o, A = some ⟨b, o, none⟩ → ¬ X b ∧ ∃ cs fz, w.heap[b]? = some (.cells cs 25 fz)) → TsPY Q X ts w v := by
    intro A c hv hc hm hr hnx
    refine ⟨A, c, fun i => css.getD i [], k, hv, hc, hm, fun hn => ?_, fun i t ht => ?_⟩
    · obtain ⟨b, off, rfl, hb, hcell⟩ := hr.cells hn
      refine ⟨b, off, rfl, (hnx b off rfl).1, (hnx b off rfl).2, fun i hi j hj => ?_⟩
      have hx : css[i]? = some (css.getD i []) := by
        rw [List.getD_eq_getElem?_getD, List.getElem?_eq_getElem (by omega)]
        rfl
      rw [hcell _ (by
        have : (i + 1) * 3 ≤ ts.length * 3 := Nat.mul_le_mul_right _ (by omega)
        omega), flatten_get css i j _ hlen hx hj]
    · obtain ⟨c, e1, e2⟩ := hat i t ht
      have : css.getD i [] = c := by rw [List.getD_eq_getElem?_getD, e1]; rfl
      show TrY Q _ _ _ _ (css.getD i [])
      rw [this]
      exact e2
  rcases h1.2 with ⟨rfl, h0⟩ | ⟨g, cap, cur, rfl, hg, hh, hnc, hcm, hr⟩
  · have : ts = [] := List.eq_nil_of_length_eq_zero h0
    subst this
    exact TsPY.nil 0 none (by simp [maxLen])
  · exact mk _ _ rfl hnc hcm (Rd.of_own h1) fun b o e => by
      injection e with e
      injection e with e
      subst e
      exact ⟨fun hx => by
        have := hX _ hx
        omega, _, _, hh⟩
theorem named_treeY {w w1 : World} {B g : Nat} {t : Tr} {s0 s : ByteArray} {A0 A1 A A' : Option Addr} {n0 c0 n1 c1 n c n' c' : Nat} (hg : B ≤ g) (hc : Blk w1 g 25 #[.string s0, .slice A0 n0 c0, .slice A1 n1 c1]) (hX : X g)
    {k : Nat} (h : TrY Q w1 X k t [.string s, .slice A n c, .slice A' n' c']) (hb : Below B w w1) :
    Blk (((w1.setCell ⟨g, 0, none⟩ (.string s)).setCell ⟨g, 1, none⟩ (.slice A n c)).setCell ⟨g, 2, none⟩ (.slice A' n' c')) g 25 #[.string s, .slice A n c, .slice A' n' c'] ∧
      TrY Q (((w1.setCell ⟨g, 0, none⟩ (.string s)).setCell ⟨g, 1, none⟩ (.slice A n c)).setCell ⟨g, 2, none⟩ (.slice A' n' c')) X k t [.string s, .slice A n c, .slice A' n' c'] ∧
      Below B w (((w1.setCell ⟨g, 0, none⟩ (.string s)).setCell ⟨g, 1, none⟩ (.slice A n c)).setCell ⟨g, 2, none⟩ (.slice A' n' c')) := by
  have h1 := hc.set_ 0 (.string s)
  have h2 := h1.set_ 1 (.slice A n c)
  have h3 := h2.set_ 2 (.slice A' n' c')
  exact ⟨h3, TrY.turn (Same.set_in h2 (by decide) hX 2 _) (TrY.turn (Same.set_in h1 (by decide) hX 1 _) (TrY.turn (Same.set_in hc (by decide) hX 0 _) h)),
    ((hb.setCell (p := ⟨g, 0, none⟩) hg _).setCell (p := ⟨g, 1, none⟩) hg _).setCell (p := ⟨g, 2, none⟩) hg _⟩
def PsVY (Q : QP) (X : Nat → Prop) (ps : List Pr) : SP := ⟨PsPY Q X ps, fun ⟨A, c, f, h1, h2, h3, h4, h5⟩ hb => ⟨A, c, f, h1, h2, h3, h4.turn (Same.of_turn hb), h5⟩⟩
theorem PsPY.turn {w w' : World} {X : Nat → Prop} {ps : List Pr} {v : Value} (h : PsPY Q X ps w v) (hs : Same X w w') : PsPY Q X ps w' v := by
  obtain ⟨A, c, f, h1, h2, h3, h4, h5⟩ := h
  exact ⟨A, c, f, h1, h2, h3, h4.turn hs, h5⟩
theorem TsPY.turn {w w' : World} {X : Nat → Prop} {ts : List Tr} {v : Value} (h : TsPY Q X ts w v) (hs : Same X w w') : TsPY Q X ts w' v := by
  obtain ⟨A, c, f, k, h1, h2, h3, h4, h5⟩ := h
  exact ⟨A, c, f, k, h1, h2, h3, h4.turn hs, fun i t ht => TrY.turn hs (h5 i t ht)⟩
theorem PsPY.less {w : World} {X Y : Nat → Prop} {ps : List Pr} {v : Value} (h : PsPY Q X ps w v) (hY : ∀ b, Y b → X b) : PsPY Q Y ps w v := by
  obtain ⟨A, c, f, h1, h2, h3, h4, h5⟩ := h
  exact ⟨A, c, f, h1, h2, h3, h4.swap fun b hb _ => hY b hb, h5⟩
theorem TsPY.less {w : World} {X Y : Nat → Prop} {ts : List Tr} {v : Value} (h : TsPY Q X ts w v) (hY : ∀ b, Y b → X b) : TsPY Q Y ts w v := by
  obtain ⟨A, c, f, k, h1, h2, h3, h4, h5⟩ := h
  exact ⟨A, c, f, k, h1, h2, h3, h4.swap fun b hb _ => hY b hb, fun i t ht => TrY.less hY (h5 i t ht)⟩
theorem TrY.parts : ∀ {w : World} {X : Nat → Prop} {n : Nat} {t : Tr} {s : ByteArray} {v1 v2 : Value}, TrY Q w X n t [.string s, v1, v2] → s = t.nm ∧ t.nm.size ≤ maxLen ∧ PsPY Q X t.ps w v1 ∧ TsPY Q X t.ks w v2
  | _, _, 0, _, _, _, _, h => h.elim
  | _, _, n + 1, t, _, _, _, ⟨h0, A1, c1, A2, c2, f, g, h1, h2, h3, h4, h5, h6, h7, h8, h9⟩ => by
    simp only [List.cons.injEq, Value.string.injEq, and_true] at h1
    obtain ⟨rfl, rfl, rfl⟩ := h1
    exact ⟨rfl, h0, ⟨A1, c1, f, rfl, h2, h3, h6, h8⟩, ⟨A2, c2, g, n, rfl, h4, h5, h7, h9⟩⟩
theorem OwnTsY.nil (w : World) (X : Nat → Prop) (base : Nat) : OwnTsY Q w X base [] (.slice none 0 0) := ⟨[], ⟨rfl, .inl ⟨rfl, rfl⟩⟩, [], rfl, trivial⟩
theorem TrY.one : ∀ {w : World} {X : Nat → Prop} {n : Nat} {t : Tr} {cs : List Value}, TrY Q w X n t cs → ∀ u ∈ cs, u.oneCell' = true
  | _, _, 0, _, _, h => h.elim
  | _, _, n + 1, _, _, ⟨_, _, _, _, _, _, _, e, _⟩ => by
    rw [e]
    intro u hu
    simp at hu
    rcases hu with rfl | rfl | rfl <;> rfl
theorem OwnTsY.lt {w : World} {X : Nat → Prop} {base : Nat} {ts : List Tr} {v : Value} (h : OwnTsY Q w X base ts v) {g : Nat} (hg : v.ownBlock = some g) : base ≤ g ∧ g < w.heap.size := by
  obtain ⟨xs, h1, _⟩ := h
  exact own_lt h1 hg
def OwnPsY (Q : QP) (w : World) (base : Nat) (ps : List Pr) (v : Value) : Prop := ∃ css : List (List Value), w.ownsRow base 88 2 v ps.length css.flatten ∧ AllIn (fun p c => PrY Q p c) ps css
theorem OwnPsY.nil (w : World) (base : Nat) : OwnPsY Q w base [] (.slice none 0 0) := ⟨[], ⟨rfl, .inl ⟨rfl, rfl⟩⟩, trivial⟩
theorem OwnPsY.turn {w w' : World} {X : Nat → Prop} {base : Nat} {ps : List Pr} {v : Value} (h : OwnPsY Q w base ps v) (hs : Same X w w') (hv : ∀ g, v.ownBlock = some g → w'.heap[g]? = w.heap[g]?) : OwnPsY Q w' base ps v := by
  obtain ⟨css, h1, h3⟩ := h
  exact ⟨css, own_same h1 hv, h3⟩
theorem OwnPsY.lt {w : World} {base : Nat} {ps : List Pr} {v : Value} (h : OwnPsY Q w base ps v) {g : Nat} (hg : v.ownBlock = some g) : base ≤ g ∧ g < w.heap.size := by
  obtain ⟨css, h1, _⟩ := h
  exact own_lt h1 hg
theorem OwnPsY.ps {w : World} {X : Nat → Prop} {base : Nat} {ps : List Pr} {v : Value} (h : OwnPsY Q w base ps v) (hX : ∀ b, X b → b < base) : PsPY Q X ps w v := by
  obtain ⟨css, h1, h3⟩ := h
  obtain ⟨hl, hat⟩ := h3.at
  have hlen := h3.lens fun _ _ h => h.len
  have mk : ∀ A c, v = .slice A ps.length c → ps.length ≤ c → c ≤ maxLen → Rd w w.heap.size 2 A ps.length css.flatten → (∀ b o, A = some ⟨b, o, none⟩ → ¬ X b ∧ ∃ cs fz, w.heap[b]? = some (.cells cs 88 fz)) → PsPY Q X ps w v := by
    intro A c hv hc hm hr hnx
    refine ⟨A, c, fun i => css.getD i [], hv, hc, hm, fun hn => ?_, fun i t ht => ?_⟩
    · obtain ⟨b, off, rfl, hb, hcell⟩ := hr.cells hn
      refine ⟨b, off, rfl, (hnx b off rfl).1, (hnx b off rfl).2, fun i hi j hj => ?_⟩
      have hx : css[i]? = some (css.getD i []) := by
        rw [List.getD_eq_getElem?_getD, List.getElem?_eq_getElem (by omega)]
        rfl
      rw [hcell _ (by
        have : (i + 1) * 2 ≤ ps.length * 2 := Nat.mul_le_mul_right _ (by omega)
        omega), flatten_get css i j _ hlen hx hj]
    · obtain ⟨c, e1, e2⟩ := hat i t ht
      have : css.getD i [] = c := by rw [List.getD_eq_getElem?_getD, e1]; rfl
      show PrY Q _ (css.getD i [])
      rw [this]
      exact e2
  rcases h1.2 with ⟨rfl, h0⟩ | ⟨g, cap, cur, rfl, hg, hh, hnc, hcm, hr⟩
  · have : ps = [] := List.eq_nil_of_length_eq_zero h0
    subst this
    exact PsPY.nil 0 none (by simp [maxLen])
  · exact mk _ _ rfl hnc hcm (Rd.of_own h1) fun b o e => by
      injection e with e
      injection e with e
      subst e
      exact ⟨fun hx => by
        have := hX _ hx
        omega, _, _, hh⟩
theorem OwnPsY.app {w : World} {base : Nat} {ps : List Pr} {p : Pr} {v x : Value} (ty : TypeId) (h : OwnPsY Q w base ps v) (hbase : base ≤ w.heap.size) (hx : PsPY Q (fun b => v.ownBlock = some b) [p] w x) (hn : ps.length ≤ 1000000) :
    ∃ v' w' A c', (Builtin.append_ #[22, 22] ty #[v, x]).run Try.prog w = .ok v' w' ∧ OwnPsY Q w' base (ps ++ [p]) v' ∧ Below base w w' ∧ w.grownBy w' v.ownBlock ∧ v' = .slice A (ps ++ [p]).length c' ∧ (v'.ownBlock = v.ownBlock ∨ v'.ownBlock = some w.heap.size) := by
  obtain ⟨css, hown, hall⟩ := h
  obtain ⟨A, c, f, rfl, hc1, hc2, hrows, hel⟩ := hx
  obtain ⟨b, off, rfl, hxb, ⟨bcs, bfz, hbt⟩, hcell⟩ := hrows (by simp)
  have hpr := hel 0 p rfl
  obtain ⟨htt, ⟨i, z, hi, hz, hsize, hby, hzs⟩, hsz⟩ := prop_elem
  have hM : ps.length + 1 ≤ maxLen := by unfold maxLen; omega
  have hM2 : (ps.length + 1) * 40 ≤ 140737488355328 := by omega
  obtain ⟨v', w', hrun, hown', hgr, _, hloc⟩ := run_append_own_at (P := Try.prog) w base 22 ty 88 i z 2 40 htt hi hz hsize hby hzs hsz v ps.length css.flatten hown ⟨b, off, none⟩ 1 c (f 0) (by rw [hpr.len]) (fun j u hu => by
    have hj : j < 2 := by
      have := (List.getElem?_eq_some_iff.1 hu).1
      have := hpr.len
      omega
    have h1 := hcell 0 (by simp) j hj
    rw [Nat.zero_mul, Nat.zero_add, hu] at h1
    rw [← h1]
    have e : ((⟨b, off, none⟩ : Addr).add j) = ⟨b, off + j, none⟩ := by cases j <;> simp [Addr.add]
    rw [e]) (by
      obtain ⟨_, _, A0, c0, e, _⟩ := hpr
      intro u hu
      rw [e] at hu
      simp at hu
      rcases hu with rfl | rfl <;> rfl) hM hM2 hbase
  have hsame : Same (fun b => v.ownBlock = some b) w w' := Same.grown hown (by decide) (fun g hg => hg) hgr
  have hown2 : w'.ownsRow base 88 2 v' (ps ++ [p]).length (css ++ [f 0]).flatten := by
    rw [List.length_append]
    simpa using hown'
  obtain ⟨A', c', hv', _, _⟩ := own_slice hown2
  exact ⟨v', w', A', c', hrun, ⟨css ++ [f 0], hown2, AllIn.snoc hpr hall⟩, (Below.refl base w).grown hgr hbase (fun k hk => (hown.lt k hk).1), hgr, hv', hloc⟩
theorem OwnTsY.app2 {w : World} {X : Nat → Prop} {base : Nat} {ts : List Tr} {t : Tr} {v x : Value} (ty : TypeId) (h : OwnTsY Q w X base ts v) (hbase : base ≤ w.heap.size) (hx : TsPY Q (fun b => X b ∨ v.ownBlock = some b) [t] w x) (hn : ts.length ≤ 1000000) :
    ∃ v' w' A c, (Builtin.append_ #[23, 23] ty #[v, x]).run Try.prog w = .ok v' w' ∧ OwnTsY Q w' X base (ts ++ [t]) v' ∧ Below base w w' ∧ w.grownBy w' v.ownBlock ∧ v' = .slice A (ts ++ [t]).length c := by
  obtain ⟨xs, hown, css, rfl, hall⟩ := h
  obtain ⟨A, c, f, k, rfl, hc1, hc2, hrows, hel⟩ := hx
  obtain ⟨b, off, rfl, hxb, ⟨bcs, bfz, hbt⟩, hcell⟩ := hrows (by simp)
  have ht := hel 0 t rfl
  have hlen := ht.len
  obtain ⟨htt, ⟨i, z, hi, hz, hsize, hby, hzs⟩, hsz⟩ := tree_elem
  have hM : ts.length + 1 ≤ maxLen := by unfold maxLen; omega
  have hM2 : (ts.length + 1) * 64 ≤ 140737488355328 := by omega
  obtain ⟨v', w', hrun, hown', hgr, _, hloc⟩ := run_append_own_at (P := Try.prog) w base 23 ty 25 i z 3 64 htt hi hz hsize hby hzs hsz v ts.length css.flatten hown ⟨b, off, none⟩ 1 c (f 0) (by rw [hlen]) (fun j u hu => by
    have hj : j < 3 := by
      have := (List.getElem?_eq_some_iff.1 hu).1
      omega
    have h1 := hcell 0 (by simp) j hj
    rw [Nat.zero_mul, Nat.zero_add, hu] at h1
    rw [← h1]
    have e : ((⟨b, off, none⟩ : Addr).add j) = ⟨b, off + j, none⟩ := by cases j <;> simp [Addr.add]
    rw [e]) ht.one hM hM2 hbase
  have hsame : Same (fun b => X b ∨ v.ownBlock = some b) w w' := Same.grown hown (by decide) (fun g hg => .inr hg) hgr
  have hsw : ∀ g, (X g ∨ v'.ownBlock = some g) → g < w'.heap.size → (X g ∨ v.ownBlock = some g) ∨ w.heap.size ≤ g := by
    intro g hg _
    rcases hg with hg | hg
    · exact .inl (.inl hg)
    · rcases hloc with e | e
      · exact .inl (.inr (by rw [← e]; exact hg))
      · rw [e] at hg
        simp only [Option.some.injEq] at hg
        exact .inr (by omega)
  have turn : ∀ {k : Nat} {t : Tr} {cs : List Value}, TrY Q w (fun b => X b ∨ v.ownBlock = some b) k t cs → TrY Q w' (fun b => X b ∨ v'.ownBlock = some b) k t cs := by
    intro k t cs h
    have h1 : TrY Q w (fun b => (X b ∨ v.ownBlock = some b) ∨ w.heap.size ≤ b) k t cs := TrY.swap (fun b hb hlt => by
      rcases hb with hb | hb
      · exact hb
      · exact absurd hlt (by omega)) h
    have h2 := TrY.turn (X := fun b => (X b ∨ v.ownBlock = some b) ∨ w.heap.size ≤ b) ⟨hsame.size, fun b cs T fz hb hx => hsame.block b cs T fz hb (hx.imp_left fun hn h => hn (.inl h))⟩ h1
    exact TrY.swap hsw h2
  have hown2 : w'.ownsRow base 25 3 v' (ts ++ [t]).length (css.flatten ++ f 0) := by
    rw [List.length_append]
    exact hown'
  obtain ⟨A', c', hv', _, _⟩ := own_slice hown2
  refine ⟨v', w', A', c', hrun, ⟨css.flatten ++ f 0, hown2, css ++ [f 0], by simp, ?_⟩, (Below.refl base w).grown hgr hbase (fun k hk => (hown.lt k hk).1), hgr, hv'⟩
  exact AllIn.snoc ⟨k, turn ht⟩ (hall.mono fun _ _ ⟨k, h⟩ => ⟨k, turn h⟩)
theorem OwnTsY.beside {w w' : World} {X X' : Nat → Prop} {base : Nat} {ts : List Tr} {v : Value} (h : OwnTsY Q w X base ts v) (hs : Same X w w') (hv : ∀ g, v.ownBlock = some g → w'.heap[g]? = w.heap[g]?) (hX : ∀ i, X' i → X i ∨ w.heap.size ≤ i) : OwnTsY Q w' X' base ts v := by
  obtain ⟨xs, h1, css, h2, h3⟩ := h
  refine ⟨xs, own_same h1 hv, css, h2, h3.mono fun _ _ ⟨k, h⟩ => ⟨k, ?_⟩⟩
  have a1 : TrY Q w (fun b => (X b ∨ v.ownBlock = some b) ∨ w.heap.size ≤ b) k _ _ := TrY.swap (fun b hb hlt => by
    rcases hb with hb | hb
    · exact hb
    · exact absurd hlt (by omega)) h
  have a2 := TrY.turn (X := fun b => (X b ∨ v.ownBlock = some b) ∨ w.heap.size ≤ b) ⟨hs.size, fun b cs T fz hb hx => hs.block b cs T fz hb (hx.imp_left fun hn h => hn (.inl (.inl h)))⟩ a1
  exact a2.less fun b hb => by
    rcases hb with hb | hb
    · rcases hX b hb with h | h
      · exact .inl (.inl h)
      · exact .inr h
    · exact .inl (.inr hb)
theorem OwnTsY.less {w : World} {X Y : Nat → Prop} {base : Nat} {ts : List Tr} {v : Value} (h : OwnTsY Q w X base ts v) (hY : ∀ b, Y b → X b) : OwnTsY Q w Y base ts v := by
  obtain ⟨xs, h1, css, h2, h3⟩ := h
  exact ⟨xs, h1, css, h2, h3.mono fun _ _ ⟨k, h⟩ => ⟨k, h.less fun b hb => hb.imp_left (hY b)⟩⟩
end
end Go.Proofs.Ytnkpaockginooaa
