/- Lists of properties and of nodes laid into a new block, and appended. -/
import Derived.Test.YtnkpaockginooaaVal
namespace Go.Proofs.Ytnkpaockginooaa
set_option linter.unusedVariables false
set_option linter.unusedSimpArgs false
open Go.RowKit Go.Sort

/-- Each in its cells. -/
def AllIn {α : Type} (R : α → List Value → Prop) : List α → List (List Value) → Prop
  | [], [] => True
  | a :: xa, c :: cs => R a c ∧ AllIn R xa cs
  | _, _ => False
theorem AllIn.at {α : Type} {R : α → List Value → Prop} : ∀ {xa : List α} {cs : List (List Value)}, AllIn R xa cs → xa.length = cs.length ∧ ∀ (i : Nat) (a : α), xa[i]? = some a → ∃ c, cs[i]? = some c ∧ R a c
  | [], [], _ => ⟨rfl, fun i a h => by simp at h⟩
  | a :: xa, c :: cs, ⟨h1, h2⟩ => by
    obtain ⟨h3, h4⟩ := AllIn.at h2
    refine ⟨by simp [h3], fun i b h => ?_⟩
    match i with
    | 0 =>
      obtain rfl : a = b := by simpa using h
      exact ⟨c, rfl, h1⟩
    | i + 1 => exact h4 i b (by simpa using h)
theorem AllIn.mono {α : Type} {R S : α → List Value → Prop} (hRS : ∀ a c, R a c → S a c) : ∀ {xa : List α} {cs : List (List Value)}, AllIn R xa cs → AllIn S xa cs
  | [], [], _ => trivial
  | a :: xa, c :: cs, ⟨h1, h2⟩ => ⟨hRS _ _ h1, AllIn.mono hRS h2⟩
theorem flatten_get {k : Nat} : ∀ (css : List (List Value)) (i j : Nat) (c : List Value), (∀ c ∈ css, c.length = k) → css[i]? = some c → j < k → css.flatten[i * k + j]? = c[j]?
  | [], i, j, c, _, h, _ => by simp at h
  | c0 :: css, 0, j, c, hl, h, hj => by
    obtain rfl : c0 = c := by simpa using h
    have := hl c0 (List.mem_cons_self ..)
    simp only [List.flatten_cons, Nat.zero_mul, Nat.zero_add]
    rw [List.getElem?_append_left (by omega)]
  | c0 :: css, i + 1, j, c, hl, h, hj => by
    have h0 := hl c0 (List.mem_cons_self ..)
    simp only [List.flatten_cons]
    rw [List.getElem?_append_right (by rw [Nat.succ_mul]; omega), show (i + 1) * k + j - c0.length = i * k + j by rw [Nat.succ_mul]; omega]
    exact flatten_get css i j c (fun c hc => hl c (List.mem_cons_of_mem _ hc)) (by simpa using h) hj
theorem AllIn.lens {α : Type} {R : α → List Value → Prop} {k : Nat} (hR : ∀ a c, R a c → c.length = k) : ∀ {xa : List α} {cs : List (List Value)}, AllIn R xa cs → ∀ c ∈ cs, c.length = k
  | [], [], _, c, h => by cases h
  | a :: xa, c :: cs, ⟨h1, h2⟩, x, h => by
    rcases List.mem_cons.1 h with rfl | h
    · exact hR _ _ h1
    · exact AllIn.lens hR h2 x h
section
variable {w : World} {X : Nat → Prop}
theorem trs_fuel : ∀ {ts : List Tr} {css : List (List Value)}, AllIn (fun t cs => ∃ k, TrX w X k t cs) ts css → ∃ k, AllIn (fun t cs => TrX w X k t cs) ts css
  | [], [], _ => ⟨0, trivial⟩
  | t :: ts, c :: cs, ⟨⟨k, h1⟩, h2⟩ => by
    obtain ⟨m, h3⟩ := trs_fuel h2
    exact ⟨max k m, h1.mono (Nat.le_max_left _ _), h3.mono fun _ _ h => h.mono (Nat.le_max_right _ _)⟩
/-- Rows in a new block. -/
theorem RowsX.block (w : World) (cs : Array Value) (css : List (List Value)) (e : TypeId) (k n b : Nat) (hb : b = w.heap.size) (hX : ∀ b, X b → b < w.heap.size) (hc : cs.toList = css.flatten) (hl : ∀ c ∈ css, c.length = k) (hn : css.length = n) :
    RowsX (w.alloc (.cells cs e)) X e k (some ⟨b, 0, none⟩) n (fun i => css.getD i []) := by
  refine RowsX.fresh w cs e k n _ b hb hX fun i hi j hj => ?_
  have hx : css[i]? = some (css.getD i []) := by
    rw [List.getD_eq_getElem?_getD, List.getElem?_eq_getElem (by omega)]
    rfl
  rw [← flatten_get css i j _ hl hx hj, ← hc]
  simp
theorem RowP.fresh {e : TypeId} {α : Type} {enc : α → List Value} {s : Nat} (w : World) (l : List α) (cs : Array Value) (n b : Nat) (hb : b = w.heap.size) (hc : cs.toList = l.flatMap enc) (hn : l.length = n) (hs : cs.size = n * s) (hm : n ≤ maxLen) :
    RowP e enc s l (w.alloc (.cells cs e)) (.slice (some ⟨b, 0, none⟩) n n) := by
  subst hn
  refine ⟨_, l.length, rfl, Nat.le_refl _, hm, ?_, fun _ => ⟨_, _, _, _, rfl, Blk.fresh w e cs hb⟩⟩
  rw [← hc]
  exact Rd.fresh w cs e l.length s b hs hb
theorem PsP.fresh (w : World) (ps : List Pr) (css : List (List Value)) (cs : Array Value) (b n : Nat) (h : AllIn (fun p c => PrX w p c) ps css) (hb : b = w.heap.size) (hc : cs.toList = css.flatten) (hn : ps.length = n) (hm : n ≤ maxLen) (hX : ∀ b, X b → b < w.heap.size) :
    PsP X ps (w.alloc (.cells cs 88)) (.slice (some ⟨b, 0, none⟩) n n) := by
  obtain ⟨hl, hat⟩ := h.at
  refine ⟨_, n, fun i => css.getD i [], by rw [hn], by omega, hm, by rw [hn]; exact RowsX.block w cs css 88 2 n b hb hX hc (h.lens fun _ _ h => h.len) (by omega), fun i p hp => ?_⟩
  obtain ⟨c, h1, h2⟩ := hat i p hp
  have e1 : css.getD i [] = c := by rw [List.getD_eq_getElem?_getD, h1]; rfl
  show PrX _ _ (css.getD i [])
  rw [e1]
  exact h2.kept (bal (Below.refl _ _) _)
theorem TsP.fresh (w : World) (ts : List Tr) (css : List (List Value)) (cs : Array Value) (b n : Nat) (h : AllIn (fun t c => ∃ k, TrX w X k t c) ts css) (hb : b = w.heap.size) (hc : cs.toList = css.flatten) (hn : ts.length = n) (hm : n ≤ maxLen) (hX : ∀ b, X b → b < w.heap.size) :
    TsP X ts (w.alloc (.cells cs 25)) (.slice (some ⟨b, 0, none⟩) n n) := by
  obtain ⟨k, h⟩ := trs_fuel h
  obtain ⟨hl, hat⟩ := h.at
  refine ⟨_, n, fun i => css.getD i [], k, by rw [hn], by omega, hm, by rw [hn]; exact RowsX.block w cs css 25 3 n b hb hX hc (h.lens fun _ _ h => h.len) (by omega), fun i p hp => ?_⟩
  obtain ⟨c, h1, h2⟩ := hat i p hp
  have e1 : css.getD i [] = c := by rw [List.getD_eq_getElem?_getD, h1]; rfl
  show TrX _ _ _ _ (css.getD i [])
  rw [e1]
  exact h2.kept (bal (Below.refl _ _) _)
theorem PrP.cells {p : Pr} {v : Value} (h : PrP p w v) : ∃ A c, v = .agg #[.string p.1, .slice A p.2.length c] ∧ PrX w p [.string p.1, .slice A p.2.length c] := by
  obtain ⟨cs, rfl, h⟩ := h
  obtain ⟨h1, h2, v, rfl, h3⟩ := id h
  obtain ⟨A, c, rfl, _⟩ := id h3
  exact ⟨A, c, rfl, h⟩
theorem TrP.cells {t : Tr} {v : Value} (h : TrP X t w v) : ∃ A c B d, v = .agg #[.string t.nm, .slice A t.ps.length c, .slice B t.ks.length d] ∧ ∃ k, TrX w X k t [.string t.nm, .slice A t.ps.length c, .slice B t.ks.length d] := by
  obtain ⟨cs, k, rfl, h⟩ := h
  match k, h with
  | k + 1, h =>
    obtain ⟨_, A, c, B, d, f, g, rfl, h3⟩ := id h
    exact ⟨A, c, B, d, rfl, k + 1, h⟩
/-- Rows of trees of the call's own: one more. -/
def OwnTs (w : World) (X : Nat → Prop) (base : Nat) (ts : List Tr) (v : Value) : Prop := ∃ xs : List Value, w.ownsRow base 25 3 v ts.length xs ∧ ∃ css, xs = css.flatten ∧ AllIn (fun t c => ∃ k, TrX w (fun b => X b ∨ v.ownBlock = some b) k t c) ts css
theorem info_tree3 : (Try.prog.info? 25).map (fun i => (i.zero, i.size, i.bytes)) = some (some (.agg #[.string ⟨#[]⟩, .slice none 0 0, .slice none 0 0]), 3, 64) := by kernel_rfl
theorem tree_elem : ElemInfo Try.prog 23 25 3 64 := by
  obtain ⟨i, hi, hz, hs, hb⟩ := info_parts info_tree3
  exact ⟨Try.underlying23, ⟨i, _, hi, hz, hs, hb, rfl⟩, by decide⟩
theorem AllIn.snoc {α : Type} {R : α → List Value → Prop} {a : α} {c : List Value} (hac : R a c) : ∀ {xa : List α} {cs : List (List Value)}, AllIn R xa cs → AllIn R (xa ++ [a]) (cs ++ [c])
  | [], [], _ => ⟨hac, trivial⟩
  | x :: xa, y :: cs, ⟨h1, h2⟩ => ⟨h1, AllIn.snoc hac h2⟩
theorem OwnTs.kept {w' : World} {base : Nat} {ts : List Tr} {v : Value} (h : OwnTs w X base ts v) (hb : Below w.heap.size w w') : OwnTs w' X base ts v := by
  obtain ⟨xs, h1, css, h2, h3⟩ := h
  exact ⟨xs, own_kept h1 hb, css, h2, h3.mono fun _ _ ⟨k, h⟩ => ⟨k, h.kept hb⟩⟩
theorem OwnTs.turn {w' : World} {base : Nat} {ts : List Tr} {v : Value} (h : OwnTs w X base ts v) (hs : Same X w w') (hv : ∀ g, v.ownBlock = some g → w'.heap[g]? = w.heap[g]?) : OwnTs w' X base ts v := by
  obtain ⟨xs, h1, css, h2, h3⟩ := h
  exact ⟨xs, own_same h1 hv, css, h2, h3.mono fun _ _ ⟨k, h⟩ => ⟨k, TrX.turn ⟨hs.size, fun b cs T fz hb hx => hs.block b cs T fz hb (hx.imp_left fun h h' => h (.inl h'))⟩ h⟩⟩
theorem OwnTs.ts {base : Nat} {ts : List Tr} {v : Value} (h : OwnTs w X base ts v) (hX : ∀ b, X b → b < base) : TsP X ts w v := by
  obtain ⟨xs, h1, css, rfl, h3⟩ := h
  have h3 := h3.mono (S := fun t c => ∃ k, TrX w X k t c) fun _ _ ⟨k, h⟩ => ⟨k, h.less fun b hb => .inl hb⟩
  obtain ⟨k, h3⟩ := trs_fuel h3
  obtain ⟨hl, hat⟩ := h3.at
  have hlen := h3.lens fun _ _ h => h.len
  have mk : ∀ A c, v = .slice A ts.length c → ts.length ≤ c → c ≤ maxLen → Rd w w.heap.size 3 A ts.length css.flatten → (∀ b o, A = some ⟨b, o, none⟩ → ¬ X b ∧ ∃ cs fz, w.heap[b]? = some (.cells cs 25 fz)) → TsP X ts w v := by
    intro A c hv hc hm hr hnx
    refine ⟨A, c, fun i => css.getD i [], k, hv, hc, hm, fun hn => ?_, fun i t ht => ?_⟩
    · obtain ⟨b, off, rfl, hb, hcell⟩ := hr.cells hn
      refine ⟨b, off, rfl, (hnx b off rfl).1, (hnx b off rfl).2, fun i hi j hj => ?_⟩
      have hx : css[i]? = some (css.getD i []) := by
        rw [List.getD_eq_getElem?_getD, List.getElem?_eq_getElem (by omega)]
        rfl
      rw [hcell _ (by
        have : (i + 1) * 3 ≤ ts.length * 3 := Nat.mul_le_mul_right _ (by omega)
        omega), flatten_get css i j _ hlen hx hj]
    · obtain ⟨c, e1, e2⟩ := hat i t ht
      have : css.getD i [] = c := by rw [List.getD_eq_getElem?_getD, e1]; rfl
      show TrX _ _ _ _ (css.getD i [])
      rw [this]
      exact e2
  rcases h1.2 with ⟨rfl, h0⟩ | ⟨g, cap, cur, rfl, hg, hh, hnc, hcm, hr⟩
  · have : ts = [] := List.eq_nil_of_length_eq_zero h0
    subst this
    exact TsP.nil 0 none (by simp [maxLen])
  · exact mk _ _ rfl hnc hcm (Rd.of_own h1) fun b o e => by
      injection e with e
      injection e with e
      subst e
      exact ⟨fun hx => by
        have := hX _ hx
        omega, _, _, hh⟩
/-- A node laid into the named result's block (or any other block of X). -/
theorem named_tree {w w1 : World} {B g : Nat} {t : Tr} {s0 s : ByteArray} {A0 A1 A A' : Option Addr} {n0 c0 n1 c1 n c n' c' : Nat} (hg : B ≤ g) (hc : Blk w1 g 25 #[.string s0, .slice A0 n0 c0, .slice A1 n1 c1]) (hX : X g)
    {k : Nat} (h : TrX w1 X k t [.string s, .slice A n c, .slice A' n' c']) (hb : Below B w w1) :
    Blk (((w1.setCell ⟨g, 0, none⟩ (.string s)).setCell ⟨g, 1, none⟩ (.slice A n c)).setCell ⟨g, 2, none⟩ (.slice A' n' c')) g 25 #[.string s, .slice A n c, .slice A' n' c'] ∧
      TrX (((w1.setCell ⟨g, 0, none⟩ (.string s)).setCell ⟨g, 1, none⟩ (.slice A n c)).setCell ⟨g, 2, none⟩ (.slice A' n' c')) X k t [.string s, .slice A n c, .slice A' n' c'] ∧
      Below B w (((w1.setCell ⟨g, 0, none⟩ (.string s)).setCell ⟨g, 1, none⟩ (.slice A n c)).setCell ⟨g, 2, none⟩ (.slice A' n' c')) := by
  have h1 := hc.set_ 0 (.string s)
  have h2 := h1.set_ 1 (.slice A n c)
  have h3 := h2.set_ 2 (.slice A' n' c')
  exact ⟨h3, TrX.turn (Same.set_in h2 (by decide) hX 2 _) (TrX.turn (Same.set_in h1 (by decide) hX 1 _) (TrX.turn (Same.set_in hc (by decide) hX 0 _) h)),
    ((hb.setCell (p := ⟨g, 0, none⟩) hg _).setCell (p := ⟨g, 1, none⟩) hg _).setCell (p := ⟨g, 2, none⟩) hg _⟩
end
end Go.Proofs.Ytnkpaockginooaa
