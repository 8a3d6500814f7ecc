/- The writer's numbers and bytes; what a tree's bytes are at most. -/
import Derived.Test.YtnkpaockginooaaPutB
namespace Go.Proofs.Ytnkpaockginooaa
set_option linter.unusedVariables false
set_option linter.unusedSimpArgs false
open Go.RowKit Go.Sort Go.Maps Go.WideShapes Go.ChangeShapes

/-- The writer, its bytes in a block at bb or behind, all else of it below. -/
def WStB (w : World) (S : Nat → Prop) (g mb : Nat) (st : WS) (bb : Nat) : Prop := ∃ vb vx D,
  Blk w g 70 #[vb, vx, .map (some mb)] ∧ w.ownsRow bb 5 1 vb st.b.length (st.b.flatMap encB) ∧ OwnS w S 5 1 vx st.x.length (st.x.flatMap encB) ∧
  w.ownsMap Try.prog 9 (plainElem Try.prog 44) mb st.n.length D ∧ MapRel D st.n ∧ S g ∧ S mb ∧ (∀ i, S i → i < bb) ∧ bb ≤ w.heap.size
theorem WStB.kept {w w' : World} {S : Nat → Prop} {g mb bb : Nat} {st : WS} (h : WStB w S g mb st bb) (hb : Below w.heap.size w w') : WStB w' S g mb st bb := by
  obtain ⟨vb, vx, D, h1, h2, h3, h5, h6, h7, h8, h9, h10⟩ := h
  exact ⟨vb, vx, D, h1.kept hb, own_kept h2 hb, h3.kept hb, map_kept h5 hb, h6, h7, h8, h9, Nat.le_trans h10 hb.size⟩
theorem WStB.st {w : World} {S : Nat → Prop} {g mb bb : Nat} {st : WS} (h : WStB w S g mb st bb) : WSt w (fun i => (S i ∨ bb ≤ i) ∧ i < w.heap.size) g mb st := by
  obtain ⟨vb, vx, D, h1, h2, h3, h5, h6, h7, h8, h9, h10⟩ := h
  refine ⟨vb, vx, D, h1, ⟨(OwnS.of (S := fun _ => True) h2 (fun _ _ => trivial)).1, fun k hk => ⟨.inr (own_lt h2 hk).1, (own_lt h2 hk).2⟩⟩, ⟨h3.1, fun k hk => ⟨.inl (h3.2 k hk), (own_lt h3.1 hk).2⟩⟩, fun i hi e => ?_, h5, h6, ⟨.inl h7, h1.lt⟩, ⟨.inl h8, h5.lt⟩, fun i hi => hi.2⟩
  have a := (own_lt h2 hi).1
  have b := h9 i (h3.2 i e)
  omega
theorem wfour_any (g mb : Nat) (st : WS) (S : Nat → Prop) (A2 : Option Addr) (n2 c2 : Nat) (l : List Int) (w : World) (hw : WSt w S g mb st) (hl2 : l.length = n2) (hm : st.b.length ≤ 100000000) (hm2 : n2 ≤ 100000000) (hx : ∀ x ∈ l, 0 ≤ x ∧ x < 4294967296) (hr2 : Rd w w.heap.size 1 A2 n2 (l.flatMap encU32)) :
    Calls Try.prog 36 #[.pointer (some ⟨g, 0, none⟩), .slice A2 n2 c2] w fun e w' => e = .returned (.tuple #[]) ∧ WStB w' S g mb ⟨st.b ++ be4 l, st.x, st.n⟩ w.heap.size ∧ Near S w w' := by
  obtain ⟨vb, vx, D, hB, hob, hox, hsep, hmap, hrel, hSg, hSm, hSb⟩ := hw
  obtain ⟨A, c, rfl, _, hrd⟩ := own_slice hob.1
  refine (four_any g 0 70 _ A A2 st.b.length c n2 c2 st.b l w hB rfl rfl hl2 hm hm2 hx hrd hr2).mono ?_
  rintro e w1 ⟨rfl, A1, c1, hB1, hown1, hn1⟩
  refine ⟨rfl, ⟨_, vx, D, hB1, ?_, hox.keptBut ⟨hn1.os, hn1.tape, hn1.output, hn1.size, fun k hk hne => hn1.block k hk (fun e => hne (by rw [e]))⟩ (row := some g) (fun i hi e => ?_), map_near hmap hn1 (fun e => ?_), hrel, hSg, hSm, hSb, hn1.size⟩, hn1.mono (fun i hi => by rw [hi]; exact hSg)⟩
  · have e1 : (st.b ++ be4 l).length = st.b.length + 4 * n2 := by rw [List.length_append, be4_len, hl2]
    show w1.ownsRow _ _ 1 _ (st.b ++ be4 l).length ((st.b ++ be4 l).flatMap encB)
    rw [e1]
    exact hown1
  · have := own_blk_ne hox.1 hB (by decide)
    exact this (by rw [hi, e])
  · exact blk_map_ne hB hmap e.symm
theorem wfill_any (g mb bb : Nat) (st : WS) (S : Nat → Prop) (A2 : Option Addr) (m c2 : Nat) (l : List Int) (w : World) (hw : WStB w S g mb st bb) (hl2 : l.length = m) (hm : st.b.length + m ≤ 90000000) (hr2 : Rd w w.heap.size 1 A2 m (l.flatMap encB)) :
    Calls Try.prog 80 #[.pointer (some ⟨g, 0, none⟩), .slice A2 m c2] w fun e w' => e = .returned (.tuple #[]) ∧ WStB w' S g mb ⟨fillN (st.b ++ l), st.x, st.n⟩ bb ∧ Near (fun i => i = g ∨ bb ≤ i) w w' := by
  obtain ⟨vb, vx, D, hB, hob, hox, hmap, hrel, hSg, hSm, hSb, hbb⟩ := hw
  refine (fill_any g 0 70 _ vb bb st.b.length A2 m c2 st.b l w hB rfl (by decide) rfl hl2 hm hbb hob hr2).mono ?_
  rintro e w1 ⟨rfl, v1, hB1, hown1, hn1⟩
  refine ⟨rfl, ⟨v1, vx, D, hB1, hown1, ?_, map_near hmap hn1 (fun e => ?_), hrel, hSg, hSm, hSb, Nat.le_trans hbb hn1.size⟩, hn1⟩
  · refine ⟨own_same hox.1 fun k hk => hn1.block k (own_lt hox.1 hk).2 fun e => ?_, hox.2⟩
    rcases e with e | e
    · exact own_blk_ne hox.1 hB (by decide) (by rw [hk, e])
    · have := hSb k (hox.2 k hk)
      omega
  · rcases e with e | e
    · exact blk_map_ne hB hmap e.symm
    · have := hSb mb hSm
      omega
def Bd (st : WS) (n p : Int) : Prop := (st.b.length : Int) ≤ 60 * n + 4200 * p ∧ (st.x.length : Int) ≤ 40 * p ∧ (st.n.length : Int) ≤ p
theorem fillN_le (l : List Int) : (fillN l).length ≤ l.length + 3 := by rw [fillN_len]; omega
theorem textS_b (st : WS) (s : ByteArray) : (textS st s).1.b = st.b := by
  unfold textS
  split <;> rfl
theorem textS_bd (st : WS) (s : ByteArray) : (textS st s).1.x.length ≤ st.x.length + s.size + 1 ∧ (textS st s).1.n.length ≤ st.n.length + 1 := by
  unfold textS
  split
  · exact ⟨by simp; omega, by simp⟩
  · exact ⟨by simp [strB_len]; omega, by simp⟩
theorem nameB_len {s m : ByteArray} (h : nameB s m = true) : s.size ≤ 31 := by
  unfold nameB at h
  simp only [Bool.and_eq_true, decide_eq_true_eq] at h
  omega
theorem prOk_bd {q : Pr} (h : prOk q = true) : q.1.size ≤ 31 ∧ q.2.length ≤ 4096 := by
  unfold prOk at h
  simp only [Bool.and_eq_true, decide_eq_true_eq] at h
  exact ⟨nameB_len h.1, h.2⟩
def headS (nm : ByteArray) (st : WS) : WS := ⟨fillN ((st.b ++ be4 [1]) ++ (strB nm ++ [0])), st.x, st.n⟩
theorem nmOk_len {f : Nat} {nm : ByteArray} (h : nmOk f nm = true) : nm.size ≤ 31 := by
  unfold nmOk at h
  split at h
  · simp only [decide_eq_true_eq] at h
    omega
  · exact nameB_len h
/-- The bounds a little closer: room for the end of each node that stands open. -/
def BdO (st : WS) (n p : Int) (o : Nat) : Prop := (st.b.length : Int) + 4 * o ≤ 60 * n + 4200 * p ∧ (st.x.length : Int) ≤ 40 * p ∧ (st.n.length : Int) ≤ p
theorem nodeS_succ (f : Nat) (t : Tr) (st : WS) : nodeS (f + 1) t st = ⟨(t.ks.foldl (fun s k => nodeS f k s) (t.ps.foldl propS (headS t.nm st))).b ++ be4 [2], (t.ks.foldl (fun s k => nodeS f k s) (t.ps.foldl propS (headS t.nm st))).x, (t.ks.foldl (fun s k => nodeS f k s) (t.ps.foldl propS (headS t.nm st))).n⟩ := rfl
theorem propS_bdo {st : WS} {n p : Int} {o : Nat} {q : Pr} (h : BdO st n p o) (hq : prOk q = true) : BdO (propS st q) n (p + 1) o := by
  have z := prOk_bd hq
  obtain ⟨h1, h2, h3⟩ := h
  have a := textS_bd st q.1
  have b := fillN_le ((st.b ++ be4 [3, (q.2.length : Int), ((textS st q.1).2 : Int)]) ++ q.2)
  have c := be4_len [3, (q.2.length : Int), ((textS st q.1).2 : Int)]
  simp only [List.length_append, c, List.length_cons, List.length_nil] at b
  refine ⟨?_, ?_, ?_⟩
  · show ((fillN ((st.b ++ be4 [3, (q.2.length : Int), ((textS st q.1).2 : Int)]) ++ q.2)).length : Int) + 4 * o ≤ _
    omega
  · show ((textS st q.1).1.x.length : Int) ≤ _
    omega
  · show ((textS st q.1).1.n.length : Int) ≤ _
    omega
theorem propsS_bdo {o : Nat} : ∀ (l : List Pr) {st : WS} {n p : Int}, BdO st n p o → (∀ q ∈ l, prOk q = true) → BdO (l.foldl propS st) n (p + l.length) o
  | [], _, _, _, h, _ => by simpa using h
  | q :: l, st, n, p, h, hq => by
    have := propsS_bdo l (propS_bdo h (hq q (List.mem_cons_self ..))) (fun q hq' => hq q (List.mem_cons_of_mem _ hq'))
    simp only [List.foldl_cons, List.length_cons]
    rw [show p + ((l.length + 1 : Nat) : Int) = p + 1 + l.length by omega]
    exact this
theorem headS_bdo {st : WS} {n p : Int} {o : Nat} {nm : ByteArray} (h : BdO st n p o) (hn : nm.size ≤ 31) : BdO (headS nm st) (n + 1) p (o + 1) := by
  obtain ⟨h1, h2, h3⟩ := h
  have b := fillN_le ((st.b ++ be4 [1]) ++ (strB nm ++ [0]))
  simp only [List.length_append, be4_len, List.length_cons, List.length_nil, strB_len] at b
  have c : ((headS nm st).b.length : Int) ≤ st.b.length + 4 + 32 + 3 := by
    show ((fillN ((st.b ++ be4 [1]) ++ (strB nm ++ [0]))).length : Int) ≤ _
    omega
  exact ⟨by omega, h2, h3⟩
theorem kidsS_bdo {f o : Nat} (ih : ∀ t c c' st, mayF f t c = some c' → BdO st c.1 c.2 o → BdO (nodeS f t st) c'.1 c'.2 o) : ∀ (l : List Tr) (c c' : Int × Int) (st : WS), kidsF (mayF f) l c = some c' → BdO st c.1 c.2 o → BdO (l.foldl (fun s k => nodeS f k s) st) c'.1 c'.2 o
  | [], c, c', st, h, hb => by
    simp only [kidsF, Option.some.injEq] at h
    subst h
    exact hb
  | k :: l, c, c', st, h, hb => by
    simp only [kidsF, Option.bind_eq_some_iff] at h
    obtain ⟨d, hd, hl⟩ := h
    exact kidsS_bdo ih l d c' _ hl (ih k c d st hd hb)
theorem mayF_inv {f : Nat} {t : Tr} {c c' : Int × Int} (h : mayF (f + 1) t c = some c') : headOk f t c.1 c.2 ∧ kidsF (mayF f) t.ks (c.1 + 1, c.2 + t.ps.length) = some c' ∧ (t.ks.map Tr.nm).Nodup := by
  unfold mayF at h
  split at h
  · rename_i hh
    rw [Option.bind_eq_some_iff] at h
    obtain ⟨d, hd, h⟩ := h
    split at h
    · rename_i hn
      simp only [Option.some.injEq] at h
      subst h
      exact ⟨hh, hd, hn⟩
    · cases h
  · cases h
theorem nodeS_bdo : ∀ (f o : Nat) (t : Tr) (c c' : Int × Int) (st : WS), mayF f t c = some c' → BdO st c.1 c.2 o → BdO (nodeS f t st) c'.1 c'.2 o
  | 0, _, _, _, _, _, h, _ => by simp [mayF] at h
  | f + 1, o, t, c, c', st, h, hb => by
    obtain ⟨hh, hk, _⟩ := mayF_inv h
    have h1 := headS_bdo hb (nmOk_len hh.2.2.1)
    have h2 := propsS_bdo t.ps h1 (fun q hq => List.all_eq_true.1 hh.2.2.2.1 q hq)
    have h3 := kidsS_bdo (o := o + 1) (fun t c c' st => nodeS_bdo f (o + 1) t c c' st) t.ks _ c' _ hk h2
    rw [nodeS_succ]
    obtain ⟨a, b, d⟩ := h3
    refine ⟨?_, b, d⟩
    show (((t.ks.foldl (fun s k => nodeS f k s) (t.ps.foldl propS (headS t.nm st))).b ++ be4 [2]).length : Int) + 4 * o ≤ _
    rw [List.length_append, be4_len]
    simp only [List.length_cons, List.length_nil]
    omega
end Go.Proofs.Ytnkpaockginooaa
