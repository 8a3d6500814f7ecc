/- What is written is read back: the plain law of Put and Of. -/
import Derived.Test.YtnkpaockginooaaOfE
namespace Go.Proofs.Ytnkpaockginooaa
set_option linter.unusedVariables false
set_option linter.unusedSimpArgs false
open Go.RowKit Go.Sort
theorem strOfNums_strB (s : ByteArray) : strOfNums (strB s) = s := by
  obtain ⟨⟨l⟩⟩ := s
  have h := strOfNums_data (strB ⟨⟨l⟩⟩)
  have e : (strOfNums (strB ⟨⟨l⟩⟩)).data = ⟨l⟩ := by
    apply Array.ext'
    rw [h]
    simp only [strB, List.map_map]
    rw [show ((fun n : Int => UInt8.ofNat n.toNat) ∘ fun b : UInt8 => (b.toNat : Int)) = id from funext fun b => by simp, List.map_id]
  generalize strOfNums (strB ⟨⟨l⟩⟩) = q at *
  cases q
  simp_all
theorem txt_at {x pre s post : List Int} {a : Nat} (hx : x = pre ++ (s ++ 0 :: post)) (ha : a = pre.length) (h : ∀ y ∈ s, y ≠ 0) : txt x a = some s := by
  subst hx ha
  have e : txtL (pre ++ (s ++ 0 :: post)) pre.length = s := by
    unfold txtL
    rw [List.drop_left, List.takeWhile_append_of_pos (by intro y hy; simpa using h y hy)]
    simp
  unfold txt
  rw [e, if_pos (by simp)]
theorem four4_at {b pre post : List Int} {a : Nat} {v : Int} (hb : b = pre ++ (bytesN 4 false v ++ post)) (ha : a = pre.length) (h : 0 ≤ v ∧ v < 4294967296) : four4 b a = some v := by
  subst hb ha
  rw [four4_yes (by simp [bytesN_len] <;> omega), List.drop_left, List.take_left' (bytesN_len 4 false v), numB_bytesN 4 v h.1 h.2]
theorem be4_3 (x y z : Int) : be4 [x, y, z] = bytesN 4 false x ++ (bytesN 4 false y ++ bytesN 4 false z) := by simp [be4]
theorem be4_1 (x : Int) : be4 [x] = bytesN 4 false x := by simp [be4]
/-- Each text lies where the map says. -/
def XOk (st : WS) : Prop := ∀ s p, lookN st.n s = some p → ∃ pre post, st.x = pre ++ (strB s ++ 0 :: post) ∧ p = pre.length
theorem textS_ok {st : WS} (s : ByteArray) (h : XOk st) : XOk (textS st s).1 ∧ (∃ m, (textS st s).1.x = st.x ++ m) ∧ ∃ pre post, (textS st s).1.x = pre ++ (strB s ++ 0 :: post) ∧ (textS st s).2 = pre.length := by
  unfold textS
  rcases hl : lookN st.n s with _ | p
  · refine ⟨fun q p hq => ?_, ⟨_, rfl⟩, st.x, [], rfl, rfl⟩
    dsimp only at hq ⊢
    rw [lookN_app _ _ _ _ hl] at hq
    split at hq
    · rename_i e
      subst e
      simp only [Option.some.injEq] at hq
      exact ⟨st.x, [], rfl, hq.symm⟩
    · obtain ⟨pre, post, h1, h2⟩ := h q p hq
      exact ⟨pre, post ++ (strB s ++ [0]), by rw [h1]; simp, h2⟩
  · obtain ⟨pre, post, h1, h2⟩ := h s p hl
    exact ⟨h, ⟨[], by simp⟩, pre, post, h1, h2⟩
theorem propS_pre {st : WS} (p : Pr) (h : XOk st) : XOk (propS st p) ∧ (propS st p).b.length % 4 = 0 ∧ (∃ m, (propS st p).b = st.b ++ m ∧ 12 ≤ m.length) ∧ ∃ m, (propS st p).x = st.x ++ m := by
  obtain ⟨h1, ⟨m, h2⟩, _⟩ := textS_ok p.1 h
  refine ⟨h1, ?_, ⟨_, by simp only [propS, fillN, List.append_assoc]; rfl, ?_⟩, m, h2⟩
  · simp only [propS]
    rw [fillN_len]
    omega
  · simp only [List.length_append, be4_len, List.length_cons, List.length_nil]
    omega
theorem prop_step {g : Nat → Nat → Option (Tr × Nat × Nat)} {b x pre post m : List Int} {st : WS} {p : Pr} (acc : List Pr) (ks : List Tr) (f l : Nat) (h : XOk st) (hn : ∀ y ∈ strB p.1, y ≠ 0) (hv : p.2.length ≤ 4096) (hm : st.b.length % 4 = 0)
    (hb : b = pre ++ ((propS st p).b ++ post)) (hx : x = (propS st p).x ++ m) (hxl : x.length < 4294967296) :
    itemsP g b x (f + 1) acc ks (pre.length + st.b.length) l = itemsP g b x f (acc ++ [p]) ks (pre.length + (propS st p).b.length) l := by
  obtain ⟨_, _, xp, xq, h1, h2⟩ := textS_ok p.1 h
  obtain ⟨q, hq⟩ : ∃ q, (textS st p.1).2 = q := ⟨_, rfl⟩
  have hqx : q ≤ x.length := by
    rw [hx]
    simp only [propS]
    rw [h1, ← hq, h2]
    simp <;> omega
  have hbb : b = pre ++ (st.b ++ (bytesN 4 false 3 ++ (bytesN 4 false p.2.length ++ (bytesN 4 false q ++ (p.2 ++ (List.replicate ((4 - (((st.b ++ be4 [3, p.2.length, (q : Int)]) ++ p.2).length) % 4) % 4) 0 ++ post)))))) := by
    rw [hb]
    simp only [propS, fillN, hq, be4_3, List.append_assoc]
  have hlen := congrArg List.length hbb
  simp only [List.length_append, bytesN_len, be4_len, List.length_cons, List.length_nil, List.length_replicate] at hlen
  have hl2 : (propS st p).b.length = st.b.length + 12 + p.2.length + (4 - (st.b.length + 12 + p.2.length) % 4) % 4 := by
    simp only [propS, fillN_len, List.length_append, be4_len, List.length_cons, List.length_nil]
  have f3 : four4 b (pre.length + st.b.length) = some 3 := four4_at (pre := pre ++ st.b) (by rw [hbb]; simp only [List.append_assoc]; rfl) (by simp) (by decide)
  have f8 : four4 b (pre.length + st.b.length + 4) = some (p.2.length : Int) := four4_at (pre := pre ++ (st.b ++ bytesN 4 false 3)) (by rw [hbb]; simp only [List.append_assoc]; rfl) (by simp [bytesN_len] <;> omega) (by omega)
  have f12 : four4 b (pre.length + st.b.length + 8) = some (q : Int) := four4_at (pre := pre ++ (st.b ++ (bytesN 4 false 3 ++ bytesN 4 false p.2.length))) (by rw [hbb]; simp only [List.append_assoc]; rfl) (by simp [bytesN_len] <;> omega) (by omega)
  have ft : txt x (q : Int).toNat = some (strB p.1) := txt_at (pre := xp) (post := xq ++ m) (by rw [hx]; simp only [propS]; rw [h1]; simp) (by rw [← hq]; simpa using h2) hn
  rw [itemsP_prop f3 f8 f12 ft (by simp only [Int.toNat_natCast]; omega)]
  have ev : (b.drop (pre.length + st.b.length + 12)).take (p.2.length : Int).toNat = p.2 := by
    have e : b = (pre ++ (st.b ++ (bytesN 4 false 3 ++ (bytesN 4 false p.2.length ++ bytesN 4 false q)))) ++ (p.2 ++ (List.replicate ((4 - (((st.b ++ be4 [3, p.2.length, (q : Int)]) ++ p.2).length) % 4) % 4) 0 ++ post)) := by
      rw [hbb]
      simp only [List.append_assoc]
    rw [e, List.drop_left' (by simp [bytesN_len] <;> omega), Int.toNat_natCast, List.take_left' rfl]
  rw [ev, strOfNums_strB]
  congr 1
  rw [hl2]
  simp only [Int.toNat_natCast, up4]
  omega
theorem props_pre : ∀ (ps : List Pr) {st : WS}, XOk st → st.b.length % 4 = 0 → XOk (ps.foldl propS st) ∧ (ps.foldl propS st).b.length % 4 = 0 ∧ (∃ m, (ps.foldl propS st).b = st.b ++ m ∧ ps.length ≤ m.length) ∧ ∃ m, (ps.foldl propS st).x = st.x ++ m
  | [], st, h, hm => ⟨h, hm, ⟨[], by simp, by simp⟩, [], by simp⟩
  | p :: ps, st, h, hm => by
    obtain ⟨h1, h2, ⟨m1, h3, h4⟩, m2, h5⟩ := propS_pre p h
    obtain ⟨k1, k2, ⟨n1, k3, k4⟩, n2, k5⟩ := props_pre ps h1 h2
    simp only [List.foldl_cons]
    exact ⟨k1, k2, ⟨m1 ++ n1, by rw [k3, h3, List.append_assoc], by simp only [List.length_append, List.length_cons]; omega⟩, m2 ++ n2, by rw [k5, h5, List.append_assoc]⟩
theorem props_step {g : Nat → Nat → Option (Tr × Nat × Nat)} {b x pre : List Int} (ks : List Tr) (f l : Nat) (hxl : x.length < 4294967296) : ∀ (ps : List Pr) (acc : List Pr) {st : WS} {post m : List Int}, XOk st → (∀ p ∈ ps, (∀ y ∈ strB p.1, y ≠ 0) ∧ p.2.length ≤ 4096) → st.b.length % 4 = 0 →
    b = pre ++ ((ps.foldl propS st).b ++ post) → x = (ps.foldl propS st).x ++ m →
    itemsP g b x (ps.length + f) acc ks (pre.length + st.b.length) l = itemsP g b x f (acc ++ ps) ks (pre.length + (ps.foldl propS st).b.length) l
  | [], acc, st, post, m, h, hp, hm, hb, hx => by simp
  | p :: ps, acc, st, post, m, h, hp, hm, hb, hx => by
    obtain ⟨h1, h2, ⟨m1, h3, h4⟩, m2, h5⟩ := propS_pre p h
    obtain ⟨k1, k2, ⟨n1, k3, k4⟩, n2, k5⟩ := props_pre ps h1 h2
    simp only [List.foldl_cons] at hb hx ⊢
    obtain ⟨p1, p2⟩ := hp p (by simp)
    rw [show (p :: ps).length + f = (ps.length + f) + 1 by simp; omega]
    rw [prop_step (pre := pre) (post := n1 ++ post) (m := n2 ++ m) acc ks (ps.length + f) l h p1 p2 hm (by rw [hb, k3, List.append_assoc]) (by rw [hx, k5, List.append_assoc]) hxl]
    rw [props_step ks f l hxl ps (acc ++ [p]) h1 (fun q hq => hp q (by simp [hq])) h2 hb hx, List.append_assoc]
    rfl
theorem name_nz {s more : ByteArray} (h : nameB s more = true) (hm : signB more 0 = false) : (∀ y ∈ strB s, y ≠ 0) ∧ s.size ≤ 31 := by
  unfold nameB at h
  simp only [Bool.and_eq_true, decide_eq_true_eq, List.all_eq_true] at h
  refine ⟨fun y hy e => ?_, h.2⟩
  have := h.1.1 y hy
  rw [e, hm] at this
  cases this
theorem nm_nz {f : Nat} {s : ByteArray} (h : nmOk f s = true) : ∀ y ∈ strB s, y ≠ 0 := by
  unfold nmOk at h
  split at h
  · have h0 : s.size = 0 := by simpa using h
    intro y hy
    have : (strB s).length = 0 := by rw [strB_len]; exact h0
    rw [List.eq_nil_of_length_eq_zero this] at hy
    cases hy
  · exact (name_nz h (by decide)).1
theorem pr_nz {p : Pr} (h : prOk p = true) : (∀ y ∈ strB p.1, y ≠ 0) ∧ p.2.length ≤ 4096 := by
  unfold prOk at h
  simp only [Bool.and_eq_true, decide_eq_true_eq] at h
  exact ⟨(name_nz h.1 (by decide)).1, h.2⟩
theorem mayF_parts {f : Nat} {t : Tr} {c c' : Int × Int} (h : mayF (f + 1) t c = some c') : headOk f t c.1 c.2 ∧ kidsF (mayF f) t.ks (c.1 + 1, c.2 + t.ps.length) = some c' := by
  unfold mayF at h
  split at h
  · rename_i hh
    simp only [Option.bind_eq_some_iff] at h
    obtain ⟨c1, h1, h2⟩ := h
    split at h2
    · simp only [Option.some.injEq] at h2
      subst h2
      exact ⟨hh, h1⟩
    · cases h2
  · cases h
/-- What a step of the writer leaves alone. -/
def Grows (st st' : WS) (k : Nat) : Prop := XOk st' ∧ st'.b.length % 4 = 0 ∧ (∃ m, st'.b = st.b ++ m ∧ k ≤ m.length) ∧ ∃ m, st'.x = st.x ++ m
theorem kids_pre {f : Nat} (hN : ∀ t st c c', mayF f t c = some c' → XOk st → st.b.length % 4 = 0 → Grows st (nodeS f t st) 1) : ∀ (ks : List Tr) (st : WS) (c c' : Int × Int), kidsF (mayF f) ks c = some c' → XOk st → st.b.length % 4 = 0 → Grows st (ks.foldl (fun s k => nodeS f k s) st) ks.length
  | [], st, c, c', h, hx, hm => ⟨hx, hm, ⟨[], by simp, by simp⟩, [], by simp⟩
  | k :: ks, st, c, c', h, hx, hm => by
    simp only [kidsF, Option.bind_eq_some_iff] at h
    obtain ⟨c1, h1, h2⟩ := h
    obtain ⟨a1, a2, ⟨m1, a3, a4⟩, m2, a5⟩ := hN k st c c1 h1 hx hm
    obtain ⟨b1, b2, ⟨n1, b3, b4⟩, n2, b5⟩ := kids_pre hN ks _ c1 c' h2 a1 a2
    simp only [List.foldl_cons]
    exact ⟨b1, b2, ⟨m1 ++ n1, by rw [b3, a3, List.append_assoc], by simp only [List.length_append, List.length_cons]; omega⟩, m2 ++ n2, by rw [b5, a5, List.append_assoc]⟩
theorem head_b (nm : ByteArray) (st : WS) : (headS nm st).b = st.b ++ (bytesN 4 false 1 ++ (strB nm ++ 0 :: List.replicate ((4 - ((st.b ++ be4 [1]) ++ (strB nm ++ [0])).length % 4) % 4) 0)) := by
  simp only [headS, fillN, be4_1, List.append_assoc, List.cons_append, List.nil_append]
theorem head_len (nm : ByteArray) (st : WS) : (headS nm st).b.length = st.b.length + 4 + (nm.size + 1) + (4 - (st.b.length + 4 + (nm.size + 1)) % 4) % 4 := by
  simp only [headS, fillN_len, List.length_append, be4_len, List.length_cons, List.length_nil, strB_len]
theorem nodeS_b (f : Nat) (t : Tr) (st : WS) : (nodeS (f + 1) t st).b = (t.ks.foldl (fun s k => nodeS f k s) (t.ps.foldl propS (headS t.nm st))).b ++ bytesN 4 false 2 := by
  rw [← be4_1]; rfl
theorem nodeS_x (f : Nat) (t : Tr) (st : WS) : (nodeS (f + 1) t st).x = (t.ks.foldl (fun s k => nodeS f k s) (t.ps.foldl propS (headS t.nm st))).x := rfl
theorem node_pre : ∀ (f : Nat) (t : Tr) (st : WS) (c c' : Int × Int), mayF f t c = some c' → XOk st → st.b.length % 4 = 0 → Grows st (nodeS f t st) 1
  | 0, _, _, _, _, h, _, _ => by simp [mayF] at h
  | f + 1, t, st, c, c', h, hx, hm => by
    obtain ⟨h1, h2⟩ := mayF_parts h
    have hh : XOk (headS t.nm st) := hx
    have hl := head_len t.nm st
    obtain ⟨p1, p2, ⟨m1, p3, p4⟩, m2, p5⟩ := props_pre t.ps hh (by omega)
    obtain ⟨k1, k2, ⟨n1, k3, k4⟩, n2, k5⟩ := kids_pre (node_pre f) t.ks _ _ _ h2 p1 p2
    refine ⟨k1, ?_, ⟨_, by rw [nodeS_b, k3, p3, head_b]; simp only [List.append_assoc]; rfl, ?_⟩, m2 ++ n2, ?_⟩
    · rw [nodeS_b, List.length_append, bytesN_len]
      omega
    · simp only [List.length_append, bytesN_len]
      omega
    · rw [nodeS_x, k5, p5, List.append_assoc]
      rfl
theorem node_one {f : Nat} {t : Tr} {st : WS} {c c' : Int × Int} (h : mayF f t c = some c') (hx : XOk st) (hm : st.b.length % 4 = 0) : ∃ m, (nodeS f t st).b = st.b ++ (bytesN 4 false 1 ++ m) := by
  cases f with
  | zero => simp [mayF] at h
  | succ f =>
    obtain ⟨h1, h2⟩ := mayF_parts h
    have hh : XOk (headS t.nm st) := hx
    have hl := head_len t.nm st
    obtain ⟨p1, p2, ⟨m1, p3, p4⟩, m2, p5⟩ := props_pre t.ps hh (by omega)
    obtain ⟨k1, k2, ⟨n1, k3, k4⟩, n2, k5⟩ := kids_pre (node_pre f) t.ks _ _ _ h2 p1 p2
    exact ⟨_, by rw [nodeS_b, k3, p3, head_b]; simp only [List.append_assoc]; rfl⟩
/-- A node's bytes, wherever they lie, are read as the node. -/
def Back (f : Nat) (b x pre : List Int) (t : Tr) (st : WS) (c c' : Int × Int) : Prop := ∀ post m, b = pre ++ ((nodeS f t st).b ++ post) → x = (nodeS f t st).x ++ m →
  nodeP b x f (pre.length + st.b.length + 4) (200 - c.1).toNat = some (t, pre.length + (nodeS f t st).b.length, (200 - c'.1).toNat)
theorem kids_back {f : Nat} {b x pre : List Int} (hN : ∀ t st c c', mayF f t c = some c' → XOk st → st.b.length % 4 = 0 → Back f b x pre t st c c') (ps : List Pr) (F : Nat) : ∀ (ks : List Tr) (acc : List Tr) (st : WS) (c c' : Int × Int) (post m : List Int), kidsF (mayF f) ks c = some c' → XOk st → st.b.length % 4 = 0 →
    b = pre ++ ((ks.foldl (fun s k => nodeS f k s) st).b ++ post) → x = (ks.foldl (fun s k => nodeS f k s) st).x ++ m →
    itemsP (nodeP b x f) b x (ks.length + F) ps acc (pre.length + st.b.length) (200 - c.1).toNat = itemsP (nodeP b x f) b x F ps (acc ++ ks) (pre.length + (ks.foldl (fun s k => nodeS f k s) st).b.length) (200 - c'.1).toNat
  | [], acc, st, c, c', post, m, h, hx, hm, hb, hxx => by
    simp only [kidsF, Option.some.injEq] at h
    subst h
    simp
  | k :: ks, acc, st, c, c', post, m, h, hx, hm, hb, hxx => by
    simp only [kidsF, Option.bind_eq_some_iff] at h
    obtain ⟨c1, h1, h2⟩ := h
    obtain ⟨a1, a2, ⟨m1, a3, a4⟩, m2, a5⟩ := node_pre f k st c c1 h1 hx hm
    obtain ⟨b1, b2, ⟨n1, b3, b4⟩, n2, b5⟩ := kids_pre (node_pre f) ks _ c1 c' h2 a1 a2
    obtain ⟨q, hq⟩ := node_one h1 hx hm
    simp only [List.foldl_cons] at hb hxx ⊢
    have hbk : b = pre ++ ((nodeS f k st).b ++ (n1 ++ post)) := by rw [hb, b3, List.append_assoc]
    have hxk : x = (nodeS f k st).x ++ (n2 ++ m) := by rw [hxx, b5, List.append_assoc]
    have f1 : four4 b (pre.length + st.b.length) = some 1 := four4_at (pre := pre ++ st.b) (by rw [hbk, hq]; simp only [List.append_assoc]; rfl) (by simp) (by decide)
    rw [show (k :: ks).length + F = (ks.length + F) + 1 by simp; omega, itemsP_kid f1, hN k st c c1 h1 hx hm _ _ hbk hxk]
    simp only [Option.bind_some]
    rw [kids_back hN ps F ks (acc ++ [k]) _ c1 c' post m h2 a1 a2 hb hxx, List.append_assoc]
    rfl
theorem node_back {b x pre : List Int} (hxl : x.length < 4294967296) (hp4 : pre.length % 4 = 0) : ∀ (f : Nat) (t : Tr) (st : WS) (c c' : Int × Int), mayF f t c = some c' → XOk st → st.b.length % 4 = 0 → Back f b x pre t st c c'
  | 0, _, _, _, _, h, _, _ => by simp [mayF] at h
  | f + 1, t, st, c, c', h, hx, hm => by
    intro post m hb hxx
    obtain ⟨⟨g1, g2, g3, g4, g5, g6⟩, h2⟩ := mayF_parts h
    have hh : XOk (headS t.nm st) := hx
    have hl := head_len t.nm st
    have hm0 : (headS t.nm st).b.length % 4 = 0 := by omega
    obtain ⟨p1, p2, ⟨m1, p3, p4⟩, m2, p5⟩ := props_pre t.ps hh hm0
    obtain ⟨k1, k2, ⟨n1, k3, k4⟩, n2, k5⟩ := kids_pre (node_pre f) t.ks _ _ _ h2 p1 p2
    rw [nodeS_b] at hb
    rw [nodeS_x] at hxx
    have hb1 : b = pre ++ ((t.ks.foldl (fun s k => nodeS f k s) (t.ps.foldl propS (headS t.nm st))).b ++ (bytesN 4 false 2 ++ post)) := by rw [hb, List.append_assoc]
    have hb2 : b = pre ++ ((t.ps.foldl propS (headS t.nm st)).b ++ (n1 ++ (bytesN 4 false 2 ++ post))) := by rw [hb1, k3]; simp only [List.append_assoc]
    have hb3 : b = pre ++ ((headS t.nm st).b ++ (m1 ++ (n1 ++ (bytesN 4 false 2 ++ post)))) := by rw [hb2, p3]; simp only [List.append_assoc]
    have hx2 : x = (t.ps.foldl propS (headS t.nm st)).x ++ (n2 ++ m) := by rw [hxx, k5, List.append_assoc]
    have ht : txt b (pre.length + st.b.length + 4) = some (strB t.nm) := txt_at (pre := pre ++ (st.b ++ bytesN 4 false 1)) (by rw [hb3, head_b]; simp only [List.append_assoc, List.cons_append]; rfl) (by simp [bytesN_len] <;> omega) (nm_nz g3)
    have hlen := congrArg List.length hb1
    have hk3 := congrArg List.length k3
    have hp3 := congrArg List.length p3
    simp only [List.length_append, bytesN_len] at hlen hk3 hp3
    have ha : pre.length + st.b.length + 4 + up4 ((strB t.nm).length + 1) = pre.length + (headS t.nm st).b.length := by
      rw [hl, strB_len]
      unfold up4
      omega
    obtain ⟨F, hF⟩ : ∃ F, b.length + 1 = t.ps.length + (t.ks.length + (F + 1)) := ⟨b.length - t.ps.length - t.ks.length, by omega⟩
    have f2 : four4 b (pre.length + (t.ks.foldl (fun s k => nodeS f k s) (t.ps.foldl propS (headS t.nm st))).b.length) = some 2 := four4_at (pre := pre ++ (t.ks.foldl (fun s k => nodeS f k s) (t.ps.foldl propS (headS t.nm st))).b) (by rw [hb1]; simp only [List.append_assoc]; rfl) (by simp) (by decide)
    have hi : itemsP (nodeP b x f) b x (b.length + 1) [] [] (pre.length + st.b.length + 4 + up4 ((strB t.nm).length + 1)) ((200 - c.1).toNat - 1) = some (t.ps, t.ks, pre.length + (t.ks.foldl (fun s k => nodeS f k s) (t.ps.foldl propS (headS t.nm st))).b.length + 4, (200 - c'.1).toNat) := by
      rw [ha, hF, props_step [] _ _ hxl t.ps [] hh (fun p hp => pr_nz (by simpa using List.all_eq_true.1 g4 p hp)) hm0 hb2 hx2]
      have e1 : (200 - c.1).toNat - 1 = (200 - (c.1 + 1)).toNat := by omega
      rw [e1, kids_back (node_back hxl hp4 f) _ (F + 1) t.ks [] _ (c.1 + 1, c.2 + t.ps.length) c' _ _ h2 p1 p2 hb1 hxx, itemsP_end f2]
      simp
    rw [nodeP_some (by omega) ht hi, strOfNums_strB, ← Tr.eta, nodeS_b, List.length_append, bytesN_len, Nat.add_assoc]
end Go.Proofs.Ytnkpaockginooaa
namespace Go.Proofs.Ytnkpaockginooaa
open Go.RowKit Go.Sort
theorem ofOk_back {t : Tr} (h : (putT t).2 = 0) : ofOk (putT t).1 = some t := by
  have hkeep := h
  unfold putT at h
  split at h
  · rename_i hmay
    split at h
    · exact absurd h (by decide)
    · rename_i hsz
      have hput : (putT t).1 = wholeL (putS t) := by
        unfold putT
        rw [if_pos hmay, if_neg hsz]
      obtain ⟨bs, hbs⟩ : ∃ bs, (putT t).1 = bs := ⟨_, rfl⟩
      rw [hbs] at hput ⊢
      obtain ⟨c', hc'⟩ : ∃ c', mayF 8 t (0, 0) = some c' := by
        unfold mayT at hmay
        exact Option.isSome_iff_exists.1 hmay
      have hx0 : XOk ⟨[], [], []⟩ := fun s p hp => by simp [lookN] at hp
      obtain ⟨st, hst⟩ : ∃ st, nodeS 8 t ⟨[], [], []⟩ = st := ⟨_, rfl⟩
      obtain ⟨q, hq⟩ := node_one hc' hx0 rfl
      rw [hst] at hq
      have hS : putS t = ⟨st.b ++ bytesN 4 false 9, st.x, st.n⟩ := by
        unfold putS
        rw [hst, be4_1]
      rw [hS] at hput hsz
      simp only [List.length_append, bytesN_len] at hsz
      obtain ⟨P, hP⟩ : ∃ P, be4 (headL (st.b.length + 4) st.x.length) ++ List.replicate 16 (0 : Int) = P := ⟨_, rfl⟩
      have hPl : P.length = 56 := by
        rw [← hP]
        simp [be4_len, headL]
      have hb1 : bs = (P ++ (st.b ++ bytesN 4 false 9)) ++ st.x := by
        rw [hput]
        simp only [wholeL, List.length_append, bytesN_len]
        rw [← hP]
        simp only [List.append_assoc]
      have hlen : bs.length = 56 + (st.b.length + 4) + st.x.length := by
        rw [hb1]
        simp only [List.length_append, bytesN_len, hPl]
      have hP12 : P = be4 [3490578157, 56 + ((st.b.length + 4 : Nat) : Int) + (st.x.length : Int), 56] ++ (bytesN 4 false (56 + ((st.b.length + 4 : Nat) : Int)) ++ (be4 [40, 17, 16, 0, (st.x.length : Int), ((st.b.length + 4 : Nat) : Int)] ++ List.replicate 16 0)) := by
        rw [← hP]
        simp only [headL, be4, List.flatMap_cons, List.flatMap_nil, List.append_assoc, List.append_nil]
      have h12 : four4 bs 12 = some (56 + ((st.b.length + 4 : Nat) : Int)) := four4_at (pre := be4 [3490578157, 56 + ((st.b.length + 4 : Nat) : Int) + (st.x.length : Int), 56]) (by rw [hb1, hP12]; simp only [List.append_assoc]; rfl) (by simp [be4_len]) (by omega)
      have hpn : (56 + ((st.b.length + 4 : Nat) : Int)).toNat = (P ++ (st.b ++ bytesN 4 false 9)).length := by
        simp only [List.length_append, bytesN_len, hPl]
        omega
      rw [ofOk_in h12 (by rw [hpn]; simp only [List.length_append, bytesN_len, hPl]; omega), hpn]
      have ht : bs.take (P ++ (st.b ++ bytesN 4 false 9)).length = P ++ (st.b ++ bytesN 4 false 9) := by rw [hb1, List.take_left' rfl]
      have hd : bs.drop (P ++ (st.b ++ bytesN 4 false 9)).length = st.x := by rw [hb1, List.drop_left' rfl]
      rw [ht, hd]
      have f1 : four4 (P ++ (st.b ++ bytesN 4 false 9)) 56 = some 1 := four4_at (pre := P) (by rw [hq]; simp only [List.append_assoc, List.nil_append]; rfl) hPl.symm (by decide)
      have hn := node_back (b := P ++ (st.b ++ bytesN 4 false 9)) (x := st.x) (pre := P) (by omega) (by omega) 8 t ⟨[], [], []⟩ (0, 0) c' hc' hx0 rfl (bytesN 4 false 9) [] (by rw [hst]) (by rw [hst]; simp)
      rw [hPl] at hn
      have hn' : nodeP (P ++ (st.b ++ bytesN 4 false 9)) st.x 8 60 200 = some (t, 56 + (nodeS 8 t ⟨[], [], []⟩).b.length, (200 - c'.1).toNat) := hn
      rw [f1]
      simp only [Option.bind_some, if_true, hn']
      rw [if_pos ⟨hkeep, by rw [hbs]⟩]
  · exact absurd h (by decide)
theorem putT_no {t : Tr} (h : ¬ (putT t).2 = 0) : (putT t).1 = [] := by
  unfold putT at h ⊢
  split
  · split
    · rfl
    · rename_i h1 h2
      rw [if_pos h1, if_neg h2] at h
      exact absurd rfl h
  · rfl
end Go.Proofs.Ytnkpaockginooaa
