/- Chapter 27: the bytes of a manifest tell it: the plain law. -/
import Derived.Test.YtjjbpiejplfbpaaPolRb
namespace Go.Proofs.Ytjjbpiejplfbpaa
set_option linter.unusedVariables false
open Go.RowKit Go.Sort

theorem bytesN_succ (s : Nat) (x : Int) : bytesN (s + 1) false x = bytesN s false (x / 256) ++ [x % 256] := by
  unfold bytesN
  rw [List.range_succ, List.map_append]
  congr 1
  · refine List.map_congr_left fun i hi => ?_
    have hi := List.mem_range.1 hi
    simp only [Bool.false_eq_true, if_false]
    unfold byteN
    rw [show s + 1 - 1 - i = (s - 1 - i) + 1 by omega, Nat.mul_add, Nat.mul_one, Nat.add_comm, Int.pow_add, ← Int.ediv_ediv_of_nonneg (by decide)]
    rfl
  · simp [byteN]
theorem numB_bytesN : ∀ (s : Nat) (x : Int), 0 ≤ x → x < 256 ^ s → numB (bytesN s false x) = x
  | 0, x, h0, h1 => by simp at h1; simp [bytesN, numB]; omega
  | s + 1, x, h0, h1 => by
    rw [bytesN_succ, numB_snoc, numB_bytesN s (x / 256) (by omega) (by rw [Int.pow_succ] at h1; omega)]
    omega
theorem subB_mid {l pre mid post : List Int} {a m : Nat} (hl : l = pre ++ (mid ++ post)) (ha : pre.length = a) (hm : mid.length = m) : subB l a m = mid := by
  subst hl ha hm
  unfold subB
  rw [List.drop_left, List.take_left]
theorem nAt_mid {l pre post : List Int} {s a : Nat} {x : Int} (hl : l = pre ++ (bytesN s false x ++ post)) (ha : pre.length = a) (h0 : 0 ≤ x) (h1 : x < 256 ^ s) : nAt s l a = x := by
  have := subB_mid hl ha (bytesN_len _ _ _)
  unfold nAt
  unfold subB at this
  rw [this, numB_bytesN s x h0 h1]
theorem cut32_in {x : Int} (h0 : 0 ≤ x) (h1 : x < 4294967296) : cut32 x = x := by unfold cut32; omega
theorem may_bd {r : Rc} (h : r.may = true) : (0 ≤ r.kind ∧ r.kind < 4294967296) ∧ (0 ≤ r.idx ∧ r.idx < 4294967296) ∧ 0 ≤ r.err ∧ r.err < 4294967296 := by
  have := of_decide_eq_true h
  omega
theorem rc_split {r : Rc} (h : r.may = true) : r.bytes = bytesN 4 false r.kind ++ (bytesN 4 false r.idx ++ (bytesN 4 false r.err ++ r.dig)) := by
  obtain ⟨h1, h2, h3⟩ := may_bd h
  simp [Rc.bytes, Rc.head, cut32_in h1.1 h1.2, cut32_in h2.1 h2.2, cut32_in h3.1 h3.2]
theorem recAt_mid {l pre post : List Int} {a : Nat} {r : Rc} (hl : l = pre ++ (r.bytes ++ post)) (ha : pre.length = a) (hr : RcOk r) (hm : r.may = true) : recAt l a = r := by
  obtain ⟨h1, h2, h3⟩ := may_bd hm
  rw [rc_split hm] at hl
  have e1 : nAt 4 l a = r.kind := nAt_mid (pre := pre) (by rw [hl]; simp only [List.append_assoc]; rfl) ha h1.1 h1.2
  have e2 : nAt 4 l (a + 4) = r.idx := nAt_mid (pre := pre ++ bytesN 4 false r.kind) (by rw [hl]; simp only [List.append_assoc]; rfl) (by simp [bytesN_len, ha]) h2.1 h2.2
  have e3 : nAt 4 l (a + 8) = r.err := nAt_mid (pre := pre ++ (bytesN 4 false r.kind ++ bytesN 4 false r.idx)) (by rw [hl]; simp only [List.append_assoc]; rfl) (by simp [bytesN_len, ha]) h3.1 h3.2
  have e4 : subB l (a + 12) 32 = r.dig := subB_mid (pre := pre ++ (bytesN 4 false r.kind ++ (bytesN 4 false r.idx ++ bytesN 4 false r.err))) (by rw [hl]; simp only [List.append_assoc]; rfl) (by simp [bytesN_len, ha]) hr.len
  unfold nAt at e1 e2 e3
  unfold subB at e4
  unfold recAt
  rw [e1, e2, e3, e4]
theorem flat_at {α β : Type} (f : α → List β) {l : List α} {k : Nat} (h : k < l.length) : l.flatMap f = (l.take k).flatMap f ++ (f l[k] ++ (l.drop (k + 1)).flatMap f) := by
  have := congrArg (List.flatMap f) (List.take_append_drop k l).symm
  rw [List.drop_eq_getElem_cons h, List.flatMap_append, List.flatMap_cons] at this
  exact this
theorem recsN_bytes {l : List Rc} (h : RcsOk l) (hm : l.all Rc.may = true) : ∀ k, k ≤ l.length → recsN (logBytes l) k = l.take k
  | 0, _ => by simp [recsN]
  | k + 1, hk => by
    have hx : l[k] ∈ l := List.getElem_mem _
    rw [recsN, recsN_bytes h hm k (by omega), List.take_succ_eq_append_getElem (by omega)]
    congr 2
    refine recAt_mid (pre := bytesN 4 false l.length ++ (l.take k).flatMap Rc.bytes) (post := (l.drop (k + 1)).flatMap Rc.bytes) ?_ ?_ (h _ hx) (List.all_eq_true.1 hm _ hx)
    · unfold logBytes
      rw [List.append_assoc, flat_at Rc.bytes (show k < l.length by omega)]
    · rw [List.length_append, bytesN_len]
      have h2 : RcsOk (l.take k) := fun r hr => h r (List.mem_of_mem_take hr)
      have := logBytes_len h2
      unfold logBytes at this
      rw [List.length_append, bytesN_len, List.length_take, Nat.min_eq_left (by omega)] at this
      omega
theorem mBytes_r (m : Mf) : mBytes m = bytesN 4 false 1112359246 ++ (bytesN 4 false m.ver ++ (bytesN 8 false m.vt ++ (bytesN 8 false m.irq ++ (bytesN 8 false m.str ++ (bytesN 4 false (cut32 m.fr) ++ (m.regs ++ (logBytes m.log ++ (bytesN 4 false m.gs.length ++ m.gs.flatMap stBytes)))))))) := by
  simp only [mBytes, mHead, List.append_assoc]
theorem risesFrom_bd : ∀ {l : List St} {a : Int}, -1 ≤ a → risesFrom a l = true → ∀ s ∈ l, 0 ≤ s.g ∧ s.g < 16
  | [], a, h, hr, s, hs => by cases hs
  | x :: l, a, h, hr, s, hs => by
    unfold risesFrom at hr
    simp only [Bool.and_eq_true, decide_eq_true_eq] at hr
    obtain ⟨⟨h1, h2⟩, h3⟩ := hr
    rcases List.mem_cons.1 hs with rfl | hs
    · omega
    · exact risesFrom_bd (by omega) h3 s hs
theorem st_split {s : St} (h : 0 ≤ s.g ∧ s.g < 16) : stBytes s = bytesN 4 false s.g ++ (bytesN 4 false s.ver ++ (bytesN 8 false s.vt ++ (bytesN 8 false s.en ++ (bytesN 8 false s.dt ++ bytesN 4 false s.cpus)))) := by
  simp [stBytes, cut32_in h.1 (show s.g < 4294967296 by omega)]
theorem stAt_mid {l pre post : List Int} {a : Nat} {s : St} (hl : l = pre ++ (stBytes s ++ post)) (ha : pre.length = a) (h : 0 ≤ s.g ∧ s.g < 16) (hs : StOk s) : stAt l a = s := by
  rw [st_split h] at hl
  have e1 : nAt 4 l a = s.g := nAt_mid (pre := pre) (by rw [hl]; simp only [List.append_assoc]; rfl) ha h.1 (by have := h.2; simp; omega)
  have e2 : nAt 4 l (a + 4) = s.ver := nAt_mid (pre := pre ++ bytesN 4 false s.g) (by rw [hl]; simp only [List.append_assoc]; rfl) (by simp [bytesN_len, ha]) hs.ver.1 hs.ver.2
  have e3 : nAt 8 l (a + 8) = s.vt := nAt_mid (pre := pre ++ (bytesN 4 false s.g ++ bytesN 4 false s.ver)) (by rw [hl]; simp only [List.append_assoc]; rfl) (by simp [bytesN_len, ha]) hs.vt.1 hs.vt.2
  have e4 : nAt 8 l (a + 16) = s.en := nAt_mid (pre := pre ++ (bytesN 4 false s.g ++ (bytesN 4 false s.ver ++ bytesN 8 false s.vt))) (by rw [hl]; simp only [List.append_assoc]; rfl) (by simp [bytesN_len, ha]) hs.en.1 hs.en.2
  have e5 : nAt 8 l (a + 24) = s.dt := nAt_mid (pre := pre ++ (bytesN 4 false s.g ++ (bytesN 4 false s.ver ++ (bytesN 8 false s.vt ++ bytesN 8 false s.en)))) (by rw [hl]; simp only [List.append_assoc]; rfl) (by simp [bytesN_len, ha]) hs.dt.1 hs.dt.2
  have e6 : nAt 4 l (a + 32) = s.cpus := nAt_mid (pre := pre ++ (bytesN 4 false s.g ++ (bytesN 4 false s.ver ++ (bytesN 8 false s.vt ++ (bytesN 8 false s.en ++ bytesN 8 false s.dt))))) (post := post) (by rw [hl]; simp only [List.append_assoc]) (by simp [bytesN_len, ha]) hs.cpus.1 hs.cpus.2
  unfold stAt
  rw [e1, e2, e3, e4, e5, e6]
/-- The parts of a manifest's bytes. -/
theorem mAt_bytes {w : World} {B : Nat} {m : Mf} (h : MfOk w B m) (hp : mputOk m = true) (hn : m.n2 ≤ 1000) : recN (mBytes m) = m.log.length ∧ gsN (mBytes m) = m.gs.length ∧ logOf (mBytes m) = logBytes m.log ∧ mAt (mBytes m) = m.lie none 0 0 none 0 0 ∧ (mBytes m).length = 108 + 44 * m.log.length + 36 * m.gs.length ∧ ofLogOk (logBytes m.log) = true := by
  unfold mputOk at hp
  simp only [Bool.and_eq_true, decide_eq_true_eq] at hp
  obtain ⟨⟨hl, hf⟩, hr⟩ := hp
  unfold lputOk at hl
  simp only [Bool.and_eq_true, decide_eq_true_eq] at hl
  obtain ⟨hl1, hl2⟩ := hl
  have hgl := h.gl
  have hll := logBytes_len h.lo
  have e0 : nAt 4 (mBytes m) 4 = m.ver := nAt_mid (pre := bytesN 4 false 1112359246) (by rw [mBytes_r]) (by simp [bytesN_len]) h.ver.1 h.ver.2
  have e1 : nAt 8 (mBytes m) 8 = m.vt := nAt_mid (pre := bytesN 4 false 1112359246 ++ bytesN 4 false m.ver) (by rw [mBytes_r]; simp only [List.append_assoc]; rfl) (by simp [bytesN_len]) h.vt.1 h.vt.2
  have e2 : nAt 8 (mBytes m) 16 = m.irq := nAt_mid (pre := bytesN 4 false 1112359246 ++ (bytesN 4 false m.ver ++ bytesN 8 false m.vt)) (by rw [mBytes_r]; simp only [List.append_assoc]; rfl) (by simp [bytesN_len]) h.irq.1 h.irq.2
  have e3 : nAt 8 (mBytes m) 24 = m.str := nAt_mid (pre := bytesN 4 false 1112359246 ++ (bytesN 4 false m.ver ++ (bytesN 8 false m.vt ++ bytesN 8 false m.irq))) (by rw [mBytes_r]; simp only [List.append_assoc]; rfl) (by simp [bytesN_len]) h.str.1 h.str.2
  have e4 : nAt 4 (mBytes m) 32 = cut32 m.fr := nAt_mid (pre := bytesN 4 false 1112359246 ++ (bytesN 4 false m.ver ++ (bytesN 8 false m.vt ++ (bytesN 8 false m.irq ++ bytesN 8 false m.str)))) (by rw [mBytes_r]; simp only [List.append_assoc]; rfl) (by simp [bytesN_len]) (cut32_ok _).1 (cut32_ok _).2
  have e5 : subB (mBytes m) 36 64 = m.regs := subB_mid (pre := bytesN 4 false 1112359246 ++ (bytesN 4 false m.ver ++ (bytesN 8 false m.vt ++ (bytesN 8 false m.irq ++ (bytesN 8 false m.str ++ bytesN 4 false (cut32 m.fr)))))) (by rw [mBytes_r]; simp only [List.append_assoc]; rfl) (by simp [bytesN_len]) h.rl
  have e6 : nAt 4 (mBytes m) 100 = m.log.length := nAt_mid (pre := bytesN 4 false 1112359246 ++ (bytesN 4 false m.ver ++ (bytesN 8 false m.vt ++ (bytesN 8 false m.irq ++ (bytesN 8 false m.str ++ (bytesN 4 false (cut32 m.fr) ++ m.regs)))))) (by rw [mBytes_r]; simp only [List.append_assoc, logBytes]; rfl) (by simp [bytesN_len, h.rl]) (by omega) (by simp; omega)
  have r0 : recN (mBytes m) = m.log.length := by unfold recN; rw [e6]; rfl
  have e7 : logOf (mBytes m) = logBytes m.log := by
    unfold logOf
    exact subB_mid (pre := bytesN 4 false 1112359246 ++ (bytesN 4 false m.ver ++ (bytesN 8 false m.vt ++ (bytesN 8 false m.irq ++ (bytesN 8 false m.str ++ (bytesN 4 false (cut32 m.fr) ++ m.regs)))))) (by rw [mBytes_r]; simp only [List.append_assoc]; rfl) (by simp [bytesN_len, h.rl]) (by rw [hll, r0])
  have e8 : nAt 4 (mBytes m) (104 + 44 * m.log.length) = m.gs.length := nAt_mid (pre := bytesN 4 false 1112359246 ++ (bytesN 4 false m.ver ++ (bytesN 8 false m.vt ++ (bytesN 8 false m.irq ++ (bytesN 8 false m.str ++ (bytesN 4 false (cut32 m.fr) ++ (m.regs ++ logBytes m.log))))))) (by rw [mBytes_r]; simp only [List.append_assoc]; rfl) (by simp [bytesN_len, h.rl, hll]; omega) (by omega) (by simp; omega)
  have r1 : gsN (mBytes m) = m.gs.length := by unfold gsN; rw [r0, e8]; rfl
  have r2 : (mBytes m).length = 108 + 44 * m.log.length + 36 * m.gs.length := by
    rw [mBytes_r]
    simp only [List.length_append, bytesN_len, hll, h.rl, flatSt_len]
    omega
  have r3 : recsN (logBytes m.log) m.log.length = m.log := by rw [recsN_bytes h.lo hl2 _ (Nat.le_refl _), List.take_length]
  have r4 : (List.range m.gs.length).map (fun i => stAt (mBytes m) (108 + 44 * m.log.length + 36 * i)) = m.gs := by
    refine List.ext_getElem (by simp) fun i h1 h2 => ?_
    have hx : m.gs[i] ∈ m.gs := List.getElem_mem _
    rw [List.getElem_map, List.getElem_range]
    refine stAt_mid (pre := bytesN 4 false 1112359246 ++ (bytesN 4 false m.ver ++ (bytesN 8 false m.vt ++ (bytesN 8 false m.irq ++ (bytesN 8 false m.str ++ (bytesN 4 false (cut32 m.fr) ++ (m.regs ++ (logBytes m.log ++ (bytesN 4 false m.gs.length ++ (m.gs.take i).flatMap stBytes))))))))) (post := (m.gs.drop (i + 1)).flatMap stBytes) ?_ ?_ (risesFrom_bd (by omega) hr _ hx) (h.go _ hx)
    · rw [mBytes_r, flat_at stBytes h2]
      simp only [List.append_assoc]
    · simp only [List.length_append, bytesN_len, hll, h.rl, flatSt_len, List.length_take]
      omega
  have hfr : cut32 m.fr = m.fr := cut32_in hf.1 (by omega)
  have rn : logN (logBytes m.log) = m.log.length := by rw [← e7, logN_of, r0]
  refine ⟨r0, r1, e7, ?_, r2, ?_⟩
  · unfold mAt
    rw [r1, r0, e0, e1, e2, e3, e4, e5, e7, r3, r4, hfr]
    rfl
  · unfold ofLogOk
    rw [rn, hll, r3, hl2, decide_eq_true (by omega)]; rfl
/-- What is put is a manifest's bytes. -/
theorem mofOk_bytes {w : World} {B : Nat} {m : Mf} (h : MfOk w B m) (hp : mputOk m = true) (hn : m.n2 ≤ 1000) : mofOk (mBytes m) = true := by
  obtain ⟨r0, r1, e7, e8, r2, e9⟩ := mAt_bytes h hp hn
  unfold mofOk
  rw [e8, e7, e9, r0, r1, r2, (mputOk_lie m none 0 0 none 0 0).1, (mputOk_lie m none 0 0 none 0 0).2, hp, decide_eq_true rfl, decide_eq_true (show 104 ≤ 108 + 44 * m.log.length + 36 * m.gs.length ∧ 108 + 44 * m.log.length ≤ 108 + 44 * m.log.length + 36 * m.gs.length by omega)]
  simp
theorem mfEq_lie {w : World} {B : Nat} {m : Mf} (h : MfOk w B m) (hp : mputOk m = true) (hn : m.n2 ≤ 1000) (A : Option Addr) (n c : Nat) (A2 : Option Addr) (n2 c2 : Nat) : mfEq ((mAt (mBytes m)).lie A n c A2 n2 c2) m = true := by
  obtain ⟨r0, r1, e7, e8, r2, e9⟩ := mAt_bytes h hp hn
  rw [e8]
  exact mfEq_self m
end Go.Proofs.Ytjjbpiejplfbpaa
