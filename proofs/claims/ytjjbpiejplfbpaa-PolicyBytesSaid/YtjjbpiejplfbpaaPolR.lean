/- Chapter 27: a manifest read out of bytes: the plain part. -/
import Derived.Test.YtjjbpiejplfbpaaPolQ
namespace Go.Proofs.Ytjjbpiejplfbpaa
set_option linter.unusedVariables false
open Go.RowKit Go.Sort

/-- The number at a place. -/
def nAt (s : Nat) (l : List Int) (a : Nat) : Int := numB ((l.drop a).take s)
theorem nAt_bd {s : Nat} {l : List Int} (h : BytesOk l) {a : Nat} (hl : a + s ≤ l.length) : 0 ≤ nAt s l a ∧ nAt s l a < 256 ^ s :=
  numB_bd s ((l.drop a).take s) (by simp; omega) (fun x hx => h x (List.mem_of_mem_drop (List.mem_of_mem_take hx)))
def stAt (l : List Int) (a : Nat) : St := ⟨nAt 4 l a, nAt 4 l (a + 4), nAt 8 l (a + 8), nAt 8 l (a + 16), nAt 8 l (a + 24), nAt 4 l (a + 32)⟩
theorem stAt_ok {l : List Int} (h : BytesOk l) {a : Nat} (hl : a + 36 ≤ l.length) : StOk (stAt l a) :=
  ⟨nAt_bd h (by omega), nAt_bd h (by omega), nAt_bd h (by omega), nAt_bd h (by omega), nAt_bd h (by omega)⟩
def recN (l : List Int) : Nat := (nAt 4 l 100).toNat
def gsN (l : List Int) : Nat := (nAt 4 l (104 + 44 * recN l)).toNat
def subB (l : List Int) (a m : Nat) : List Int := (l.drop a).take m
def logOf (l : List Int) : List Int := subB l 100 (4 + 44 * recN l)
/-- The manifest that bytes tell; where its parts lie is not told. -/
def mAt (l : List Int) : Mf := ⟨nAt 4 l 4, nAt 8 l 8, nAt 8 l 16, nAt 8 l 24, nAt 4 l 32, subB l 36 64, none, 0, 0, recsN (logOf l) (recN l), none, 0, 0, (List.range (gsN l)).map fun i => stAt l (108 + 44 * recN l + 36 * i)⟩
def mofOk (l : List Int) : Bool := decide (104 ≤ l.length ∧ 108 + 44 * recN l ≤ l.length) && ofLogOk (logOf l) && decide (l.length = 108 + 44 * recN l + 36 * gsN l) && mputOk (mAt l) && decide (mBytes (mAt l) = l)
/-- A manifest with parts that lie somewhere. -/
def Mf.lie (m : Mf) (A : Option Addr) (n c : Nat) (A2 : Option Addr) (n2 c2 : Nat) : Mf := { m with A := A, n := n, c := c, A2 := A2, n2 := n2, c2 := c2 }
def MofRes (l : List Int) (w : World) (e : Ending) (w' : World) : Prop :=
  (mofOk l = true ∧ (∃ A n c A2 n2 c2, e = .returned (.tuple #[.agg ((mAt l).lie A n c A2 n2 c2).cs.toArray, .int .i64 0]) ∧ MfOk w' w'.heap.size ((mAt l).lie A n c A2 n2 c2) ∧ n ≤ 1000 ∧ n2 ≤ 1000) ∨ mofOk l = false ∧ e = .returned (.tuple #[.agg m0cs, .int .i64 271])) ∧ Below w.heap.size w w'
theorem Rd.subB {w : World} {B n b o : Nat} {l : List Int} (h : Rd w B 1 (some ⟨b, o, none⟩) n (l.flatMap encB)) (hl : l.length = n) {a m : Nat} (ha : a + m ≤ n) : Rd w B 1 (some ⟨b, o + a, none⟩) m ((subB l a m).flatMap encB) := by
  refine ⟨by rw [flatB_len]; simp [Proofs.Ytjjbpiejplfbpaa.subB]; omega, fun hm => ?_⟩
  obtain ⟨b', o', he, hb, _⟩ := h.2 (by omega)
  simp only [Option.some.injEq, Addr.mk.injEq, and_true] at he
  obtain ⟨rfl, rfl⟩ := he
  exact ⟨b, o + a, rfl, hb, h.rangeB hl ha⟩
/-- Numbers read in whatever world keeps the bytes. -/
theorem numAt {A : Option Addr} {n c : Nat} {l : List Int} {w : World} (hl : l.length = n) (hok : BytesOk l) (hm : n ≤ 1000000) (hr : Rd w w.heap.size 1 A n (l.flatMap encB)) {a : Nat} {i : Int} (hi : (a : Int) = i) (h : a + 4 ≤ n) (W : World) (hb : Below w.heap.size w W) :
    Calls Try.prog 29 #[.slice A n c, .int .i64 i] W fun e w' => e = .returned (.int .u32 (nAt 4 l a)) ∧ W = w' := by
  rw [← hi]
  exact number_yes A n c l a W hl hok (by omega) h ((hr.below hb).more hb.size)
theorem wideAt {A : Option Addr} {n c : Nat} {l : List Int} {w : World} (hl : l.length = n) (hok : BytesOk l) (hm : n ≤ 1000000) (hr : Rd w w.heap.size 1 A n (l.flatMap encB)) {a : Nat} {i : Int} (hi : (a : Int) = i) (h : a + 8 ≤ n) (W : World) (hb : Below w.heap.size w W) :
    Calls Try.prog 30 #[.slice A n c, .int .i64 i] W fun e w' => e = .returned (.int .u64 (nAt 8 l a)) ∧ W = w' := by
  rw [← hi]
  exact wide_yes A n c l a W hl hok (by omega) h ((hr.below hb).more hb.size)
theorem store_mf0 (w : World) (v a b c d : Int) : (Instr.build 55 #[(0, .int .u32 v), (1, .int .u64 a), (2, .int .u64 b), (3, .int .u64 c), (4, .int .i64 d)]).run Try.prog w = .ok (.agg (Mf.cs ⟨v, a, b, c, d, List.replicate 64 0, none, 0, 0, [], none, 0, 0, []⟩).toArray) w :=
  run_build w _ _ _ (by kernel_rfl)
theorem build_mf0 (w : World) : (Instr.build 55 #[]).run Try.prog w = .ok (.agg m0cs) w := run_build w _ _ _ (by kernel_rfl)
theorem store_mf {cs : List Value} (hl : cs.length = 71) (h1 : ∀ u ∈ cs, u.oneCell' = true) (w : World) :
    (storeCells ⟨w.heap.size, 0, none⟩ cs 0).run Try.prog (w.alloc (.cells m0cs 55)) = .ok () (w.alloc (.cells cs.toArray 55)) := by
  have := run_storeCells_new (P := Try.prog) w 55 m0cs cs.toArray (by simpa [hl] using (zero_of_info info_mf).2) (by rw [show m0cs.size = 71 by decide +kernel]; simp [hl]) (all_oneCell_toArray h1)
  simpa using this
theorem list2 (n : Nat) (l : List Value) (h : l.length = n) : ∃ f : Nat → Value, l = (List.range n).map f := ⟨_, list_ofV n l h⟩
set_option maxRecDepth 100000 in
theorem build_nodes (w : World) (a b : List Value) (ha : a.length = 32) (hb : b.length = 32) : (Instr.build 51 #[(0, .agg a.toArray), (1, .agg b.toArray)]).run Try.prog w = .ok (.agg (a ++ b).toArray) w := by
  obtain ⟨f, rfl⟩ := list2 32 a ha
  obtain ⟨g, rfl⟩ := list2 32 b hb
  exact run_build w _ _ _ (by kernel_rfl)
theorem arrayAt_run' (w : World) (b o c : Nat) : (Instr.arrayAt 38 (.slice (some ⟨b, o, none⟩) 32 c)).run Try.prog w = .ok (.pointer (some ⟨b, o, none⟩)) w := arrayAt_run w b o c
theorem subB_len {l : List Int} {a m : Nat} (h : a + m ≤ l.length) : (subB l a m).length = m := by simp [subB]; omega
theorem subB_ok {l : List Int} (h : BytesOk l) (a m : Nat) : BytesOk (subB l a m) := fun x hx => h x (List.mem_of_mem_drop (List.mem_of_mem_take hx))
theorem mf_result {w : World} {tmps : Array Value} {g : Nat} {cs : List Value} (hB : Blk w g 55 cs.toArray) (hl : cs.length = 71) (ha : tmps.getD 2 undef = .pointer (some ⟨g, 0, none⟩)) : (results Try.f17 tmps).run Try.prog w = .ok (.tuple #[.agg cs.toArray, tmps.getD 3 undef]) w :=
  results_cell_tmp rfl ha (hB.rangeIn (fun j v hv => by rw [Nat.zero_add]; simpa using hv)) Try.underlying55 rfl (by rw [hl]; kernel_rfl)
/-- A manifest's box with its registers stored. -/
theorem setRegs (m : Mf) (new : List Int) (hm : m.regs.length = 64) (hn : new.length = 64) : setAt m.cs.toArray 5 (new.flatMap encB) = (Mf.cs { m with regs := new }).toArray := by
  have := setAt_parts (new.flatMap encB) (m.regs.flatMap encB) [.int .u32 m.ver, .int .u64 m.vt, .int .u64 m.irq, .int .u64 m.str, .int .i64 m.fr] [.slice m.A m.n m.c, .slice m.A2 m.n2 m.c2] (by rw [flatB_len, flatB_len, hm, hn])
  exact this
theorem setLog (m : Mf) (A : Option Addr) (n c : Nat) (hm : m.regs.length = 64) : m.cs.toArray.setIfInBounds 69 (Value.slice A n c) = (Mf.cs { m with A := A, n := n, c := c }).toArray := by
  have := setAt_parts [.slice A n c] [.slice m.A m.n m.c] ([.int .u32 m.ver, .int .u64 m.vt, .int .u64 m.irq, .int .u64 m.str, .int .i64 m.fr] ++ m.regs.flatMap encB) [.slice m.A2 m.n2 m.c2] rfl
  rw [List.length_append, flatB_len, hm] at this
  simpa [Mf.cs, setAt] using this
theorem setGs (m : Mf) (A : Option Addr) (n c : Nat) (hm : m.regs.length = 64) : m.cs.toArray.setIfInBounds 70 (Value.slice A n c) = (Mf.cs { m with A2 := A, n2 := n, c2 := c }).toArray := by
  have := setAt_parts [.slice A n c] [.slice m.A2 m.n2 m.c2] ([.int .u32 m.ver, .int .u64 m.vt, .int .u64 m.irq, .int .u64 m.str, .int .i64 m.fr] ++ (m.regs.flatMap encB ++ [Value.slice m.A m.n m.c])) [] rfl
  have hl : ([Value.int .u32 m.ver, .int .u64 m.vt, .int .u64 m.irq, .int .u64 m.str, .int .i64 m.fr] ++ (m.regs.flatMap encB ++ [Value.slice m.A m.n m.c])).length = 70 := by
    rw [List.length_append, List.length_append, flatB_len, hm]; rfl
  rw [hl] at this
  simpa [Mf.cs, setAt] using this
theorem range_below {w W : World} {b o B : Nat} {cs : List Value} (h : w.rangeAt b o cs) (hb : b < B) (hw : Below B w W) : W.rangeAt b o cs := fun j v hv => (hw.cell (p := ⟨b, o + j, none⟩) hb).trans (h j v hv)
theorem range_grown {w w6 : World} {b o : Nat} {cs : List Value} (h : w.rangeAt b o cs) (hb : b < w.heap.size) (hw : Below w.heap.size w w6) : ∀ W, (∃ p : Regrown, W = grow (redrawn w6 p.d) p.os) → W.rangeAt b o cs := by
  rintro W ⟨p, rfl⟩
  exact range_below h hb (hw.trans ((below_regrown w6 p.d p.os).mono hw.size))
theorem logN_of (l : List Int) : logN (logOf l) = recN l := by
  unfold logN logOf recN nAt subB
  rw [List.take_take, Nat.min_eq_left (by omega)]
theorem setRegs2 {x4 x8 x16 x24 x32 : Int} {d1 d2 regs : List Int} {M1 : List Value} (hM : Mf.cs ⟨x4, x8, x16, x24, x32, List.replicate 64 0, none, 0, 0, [], none, 0, 0, []⟩ = M1) (hr : d1 ++ d2 = regs) (hl : regs.length = 64) :
    setAt M1.toArray 5 (d1.flatMap encB ++ d2.flatMap encB).toArray.toList = (Mf.cs ⟨x4, x8, x16, x24, x32, regs, none, 0, 0, [], none, 0, 0, []⟩).toArray := by
  rw [← hM, ← List.flatMap_append, hr]
  exact setRegs _ regs (by simp) hl
theorem ofLog_fails {l : List Int} {A : Option Addr} {n c : Nat} {w : World} (h : ofLogOk l = false) (hc : Calls Try.prog 31 #[.slice A n c] w (OfLogRes l w)) :
    Calls Try.prog 31 #[.slice A n c] w fun e w' => e = .returned (.tuple #[.slice none 0 0, .int .i64 250]) ∧ Below w.heap.size w w' :=
  hc.mono fun e w' ⟨hh, hb⟩ => by
    rcases hh with ⟨h', _⟩ | ⟨_, he⟩
    · rw [h] at h'; cases h'
    · exact ⟨he, hb⟩
theorem ofLog_does {l : List Int} {A : Option Addr} {n c q : Nat} {w : World} (h : ofLogOk l = true) (hq : logN l = q) (hc : Calls Try.prog 31 #[.slice A n c] w (OfLogRes l w)) :
    Calls Try.prog 31 #[.slice A n c] w fun e w' => ∃ A c, e = .returned (.tuple #[.slice A q c, .int .i64 0]) ∧ w'.ownsRow w.heap.size 69 35 (.slice A q c) q ((recsN l q).flatMap Rc.cs) ∧ Below w.heap.size w w' :=
  hc.mono fun e w' ⟨hh, hb⟩ => by
    rcases hh with ⟨_, A, c, he, ho⟩ | ⟨h', _⟩
    · rw [hq] at he ho
      exact ⟨A, c, he, ho, hb⟩
    · rw [h] at h'; cases h'
theorem ok_app {a b : List Int} (h : BytesOk a) (k : BytesOk b) : BytesOk (a ++ b) := fun x hx => by
  rcases List.mem_append.1 hx with h' | h'
  · exact h x h'
  · exact k x h'
theorem ok_flat {α : Type} {l : List α} {f : α → List Int} (h : ∀ x ∈ l, BytesOk (f x)) : BytesOk (l.flatMap f) := fun x hx => by
  obtain ⟨y, hy, hx⟩ := List.mem_flatMap.1 hx
  exact h y hy x hx
theorem rc_bytes_ok {r : Rc} (h : RcOk r) : BytesOk r.bytes := ok_app (ok_flat fun _ _ => bytesN_ok _ _ _) h.ok
theorem logBytes_ok {l : List Rc} (h : RcsOk l) : BytesOk (logBytes l) := ok_app (bytesN_ok _ _ _) (ok_flat fun r hr => rc_bytes_ok (h r hr))
theorem stBytes_ok (s : St) : BytesOk (stBytes s) := ok_app (ok_app (ok_app (bytesN_ok _ _ _) (bytesN_ok _ _ _)) (ok_app (ok_app (bytesN_ok _ _ _) (bytesN_ok _ _ _)) (bytesN_ok _ _ _))) (bytesN_ok _ _ _)
theorem mBytes_ok {m : Mf} (hr : BytesOk m.regs) (hl : RcsOk m.log) : BytesOk (mBytes m) :=
  ok_app (ok_app (ok_app (ok_app (ok_app (ok_app (bytesN_ok _ _ _) (bytesN_ok _ _ _)) (ok_app (ok_app (bytesN_ok _ _ _) (bytesN_ok _ _ _)) (bytesN_ok _ _ _))) (bytesN_ok _ _ _)) (ok_app hr (logBytes_ok hl))) (bytesN_ok _ _ _)) (ok_flat fun s _ => stBytes_ok s)
theorem recsN_ok {l : List Int} (h : BytesOk l) : ∀ k, 4 + 44 * k ≤ l.length → RcsOk (recsN l k)
  | 0, _ => fun r hr => by cases hr
  | k + 1, hk => fun r hr => by
    rcases List.mem_append.1 hr with h' | h'
    · exact recsN_ok h k (by omega) r h'
    · simp only [List.mem_cons, List.not_mem_nil, or_false] at h'
      rw [h']; exact recAt_ok h (by omega)
end Go.Proofs.Ytjjbpiejplfbpaa
