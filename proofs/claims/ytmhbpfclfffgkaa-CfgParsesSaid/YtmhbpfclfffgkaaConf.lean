/- A configuration, opened. -/
import Derived.Test.YtmhbpfclfffgkaaNest
import Derived.Test.YtmhbpfclfffgkaaNum
namespace Go.Proofs.Ytmhbpfclfffgkaa
set_option linter.unusedVariables false
open Go.RowKit Go.ChangeShapes Go.WideShapes

/-- An interrupt: its number, its processor, is it an edge? -/
structure Iq where
  num : Int
  cpu : Int
  edge : Bool
def encIq (q : Iq) : List Value := [.int .i64 q.num, .int .i64 q.cpu, .bool q.edge]
/-- A guest: its cells; of these: the name, must it run, the four slices; its interrupts and streams. -/
structure Gd where
  cs : List Value
  nm : ByteArray
  mand : Bool
  AW : Option Addr
  nW : Nat
  cW : Nat
  AD : Option Addr
  nD : Nat
  cD : Nat
  AI : Option Addr
  nI : Nat
  cI : Nat
  AS : Option Addr
  nS : Nat
  cS : Nat
  irqs : List Iq
  strs : List Int
structure GOk (w : World) (B : Nat) (g : Gd) : Prop where
  len : g.cs.length = 79
  one : ∀ u ∈ g.cs, u.oneCell' = true
  c0 : g.cs[0]? = some (.string g.nm)
  c1 : g.cs[1]? = some (.bool g.mand)
  cW : g.cs[75]? = some (.slice g.AW g.nW g.cW)
  cD : g.cs[76]? = some (.slice g.AD g.nD g.cD)
  cI : g.cs[77]? = some (.slice g.AI g.nI g.cI)
  cS : g.cs[78]? = some (.slice g.AS g.nS g.cS)
  li : g.irqs.length = g.nI
  ls : g.strs.length = g.nS
  ri : Rd w B 3 g.AI g.nI (g.irqs.flatMap encIq)
  rs : Rd w B 1 g.AS g.nS (g.strs.flatMap encU32)
  bs : ∀ x ∈ g.strs, 0 ≤ x ∧ x < 4294967296
  mI : g.nI ≤ 9223372036854775807
  mS : g.nS ≤ 9223372036854775807
  mW : g.nW ≤ 9223372036854775807
  mD : g.nD ≤ 9223372036854775807
  mN : g.nm.size ≤ 9223372036854775807
def gcs (g : Gd) : List Value := g.cs
theorem ml {n : Nat} (h : n ≤ maxLen) : n ≤ 9223372036854775807 := by unfold maxLen at h; exact h

section
variable {w : World} {B : Nat}
theorem sh_u32 (m : Nat) (cs : List Value) (h : Sh Try.prog w B m 24 cs) : ∃ x, cs = encU32 x ∧ (0 ≤ x ∧ x < 4294967296) := by
  obtain ⟨x, rfl, hw⟩ := sh_int Try.underlying24 h
  refine ⟨x, rfl, ?_⟩
  simp [Lit.wf, IntKind.min, IntKind.max, IntKind.signed, IntKind.bits] at hw
  omega
theorem sh_iq (m : Nat) (cs : List Value) (h : Sh Try.prog w B m 139 cs) : ∃ q, cs = encIq q ∧ True := by
  obtain ⟨m, hl, hf⟩ := sh_struct Try.underlying139 h
  have h0 := sh_field hf 0 3 0 1 rfl (by kernel_rfl)
  have h1 := sh_field hf 1 3 1 1 rfl (by kernel_rfl)
  have h2 := sh_field hf 2 4 2 1 rfl (by kernel_rfl)
  obtain ⟨a, ha, _⟩ := sh_int Try.underlying3 h0
  obtain ⟨b, hb, _⟩ := sh_int Try.underlying3 h1
  obtain ⟨c, hc⟩ := sh_bool Try.underlying4 h2
  rw [show Try.prog.cellsOf 139 = 3 by kernel_rfl] at hl
  exact ⟨⟨a, b, c⟩, list3 hl (piece1 ha) (piece1 hb) (piece1 hc), trivial⟩
theorem sh_any (m : Nat) (t : TypeId) (cs : List Value) (h : Sh Try.prog w B m t cs) : ∃ x : List Value, cs = id x ∧ True := ⟨cs, rfl, trivial⟩
theorem sh_guest (m : Nat) (cs : List Value) (h : Sh Try.prog w B m 70 cs) : ∃ g, cs = gcs g ∧ GOk w B g := by
  have ho := sh_one m 10 _ _ (by kernel_rfl) h
  obtain ⟨m, hl, hf⟩ := sh_struct Try.underlying70 h
  rw [show Try.prog.cellsOf 70 = 79 by kernel_rfl] at hl
  have h0 := sh_field hf 0 9 0 1 rfl (by kernel_rfl)
  have h1 := sh_field hf 1 4 1 1 rfl (by kernel_rfl)
  have hW := sh_field hf 8 65 75 1 rfl (by kernel_rfl)
  have hD := sh_field hf 9 66 76 1 rfl (by kernel_rfl)
  have hI := sh_field hf 10 67 77 1 rfl (by kernel_rfl)
  have hS := sh_field hf 11 68 78 1 rfl (by kernel_rfl)
  obtain ⟨nm, e0, mn⟩ := sh_string Try.underlying9 h0
  obtain ⟨mand, e1⟩ := sh_bool Try.underlying4 h1
  obtain ⟨AW, nW, cW, _, eW, lW, mW, _⟩ := sh_list (enc := id) (ok := fun _ => True) Try.underlying65 (k := 4) (by kernel_rfl) (by decide) (fun m cs h => sh_any m _ cs h) hW
  obtain ⟨AD, nD, cD, _, eD, lD, mD, _⟩ := sh_list (enc := id) (ok := fun _ => True) Try.underlying66 (k := 3) (by kernel_rfl) (by decide) (fun m cs h => sh_any m _ cs h) hD
  obtain ⟨AI, nI, cI, irqs, eI, lI, mI, lenI, _, rI⟩ := sh_list (enc := encIq) (ok := fun _ => True) Try.underlying67 (k := 3) (by kernel_rfl) (by decide) sh_iq hI
  obtain ⟨AS, nS, cS, strs, eS, lS, mS, lenS, bS, rS⟩ := sh_list (enc := encU32) (ok := fun x => 0 ≤ x ∧ x < 4294967296) Try.underlying68 (k := 1) (by kernel_rfl) (by decide) sh_u32 hS
  exact ⟨⟨cs, nm, mand, AW, nW, cW, AD, nD, cD, AI, nI, cI, AS, nS, cS, irqs, strs⟩, rfl, hl, ho, piece1 e0, piece1 e1, piece1 eW, piece1 eD, piece1 eI, piece1 eS, lenI, lenS, rI, rS, bS, ml (Nat.le_trans lI mI), ml (Nat.le_trans lS mS), ml (Nat.le_trans lW mW), ml (Nat.le_trans lD mD), ml mn⟩
end
section
variable {H : Type} {enc : TypeId × Value → H} {w : World}
set_option maxRecDepth 100000 in
theorem open_config {r : Reach} {b0 : Nat} {v : Value} {d : DataW H} {p : List MemPlace}
    (hv : Value.okWide Try.prog w r b0 28 v) (h : DataW.Trod enc Try.prog w 0 (fun _ => true) true 28 v d p) (hlt : ∀ x ∈ p, x.block < w.heap.size) :
    ∃ (ver : Int) (A : Option Addr) (n c : Nat) (A2 : Option Addr) (n2 c2 : Nat) (gs : List Gd), v = .agg #[.int .u32 ver, .slice A n c, .slice A2 n2 c2] ∧ n ≤ 9223372036854775807 ∧ n2 ≤ 9223372036854775807 ∧ gs.length = n ∧ (∀ g ∈ gs, GOk w w.heap.size g) ∧ Rd w w.heap.size 79 A n (gs.flatMap gcs) := by
  obtain ⟨cs, m, rfl, hs⟩ := open_sh Try.underlying28 hv h hlt
  obtain ⟨m, hl, hf⟩ := sh_struct Try.underlying28 hs
  rw [show Try.prog.cellsOf 28 = 3 by kernel_rfl] at hl
  have h0 := sh_field hf 0 24 0 1 rfl (by kernel_rfl)
  have h1 := sh_field hf 1 25 1 1 rfl (by kernel_rfl)
  have h2 := sh_field hf 2 26 2 1 rfl (by kernel_rfl)
  obtain ⟨ver, e0, _⟩ := sh_int Try.underlying24 h0
  obtain ⟨A, n, c, gs, e1, l1, m1, lg, hg, rg⟩ := sh_list (enc := gcs) (ok := GOk w w.heap.size) Try.underlying25 (k := 79) (by kernel_rfl) (by decide) sh_guest h1
  obtain ⟨A2, n2, c2, _, e2, l2, m2, _⟩ := sh_list (enc := id) (ok := fun _ => True) Try.underlying26 (k := 8) (by kernel_rfl) (by decide) (fun m cs h => sh_any m _ cs h) h2
  exact ⟨ver, A, n, c, A2, n2, c2, gs, by rw [list3 hl (piece1 e0) (piece1 e1) (piece1 e2)], ml (Nat.le_trans l1 m1), ml (Nat.le_trans l2 m2), lg, hg, rg⟩
end
end Go.Proofs.Ytmhbpfclfffgkaa
