/- The board of a tree (host.Board); walked. -/
import Derived.Test.YtnkpaockginooaaHostG
import Derived.Test.YtnkpaockginooaaWordGet
namespace Go.Proofs.Ytnkpaockginooaa
set_option linter.unusedVariables false
set_option linter.unusedSimpArgs false
open Go.RowKit Go.Sort

def zeroB : Bd := ⟨0, 0, 0, 0, 0, 0, 0⟩
def cells8 (b : Bd) (bad : Bool) : Array Value := #[.int .u64 b.rb, .int .u64 b.rs, .int .u64 b.lb, .int .u64 b.ls, .int .i64 b.irqs, .int .i64 b.strs, .int .i64 b.cpus, .bool bad]
theorem cells8_bad (b : Bd) (bad s : Bool) : (if s = true then cells8 b bad else (cells8 b bad).setIfInBounds 7 (.bool true)) = cells8 b (bad || !s) := by cases s <;> cases bad <;> rfl
def nIrqs : ByteArray := ⟨#[105, 114, 113, 115]⟩
def nStrs : ByteArray := ⟨#[115, 116, 114, 101, 97, 109, 115]⟩
/-- The board as it is read, and whether something was not there. -/
def preadB (t k0 k1 k2 : Tr) : Bd := ⟨((pspan k1).getD (0, 0)).1, ((pspan k1).getD (0, 0)).2, ((pspan k2).getD (0, 0)).1, ((pspan k2).getD (0, 0)).2, (pnum nIrqs t.ps).getD 0, (pnum nStrs t.ps).getD 0, k0.ks.length⟩
def preadBad (t k1 k2 : Tr) : Bool := (((false || !(pnum nIrqs t.ps).isSome) || !(pnum nStrs t.ps).isSome) || !(pspan k1).isSome) || !(pspan k2).isSome
theorem pnum_bd {w : World} {B : Nat} (s : ByteArray) : ∀ (ps : List Pr), (∀ p ∈ ps, BytesOk p.2) → 0 ≤ (pnum s ps).getD 0 ∧ (pnum s ps).getD 0 < 4294967296
  | [], _ => by simp [pnum]
  | p :: ps, h => by
    unfold pnum
    split
    · rename_i hc
      have := numB_bd 4 p.2 hc.2 (h p (List.mem_cons_self ..))
      simpa using this
    · exact pnum_bd (w := w) (B := B) s ps fun q hq => h q (List.mem_cons_of_mem _ hq)
theorem TrOk.bytes : ∀ {w : World} {B n : Nat} {t : Tr} {cs : List Value}, TrOk w B n t cs → ∀ p ∈ t.ps, BytesOk p.2
  | _, _, 0, _, _, h => h.elim
  | _, _, n + 1, t, _, ⟨_, _, _, _, _, _, _, _, _, _, _, _, _, _, h8, _⟩ => fun p hp => by
    obtain ⟨i, hi⟩ := List.mem_iff_getElem?.1 hp
    exact (h8 i p hi).2.1
theorem TrOk.lens : ∀ {w : World} {B n : Nat} {t : Tr} {cs : List Value}, TrOk w B n t cs → t.ps.length ≤ maxLen ∧ t.ks.length ≤ maxLen
  | _, _, 0, _, _, h => h.elim
  | _, _, n + 1, t, _, ⟨_, _, _, _, _, _, _, _, h2, h3, h4, h5, _⟩ => ⟨Nat.le_trans h2 h3, Nat.le_trans h4 h5⟩
theorem pspan_bd {t : Tr} (h : ∀ p ∈ t.ps, BytesOk p.2) : U64 ((pspan t).getD (0, 0)).1 ∧ U64 ((pspan t).getD (0, 0)).2 := by
  have z : U64 0 := ⟨by decide, by decide⟩
  unfold pspan
  match hps : t.ps with
  | [] => exact ⟨z, z⟩
  | [p] =>
    rw [hps] at h
    have hb := h p (List.mem_singleton.2 rfl)
    by_cases h16 : p.2.length = 16
    · have h1 := numB_bd 8 (p.2.take 8) (by simp; omega) fun x hx => hb x (List.mem_of_mem_take hx)
      have h2 := numB_bd 8 (p.2.drop 8) (by simp; omega) fun x hx => hb x (List.mem_of_mem_drop hx)
      simp only [h16, if_true, Option.getD_some]
      unfold U64
      simpa using ⟨h1, h2⟩
    · simp only [h16, if_false, Option.getD_none]
      exact ⟨z, z⟩
  | p :: q :: l => exact ⟨z, z⟩
theorem preadB_ok {w : World} {B n0 n1 n2 n3 : Nat} {t k0 k1 k2 : Tr} {c0 c1 c2 c3 : List Value} (ht : TrOk w B n0 t c0) (h0 : TrOk w B n1 k0 c1) (h1 : TrOk w B n2 k1 c2) (h2 : TrOk w B n3 k2 c3) : BdOk (preadB t k0 k1 k2) := by
  have a := pspan_bd h1.bytes
  have b := pspan_bd h2.bytes
  have c := pnum_bd (w := w) (B := B) nIrqs t.ps ht.bytes
  have d := pnum_bd (w := w) (B := B) nStrs t.ps ht.bytes
  have e := h0.lens.2
  unfold maxLen at e
  exact ⟨a.1, a.2, b.1, b.2, by unfold I64 preadB; simp only; omega, by unfold I64 preadB; simp only; omega, by unfold I64 preadB; simp only; omega⟩
/-- A board whose tree this is. -/
def IsB (t : Tr) (b : Bd) : Prop := BdOk b ∧ fitB b = true ∧ hostT b = t
/-- What is answered. -/
def BRes (t : Tr) (x : Bd) (e : Int) : Prop := (e = 0 ∧ IsB t x) ∨ (e = 282 ∧ x = zeroB ∧ ∀ b, ¬ IsB t b)
theorem be4_back (x : Int) (h : 0 ≤ x ∧ x < 4294967296) : numB (bytesN 4 false x) = x := numB_bytesN 4 x h.1 h.2
theorem be8_back (x : Int) (h : U64 x) : numB (bytesN 8 false x) = x := numB_bytesN 8 x h.1 h.2
theorem pspan_stretch (l : List Int) (b s : Int) (hb : U64 b) (hs : U64 s) : pspan (stretchT l b s) = some (b, s) := by
  have h1 : ((regP b s).2).take 8 = bytesN 8 false b := by
    simp only [regP, List.flatMap_cons, List.flatMap_nil, List.append_nil]
    exact List.take_left' (bytesN_len 8 false b)
  have h2 : ((regP b s).2).drop 8 = bytesN 8 false s := by
    simp only [regP, List.flatMap_cons, List.flatMap_nil, List.append_nil]
    exact List.drop_left' (bytesN_len 8 false b)
  have h3 : ((regP b s).2).length = 16 := by simp [regP, bytesN_len]
  show (if ((regP b s).2).length = 16 then some (numB (((regP b s).2).take 8), numB (((regP b s).2).drop 8)) else none) = _
  rw [if_pos h3, h1, h2, be8_back b hb, be8_back s hs]
theorem fit_parts {b : Bd} (hf : fitB b = true) : (0 ≤ b.irqs ∧ b.irqs ≤ 1020) ∧ (0 ≤ b.strs ∧ b.strs ≤ 256) ∧ (1 ≤ b.cpus ∧ b.cpus ≤ 32) := by
  unfold fitB at hf
  simp only [Bool.and_eq_true] at hf
  exact ⟨inB_yes hf.1.1.2, inB_yes hf.1.2, inB_yes hf.2⟩
theorem pnum_irqs (b : Bd) (hf : fitB b = true) : pnum nIrqs (hostT b).ps = some b.irqs := by
  have hp := fit_parts hf
  have h0 : pnum nIrqs (hostT b).ps = pnum nIrqs [irqsP b.irqs, strsP b.strs] := pnum_no (p := hcompP) (fun h => absurd h.1 (by decide +kernel))
  rw [h0, pnum_yes (s := nIrqs) (p := irqsP b.irqs) rfl (by simp [irqsP, bytesN_len])]
  have : (irqsP b.irqs).2 = bytesN 4 false b.irqs := by simp [irqsP]
  rw [this, be4_back _ (by omega)]
theorem pnum_strs (b : Bd) (hf : fitB b = true) : pnum nStrs (hostT b).ps = some b.strs := by
  have hp := fit_parts hf
  have h0 : pnum nStrs (hostT b).ps = pnum nStrs [irqsP b.irqs, strsP b.strs] := pnum_no (p := hcompP) (fun h => absurd h.1 (by decide +kernel))
  have h1 : pnum nStrs [irqsP b.irqs, strsP b.strs] = pnum nStrs [strsP b.strs] := pnum_no (p := irqsP b.irqs) (fun h => absurd h.1 (by
    show ¬ ((⟨#[105, 114, 113, 115]⟩ : ByteArray) = nStrs)
    decide +kernel))
  rw [h0, h1, pnum_yes (s := nStrs) (p := strsP b.strs) rfl (by simp [strsP, bytesN_len])]
  have : (strsP b.strs).2 = bytesN 4 false b.strs := by simp [strsP]
  rw [this, be4_back _ (by omega)]
/-- A board is read out of its tree. -/
theorem read_host (b : Bd) (hb : BdOk b) (hf : fitB b = true) (k0 k1 k2 : Tr) (h : (hostT b).ks = [k0, k1, k2]) : preadB (hostT b) k0 k1 k2 = b ∧ preadBad (hostT b) k1 k2 = false := by
  have hk : [cpusT b.cpus.toNat, stretchT [109, 101, 109, 111, 114, 121] b.rb b.rs, stretchT [108, 111, 97, 100, 101, 114] b.lb b.ls] = [k0, k1, k2] := h
  simp only [List.cons.injEq, and_true] at hk
  obtain ⟨rfl, rfl, rfl⟩ := hk
  have hp := fit_parts hf
  have e1 := pspan_stretch [109, 101, 109, 111, 114, 121] b.rb b.rs hb.rb hb.rs
  have e2 := pspan_stretch [108, 111, 97, 100, 101, 114] b.lb b.ls hb.lb hb.ls
  have e3 := pnum_irqs b hf
  have e4 := pnum_strs b hf
  have e5 : (((cpusT b.cpus.toNat).ks.length : Nat) : Int) = b.cpus := by
    have : (cpusT b.cpus.toNat).ks.length = b.cpus.toNat := by simp [cpusT, Tr.ks]
    rw [this]
    omega
  unfold preadB preadBad
  rw [e1, e2, e3, e4, e5]
  exact ⟨rfl, rfl⟩
theorem isB_inj {t : Tr} {a b : Bd} (ha : IsB t a) (hb : IsB t b) : a = b := by
  obtain ⟨a1, a2, a3⟩ := ha
  obtain ⟨b1, b2, b3⟩ := hb
  have ra := (read_host a a1 a2 _ _ _ rfl).1
  have rb := (read_host b b1 b2 _ _ _ rfl).1
  have hk : (hostT a).ks = (hostT b).ks := by rw [a3, b3]
  have hk' : [cpusT a.cpus.toNat, stretchT [109, 101, 109, 111, 114, 121] a.rb a.rs, stretchT [108, 111, 97, 100, 101, 114] a.lb a.ls] = [cpusT b.cpus.toNat, stretchT [109, 101, 109, 111, 114, 121] b.rb b.rs, stretchT [108, 111, 97, 100, 101, 114] b.lb b.ls] := hk
  simp only [List.cons.injEq, and_true] at hk'
  rw [← ra, ← rb, a3, b3, hk'.1, hk'.2.1, hk'.2.2]
theorem bRes_inj {t : Tr} {x y : Bd} {e f : Int} (h : BRes t x e) (k : BRes t y f) : x = y ∧ e = f := by
  rcases h with ⟨rfl, h⟩ | ⟨rfl, rfl, h⟩ <;> rcases k with ⟨rfl, k⟩ | ⟨rfl, rfl, k⟩
  · exact ⟨isB_inj h k, rfl⟩
  · exact absurd h (k x)
  · exact absurd k (h y)
  · exact ⟨rfl, rfl⟩
theorem isB_kids {t : Tr} {b : Bd} (h : IsB t b) : ∃ k0 k1 k2, t.ks = [k0, k1, k2] := by
  obtain ⟨_, _, rfl⟩ := h
  exact ⟨_, _, _, rfl⟩
end Go.Proofs.Ytnkpaockginooaa
