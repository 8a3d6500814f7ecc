/- The document's board of a tree (portreeveref29.BoardOf): a number of a node's property; the plain law of what is read; walked. -/
import Derived.Test.YtnkpaockginooaaHostI
import Derived.Test.YtnkpaockginooaaRegT
namespace Go.Proofs.Ytnkpaockginooaa
set_option linter.unusedVariables false
set_option linter.unusedSimpArgs false
open Go.RowKit Go.Sort

def vval (ps : List Pr) (i a s : Nat) : Int :=
  match ps[i]? with
  | some p => if a + s ≤ p.2.length then numB ((p.2.drop a).take s) else 0
  | none => 0
set_option maxRecDepth 100000 in
set_option maxHeartbeats 2000000 in
theorem rvalue_any (i a s : Nat) (I A' S : Int) (hI : I = i) (hA : A' = a) (hS : S = s) (hi : i ≤ 8) (ha : a ≤ 8) (hs : s ≤ 8) (k : Nat) (t : Tr) (tcs : List Value) (w : World) (ht : TrOk w w.heap.size k t tcs) :
    Calls Try.prog 48 #[.agg tcs.toArray, .int .i64 I, .int .i64 A', .int .i64 S] w fun e w' => e = .returned (.int .u64 (vval t.ps i a s)) ∧ Below w.heap.size w w' := by
  subst hI hA hS
  match k, ht with
  | k + 1, ht =>
  obtain ⟨h0, A1, c1, A2, c2, f, g', rfl, h2, h3, h4, h5, h6, h7, h8, h9⟩ := ht
  have HF := Lib.hid h6
  have HP := Lib.hid h8
  obtain ⟨np, hnp⟩ : ∃ np, t.ps.length = np := ⟨_, rfl⟩
  rw [hnp] at h2 HF ⊢
  generalize t.nm = nm at *
  generalize t.ks.length = nk at *
  unfold maxLen at h3 h5
  obtain ⟨r, hr⟩ : ∃ r, vval t.ps i a s = r := ⟨_, rfl⟩
  rw [hr]
  have hT := Blk.new w 25 #[.string nm, .slice A1 np c1, .slice A2 nk c2]
  have hb1 := bal (Below.refl w.heap.size w) (.cells #[.string nm, .slice A1 np c1, .slice A2 nk c2] 25)
  clear h6 h7 h8 h9 h0
  by_cases hlt : i < np
  · obtain ⟨p, hp⟩ : ∃ p, t.ps[i]? = some p := ⟨_, List.getElem?_eq_getElem (by rw [hnp]; exact hlt)⟩
    obtain ⟨_, hbok, Ap, cp, hfj, hcp1, hcp2, hrd⟩ := HP.out i p hp
    obtain ⟨b1, o1, rfl, hbk, hc1⟩ := HF.out (by omega)
    have x1 := (hb1.cell (p := ⟨b1, o1 + (i * 2 + 1), none⟩) hbk).trans (hc1 i hlt 1 (by omega))
    rw [hfj] at x1
    simp only [← Nat.add_assoc, List.getElem?_cons_zero, List.getElem?_cons_succ] at x1
    have HRd := Lib.hid ((hrd.below hb1).more hb1.size)
    have HBk := Lib.hid hbok
    have hr2 : (if a + s ≤ p.2.length then numB ((p.2.drop a).take s) else 0) = r := by
      rw [← hr]
      unfold vval
      rw [hp]
    have HR2 := Lib.hid hr2
    clear hc1 hfj hp hrd hbok hr hr2 hnp
    obtain ⟨pnm, pb⟩ := p
    simp only at x1 hcp1 HRd HBk HR2
    unfold maxLen at hcp2
    go_enter Try.func48, Try.ntmps48
    go_upto_region 1 with (fail)
    generalize w.alloc (.cells #[.string nm, .slice (some ⟨b1, o1, none⟩) np c1, .slice A2 nk c2] 25) = w1 at *
    have cT := hT.cell
    by_cases hle : a + s ≤ pb.length
    · have hN := Lib.hid (refNumber_yes Ap pb.length cp s pb a false w1 rfl HBk.out (by omega) hs hle HRd.out)
      have e9 : numB (seqN pb a s false) = r := by
        rw [← HR2.out, if_pos hle]
        rfl
      rw [e9] at hN
      generalize pb.length = pl at *
      clear HRd HBk HR2
      go_wp2_with (go_at_call 66; refine (hN.out).mono ?_; rintro e w5 ⟨rfl, rfl⟩)
      go_ret
      exact ⟨rfl, hb1⟩
    · have hN := Lib.hid (refNumber_no Ap pb.length cp s a false w1 (by omega) hs (by omega))
      have e9 : r = 0 := by
        rw [← HR2.out, if_neg hle]
      subst e9
      generalize pb.length = pl at *
      clear HRd HBk HR2
      go_wp2_with (go_at_call 66; refine (hN.out).mono ?_; rintro e w5 ⟨rfl, rfl⟩)
      go_ret
      exact ⟨rfl, hb1⟩
  · have e9 : r = 0 := by
      rw [← hr]
      unfold vval
      rw [List.getElem?_eq_none (by omega)]
    subst e9
    clear hr hnp
    go_enter Try.func48, Try.ntmps48
    go_wp2
    go_ret
    exact ⟨rfl, hb1⟩
def rreadB (t k0 k1 k2 : Tr) : Bd := ⟨vval k1.ps 0 0 8, vval k1.ps 0 8 8, vval k2.ps 0 0 8, vval k2.ps 0 8 8, vval t.ps 1 0 4, vval t.ps 2 0 4, k0.ks.length⟩
theorem vval_bd (ps : List Pr) (i a s : Nat) (h : ∀ p ∈ ps, BytesOk p.2) : 0 ≤ vval ps i a s ∧ vval ps i a s < 256 ^ s := by
  have z : (0 : Int) < 256 ^ s := Int.pow_pos (by decide)
  unfold vval
  rcases hp : ps[i]? with _ | p
  · exact ⟨by simp, z⟩
  · simp only
    split
    · rename_i hle
      exact numB_bd s _ (by simp; omega) fun x hx => h p (List.mem_of_getElem? hp) x (List.mem_of_mem_drop (List.mem_of_mem_take hx))
    · exact ⟨by simp, z⟩
theorem rreadB_ok {w : World} {B n0 n1 n2 n3 : Nat} {t k0 k1 k2 : Tr} {c0 c1 c2 c3 : List Value} (ht : TrOk w B n0 t c0) (h0 : TrOk w B n1 k0 c1) (h1 : TrOk w B n2 k1 c2) (h2 : TrOk w B n3 k2 c3) : BdOk (rreadB t k0 k1 k2) := by
  have a := vval_bd k1.ps 0 0 8 h1.bytes
  have b := vval_bd k1.ps 0 8 8 h1.bytes
  have c := vval_bd k2.ps 0 0 8 h2.bytes
  have d := vval_bd k2.ps 0 8 8 h2.bytes
  have e := vval_bd t.ps 1 0 4 ht.bytes
  have f := vval_bd t.ps 2 0 4 ht.bytes
  have g := h0.lens.2
  unfold maxLen at g
  have p8 : (256 : Int) ^ 8 = 18446744073709551616 := by decide
  have p4 : (256 : Int) ^ 4 = 4294967296 := by decide
  rw [p8] at a b c d
  rw [p4] at e f
  exact ⟨a, b, c, d, by unfold I64 rreadB; simp only; omega, by unfold I64 rreadB; simp only; omega, by unfold I64 rreadB; simp only; omega⟩
theorem rread_host (b : Bd) (hb : BdOk b) (hf : fitB b = true) (k0 k1 k2 : Tr) (h : (hostT b).ks = [k0, k1, k2]) : rreadB (hostT b) k0 k1 k2 = b ∧ k0.ks.length ≤ 32 := by
  have hk : [cpusT b.cpus.toNat, stretchT [109, 101, 109, 111, 114, 121] b.rb b.rs, stretchT [108, 111, 97, 100, 101, 114] b.lb b.ls] = [k0, k1, k2] := h
  simp only [List.cons.injEq, and_true] at hk
  obtain ⟨rfl, rfl, rfl⟩ := hk
  have hp := fit_parts hf
  have st : ∀ (l : List Int) (x s : Int), U64 x → U64 s → vval (stretchT l x s).ps 0 0 8 = x ∧ vval (stretchT l x s).ps 0 8 8 = s := by
    intro l x s hx hs
    have h1 : (((regP x s).2).drop 0).take 8 = bytesN 8 false x := by
      simp only [regP, List.flatMap_cons, List.flatMap_nil, List.append_nil, List.drop_zero]
      exact List.take_left' (bytesN_len 8 false x)
    have h2 : (((regP x s).2).drop 8).take 8 = bytesN 8 false s := by
      simp only [regP, List.flatMap_cons, List.flatMap_nil, List.append_nil]
      rw [List.drop_left' (bytesN_len 8 false x)]
      exact List.take_of_length_le (by rw [bytesN_len]; exact Nat.le_refl _)
    have h3 : ((regP x s).2).length = 16 := by simp [regP, bytesN_len]
    constructor
    · show (if 0 + 8 ≤ ((regP x s).2).length then numB ((((regP x s).2).drop 0).take 8) else 0) = x
      rw [h3, h1, if_pos (by decide), be8_back x hx]
    · show (if 8 + 8 ≤ ((regP x s).2).length then numB ((((regP x s).2).drop 8).take 8) else 0) = s
      rw [h3, h2, if_pos (by decide), be8_back s hs]
  have nu : ∀ (x : Int) (hx : 0 ≤ x ∧ x < 4294967296) (ps : List Pr) (i : Nat) (nm : ByteArray) (e : ps[i]? = some (nm, [x].flatMap (bytesN 4 false))), vval ps i 0 4 = x := by
    intro x hx ps i nm e
    unfold vval
    rw [e]
    have h1 : ([x].flatMap (bytesN 4 false)) = bytesN 4 false x := by simp
    simp only [h1, bytesN_len, List.drop_zero]
    rw [if_pos (by decide), List.take_of_length_le (by rw [bytesN_len]; exact Nat.le_refl _), be4_back x hx]
  have e1 := st [109, 101, 109, 111, 114, 121] b.rb b.rs hb.rb hb.rs
  have e2 := st [108, 111, 97, 100, 101, 114] b.lb b.ls hb.lb hb.ls
  have e3 := nu b.irqs (by omega) (hostT b).ps 1 ⟨#[105, 114, 113, 115]⟩ rfl
  have e4 := nu b.strs (by omega) (hostT b).ps 2 ⟨#[115, 116, 114, 101, 97, 109, 115]⟩ rfl
  have e6 : (cpusT b.cpus.toNat).ks.length = b.cpus.toNat := by simp [cpusT, Tr.ks]
  have e5 : (((cpusT b.cpus.toNat).ks.length : Nat) : Int) = b.cpus := by rw [e6]; omega
  unfold rreadB
  rw [e1.1, e1.2, e2.1, e2.2, e3, e4, e5]
  exact ⟨rfl, by rw [e6]; omega⟩
end Go.Proofs.Ytnkpaockginooaa
